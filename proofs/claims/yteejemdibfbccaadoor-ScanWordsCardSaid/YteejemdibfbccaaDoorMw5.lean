/-
  ScanWordsCardSaid is proved: of every text ScanWords returns true and leaves its argument as it was; the listed tables are tied to the program's text.
-/
import Derived.Test.YteejemdibfbccaaDoorCards
import Derived.Test.YteejemdibfbccaaDoorTie
import Derived.Test.YteejemdibfbccaaDoorMw4
/-
  Contract: ScanWords (law).
-/
namespace Go.Proofs.YteejemdibfbccaaDoor
open Go.AX Go.RowKit Go.Scan
set_option maxRecDepth 20000

theorem kw_in : ∀ s ∈ kwL, inB s = true ∧ icB s = false ∧ iiB s = false := by decide +kernel
theorem name_not {s : List UInt8} (h : inB s = true) : icB s = false ∧ iiB s = false := by
  obtain ⟨_, _, h3, _⟩ := name_full h
  refine ⟨?_, ?_⟩
  · rw [Bool.eq_false_iff]
    intro h2
    rw [(const_word h2).2.2.1] at h3
    cases h3
  · rw [Bool.eq_false_iff]
    intro h2
    obtain ⟨d, r, hs, _⟩ := ivar_word h2
    rw [hs] at h3
    cases h3
theorem const_not {s : List UInt8} (h : icB s = true) : iiB s = false := by
  obtain ⟨_, _, _, h4, _⟩ := const_word h
  rw [Bool.eq_false_iff]
  intro h2
  obtain ⟨d, r, hs, _⟩ := ivar_word h2
  rw [hs] at h4
  cases h4
set_option maxHeartbeats 2000000 in
theorem ScanWords_c (s : List UInt8) (hs : s.length ≤ 200000000000000) : ∀ H, (∀ w, Facts H w → ScanF w) → SpecH Tryd.prog 9 (pvs [.string (bs s)]) H (Ret (.bool true) H) := by
  refine factC hm Tryd.func9 (by kernel_rfl) rfl rfl ?_
  (first | refine wX ?_ | exact wZ)
  refine call1 (IsName_c s hs _ (fun w hw => hw.1)) ?_
  cases hk : kwB s with
  | true =>
    obtain ⟨hi, hc, hv⟩ := kw_in s (by rw [kw_eq] at hk; simpa using hk)
    obtain ⟨h1, h2, _, _⟩ := name_full hi
    have hone := one_name hi
    rw [hk] at hone
    rw [hi]
    (first | refine wX ?_ | exact wZ)
    refine call1 (IsConst_c s hs _) ?_
    rw [hc]
    (first | refine wX ?_ | exact wZ)
    refine call1 (IsIvar_c s hs _) ?_
    rw [hv]
    (first | refine wX ?_ | exact wZ)
    refine call1 (IsKeyword_c s hs _ (fun w hw => hw.1.1)) ?_
    rw [hk]
    (first | refine wX ?_ | exact wZ)
    -- 8: the kind, hone: that it is one token
    refine SpecF.call (ScanOne_c s _ (by omega) (by omega) (show ¬ (8 : Int) = 0 by decide) (hone)) (fun w hw => hw.1) fun v G hR => ?_
    obtain ⟨b, cp, rfl, hG⟩ := hR
    -- 8: the kind, hw.2.1: the fact
    (first | refine wX ?_ | exact wZ)
    try refine Nd.mk ⟨rfl, by decide, by decide⟩ ?_
    (first | refine wX ?_ | exact wZ)
    refine LdN.fld (.int .i64 8) rfl (fun w hw => hG w hw.2.1) (by rfl) ?_
    (first | refine wX ?_ | exact wZ)
    try refine Nd.mk ⟨rfl, by decide, by decide⟩ ?_
    (first | refine wX ?_ | exact wZ)
    refine LdN.fld (.string (bs s)) rfl (fun w hw => hG w hw.2.1) (by rfl) ?_
    (first | refine wX ?_ | exact wZ)
    refine brd_intro (fun h => absurd (show (!(s == s)) = true from h) (by simp)) (fun _ => ?_)
    (first | refine wX ?_ | exact wZ)
    refine call1 (IsMethod_c s hs _ (fun w hw => hw.1)) ?_
    rw [hi, Bool.or_true, Bool.true_or]
    (first | refine wX ?_ | exact wZ)
    -- sym_name hi: that it is one token, hw.2.2.1: the fact
    refine Nd.mk (by rw [bs_size]; show 1 + _ < _; omega) ?_
    rw [show (⟨#[58]⟩ : ByteArray) = bs [58] from rfl, bs_app]
    (first | refine wX ?_ | exact wZ)
    refine SpecF.call (ScanOne_c (58 :: s) _ (by simp) (by simp; omega) (show ¬ (6 : Int) = 0 by decide) (sym_name hi)) (fun w hw => hw.1) fun v G hR => ?_
    obtain ⟨b, cp, rfl, hG⟩ := hR
    -- 6: the kind, hw.2.2.1: the fact
    (first | refine wX ?_ | exact wZ)
    try refine Nd.mk ⟨rfl, by decide, by decide⟩ ?_
    (first | refine wX ?_ | exact wZ)
    refine LdN.fld (.int .i64 6) rfl (fun w hw => hG w hw.2.2.1) (by rfl) ?_
    (first | refine wX ?_ | exact wZ)
    try refine Nd.mk ⟨rfl, by decide, by decide⟩ ?_
    (first | refine wX ?_ | exact wZ)
    refine LdN.fld (.string (bs s)) rfl (fun w hw => hG w hw.2.2.1) (by rfl) ?_
    (first | refine wX ?_ | exact wZ)
    refine brd_intro (fun h => absurd (show (!(s == s)) = true from h) (by simp)) (fun _ => ?_)
    (first | refine wX ?_ | exact wZ)
    refine call1 (sane_c _ (fun w hw => hw.1)) ?_
    (first | refine wX ?_ | exact wZ)
  | false =>
    cases hi : inB s with
    | true =>
      obtain ⟨hc, hv⟩ := name_not hi
      obtain ⟨h1, h2, _, _⟩ := name_full hi
      have hone := one_name hi
      rw [hk] at hone
      (first | refine wX ?_ | exact wZ)
      refine call1 (IsConst_c s hs _) ?_
      rw [hc]
      (first | refine wX ?_ | exact wZ)
      refine call1 (IsIvar_c s hs _) ?_
      rw [hv]
      (first | refine wX ?_ | exact wZ)
      refine call1 (IsKeyword_c s hs _ (fun w hw => hw.1.1)) ?_
      rw [hk]
      (first | refine wX ?_ | exact wZ)
      -- 1: the kind, hone: that it is one token
      refine SpecF.call (ScanOne_c s _ (by omega) (by omega) (show ¬ (1 : Int) = 0 by decide) (hone)) (fun w hw => hw.1) fun v G hR => ?_
      obtain ⟨b, cp, rfl, hG⟩ := hR
      -- 1: the kind, hw.2.1: the fact
      (first | refine wX ?_ | exact wZ)
      try refine Nd.mk ⟨rfl, by decide, by decide⟩ ?_
      (first | refine wX ?_ | exact wZ)
      refine LdN.fld (.int .i64 1) rfl (fun w hw => hG w hw.2.1) (by rfl) ?_
      (first | refine wX ?_ | exact wZ)
      try refine Nd.mk ⟨rfl, by decide, by decide⟩ ?_
      (first | refine wX ?_ | exact wZ)
      refine LdN.fld (.string (bs s)) rfl (fun w hw => hG w hw.2.1) (by rfl) ?_
      (first | refine wX ?_ | exact wZ)
      refine brd_intro (fun h => absurd (show (!(s == s)) = true from h) (by simp)) (fun _ => ?_)
      (first | refine wX ?_ | exact wZ)
      refine call1 (IsMethod_c s hs _ (fun w hw => hw.1)) ?_
      rw [hi, Bool.or_true, Bool.true_or]
      (first | refine wX ?_ | exact wZ)
      -- sym_name hi: that it is one token, hw.2.2.1: the fact
      refine Nd.mk (by rw [bs_size]; show 1 + _ < _; omega) ?_
      rw [show (⟨#[58]⟩ : ByteArray) = bs [58] from rfl, bs_app]
      (first | refine wX ?_ | exact wZ)
      refine SpecF.call (ScanOne_c (58 :: s) _ (by simp) (by simp; omega) (show ¬ (6 : Int) = 0 by decide) (sym_name hi)) (fun w hw => hw.1) fun v G hR => ?_
      obtain ⟨b, cp, rfl, hG⟩ := hR
      -- 6: the kind, hw.2.2.1: the fact
      (first | refine wX ?_ | exact wZ)
      try refine Nd.mk ⟨rfl, by decide, by decide⟩ ?_
      (first | refine wX ?_ | exact wZ)
      refine LdN.fld (.int .i64 6) rfl (fun w hw => hG w hw.2.2.1) (by rfl) ?_
      (first | refine wX ?_ | exact wZ)
      try refine Nd.mk ⟨rfl, by decide, by decide⟩ ?_
      (first | refine wX ?_ | exact wZ)
      refine LdN.fld (.string (bs s)) rfl (fun w hw => hG w hw.2.2.1) (by rfl) ?_
      (first | refine wX ?_ | exact wZ)
      refine brd_intro (fun h => absurd (show (!(s == s)) = true from h) (by simp)) (fun _ => ?_)
      (first | refine wX ?_ | exact wZ)
      refine call1 (sane_c _ (fun w hw => hw.1)) ?_
      (first | refine wX ?_ | exact wZ)
    | false =>
      (first | refine wX ?_ | exact wZ)
      refine call1 (IsConst_c s hs _) ?_
      cases hc : icB s with
      | true =>
        have hv := const_not hc
        obtain ⟨h1, h2, _⟩ := const_word hc
        (first | refine wX ?_ | exact wZ)
        refine call1 (IsIvar_c s hs _) ?_
        rw [hv]
        (first | refine wX ?_ | exact wZ)
        refine call1 (IsKeyword_c s hs _ (fun w hw => hw.1.1)) ?_
        rw [hk]
        (first | refine wX ?_ | exact wZ)
        -- 2: the kind, one_const hc: that it is one token
        refine SpecF.call (ScanOne_c s _ (by omega) (by omega) (show ¬ (2 : Int) = 0 by decide) (one_const hc)) (fun w hw => hw.1) fun v G hR => ?_
        obtain ⟨b, cp, rfl, hG⟩ := hR
        -- 2: the kind, hw.2.1: the fact
        (first | refine wX ?_ | exact wZ)
        try refine Nd.mk ⟨rfl, by decide, by decide⟩ ?_
        (first | refine wX ?_ | exact wZ)
        refine LdN.fld (.int .i64 2) rfl (fun w hw => hG w hw.2.1) (by rfl) ?_
        (first | refine wX ?_ | exact wZ)
        try refine Nd.mk ⟨rfl, by decide, by decide⟩ ?_
        (first | refine wX ?_ | exact wZ)
        refine LdN.fld (.string (bs s)) rfl (fun w hw => hG w hw.2.1) (by rfl) ?_
        (first | refine wX ?_ | exact wZ)
        refine brd_intro (fun h => absurd (show (!(s == s)) = true from h) (by simp)) (fun _ => ?_)
        (first | refine wX ?_ | exact wZ)
        refine call1 (IsMethod_c s hs _ (fun w hw => hw.1)) ?_
        cases hM : (opL.contains s || inB s || setB s) with
        | true =>
          (first | refine wX ?_ | exact wZ)
          -- sym_const hc: that it is one token, hw.2.2.1: the fact
          refine Nd.mk (by rw [bs_size]; show 1 + _ < _; omega) ?_
          rw [show (⟨#[58]⟩ : ByteArray) = bs [58] from rfl, bs_app]
          (first | refine wX ?_ | exact wZ)
          refine SpecF.call (ScanOne_c (58 :: s) _ (by simp) (by simp; omega) (show ¬ (6 : Int) = 0 by decide) (sym_const hc)) (fun w hw => hw.1) fun v G hR => ?_
          obtain ⟨b, cp, rfl, hG⟩ := hR
          -- 6: the kind, hw.2.2.1: the fact
          (first | refine wX ?_ | exact wZ)
          try refine Nd.mk ⟨rfl, by decide, by decide⟩ ?_
          (first | refine wX ?_ | exact wZ)
          refine LdN.fld (.int .i64 6) rfl (fun w hw => hG w hw.2.2.1) (by rfl) ?_
          (first | refine wX ?_ | exact wZ)
          try refine Nd.mk ⟨rfl, by decide, by decide⟩ ?_
          (first | refine wX ?_ | exact wZ)
          refine LdN.fld (.string (bs s)) rfl (fun w hw => hG w hw.2.2.1) (by rfl) ?_
          (first | refine wX ?_ | exact wZ)
          refine brd_intro (fun h => absurd (show (!(s == s)) = true from h) (by simp)) (fun _ => ?_)
          (first | refine wX ?_ | exact wZ)
          refine call1 (sane_c _ (fun w hw => hw.1)) ?_
          (first | refine wX ?_ | exact wZ)
        | false =>
          (first | refine wX ?_ | exact wZ)
          -- sym_const hc: that it is one token, hw.2.2.1: the fact
          refine Nd.mk (by rw [bs_size]; show 1 + _ < _; omega) ?_
          rw [show (⟨#[58]⟩ : ByteArray) = bs [58] from rfl, bs_app]
          (first | refine wX ?_ | exact wZ)
          refine SpecF.call (ScanOne_c (58 :: s) _ (by simp) (by simp; omega) (show ¬ (6 : Int) = 0 by decide) (sym_const hc)) (fun w hw => hw.1) fun v G hR => ?_
          obtain ⟨b, cp, rfl, hG⟩ := hR
          -- 6: the kind, hw.2.2.1: the fact
          (first | refine wX ?_ | exact wZ)
          try refine Nd.mk ⟨rfl, by decide, by decide⟩ ?_
          (first | refine wX ?_ | exact wZ)
          refine LdN.fld (.int .i64 6) rfl (fun w hw => hG w hw.2.2.1) (by rfl) ?_
          (first | refine wX ?_ | exact wZ)
          try refine Nd.mk ⟨rfl, by decide, by decide⟩ ?_
          (first | refine wX ?_ | exact wZ)
          refine LdN.fld (.string (bs s)) rfl (fun w hw => hG w hw.2.2.1) (by rfl) ?_
          (first | refine wX ?_ | exact wZ)
          refine brd_intro (fun h => absurd (show (!(s == s)) = true from h) (by simp)) (fun _ => ?_)
          (first | refine wX ?_ | exact wZ)
          refine call1 (sane_c _ (fun w hw => hw.1)) ?_
          (first | refine wX ?_ | exact wZ)
      | false =>
        (first | refine wX ?_ | exact wZ)
        refine call1 (IsIvar_c s hs _) ?_
        cases hv : iiB s with
        | true =>
          obtain ⟨d, r, hdr, h2, _, _⟩ := ivar_word hv
          have h1 : 1 ≤ s.length := by rw [hdr]; simp
          (first | refine wX ?_ | exact wZ)
          refine call1 (IsKeyword_c s hs _ (fun w hw => hw.1.1)) ?_
          rw [hk]
          (first | refine wX ?_ | exact wZ)
          -- 3: the kind, one_ivar hv: that it is one token
          refine SpecF.call (ScanOne_c s _ (by omega) (by omega) (show ¬ (3 : Int) = 0 by decide) (one_ivar hv)) (fun w hw => hw.1) fun v G hR => ?_
          obtain ⟨b, cp, rfl, hG⟩ := hR
          -- 3: the kind, hw.2.1: the fact
          (first | refine wX ?_ | exact wZ)
          try refine Nd.mk ⟨rfl, by decide, by decide⟩ ?_
          (first | refine wX ?_ | exact wZ)
          refine LdN.fld (.int .i64 3) rfl (fun w hw => hG w hw.2.1) (by rfl) ?_
          (first | refine wX ?_ | exact wZ)
          try refine Nd.mk ⟨rfl, by decide, by decide⟩ ?_
          (first | refine wX ?_ | exact wZ)
          refine LdN.fld (.string (bs s)) rfl (fun w hw => hG w hw.2.1) (by rfl) ?_
          (first | refine wX ?_ | exact wZ)
          refine brd_intro (fun h => absurd (show (!(s == s)) = true from h) (by simp)) (fun _ => ?_)
          (first | refine wX ?_ | exact wZ)
          refine call1 (IsMethod_c s hs _ (fun w hw => hw.1)) ?_
          cases hM : (opL.contains s || inB s || setB s) with
          | true =>
            (first | refine wX ?_ | exact wZ)
            -- sym_iv hv: that it is one token, hw.2.2.1: the fact
            refine Nd.mk (by rw [bs_size]; show 1 + _ < _; omega) ?_
            rw [show (⟨#[58]⟩ : ByteArray) = bs [58] from rfl, bs_app]
            (first | refine wX ?_ | exact wZ)
            refine SpecF.call (ScanOne_c (58 :: s) _ (by simp) (by simp; omega) (show ¬ (6 : Int) = 0 by decide) (sym_iv hv)) (fun w hw => hw.1) fun v G hR => ?_
            obtain ⟨b, cp, rfl, hG⟩ := hR
            -- 6: the kind, hw.2.2.1: the fact
            (first | refine wX ?_ | exact wZ)
            try refine Nd.mk ⟨rfl, by decide, by decide⟩ ?_
            (first | refine wX ?_ | exact wZ)
            refine LdN.fld (.int .i64 6) rfl (fun w hw => hG w hw.2.2.1) (by rfl) ?_
            (first | refine wX ?_ | exact wZ)
            try refine Nd.mk ⟨rfl, by decide, by decide⟩ ?_
            (first | refine wX ?_ | exact wZ)
            refine LdN.fld (.string (bs s)) rfl (fun w hw => hG w hw.2.2.1) (by rfl) ?_
            (first | refine wX ?_ | exact wZ)
            refine brd_intro (fun h => absurd (show (!(s == s)) = true from h) (by simp)) (fun _ => ?_)
            (first | refine wX ?_ | exact wZ)
            refine call1 (sane_c _ (fun w hw => hw.1)) ?_
            (first | refine wX ?_ | exact wZ)
          | false =>
            (first | refine wX ?_ | exact wZ)
            -- sym_iv hv: that it is one token, hw.2.2.1: the fact
            refine Nd.mk (by rw [bs_size]; show 1 + _ < _; omega) ?_
            rw [show (⟨#[58]⟩ : ByteArray) = bs [58] from rfl, bs_app]
            (first | refine wX ?_ | exact wZ)
            refine SpecF.call (ScanOne_c (58 :: s) _ (by simp) (by simp; omega) (show ¬ (6 : Int) = 0 by decide) (sym_iv hv)) (fun w hw => hw.1) fun v G hR => ?_
            obtain ⟨b, cp, rfl, hG⟩ := hR
            -- 6: the kind, hw.2.2.1: the fact
            (first | refine wX ?_ | exact wZ)
            try refine Nd.mk ⟨rfl, by decide, by decide⟩ ?_
            (first | refine wX ?_ | exact wZ)
            refine LdN.fld (.int .i64 6) rfl (fun w hw => hG w hw.2.2.1) (by rfl) ?_
            (first | refine wX ?_ | exact wZ)
            try refine Nd.mk ⟨rfl, by decide, by decide⟩ ?_
            (first | refine wX ?_ | exact wZ)
            refine LdN.fld (.string (bs s)) rfl (fun w hw => hG w hw.2.2.1) (by rfl) ?_
            (first | refine wX ?_ | exact wZ)
            refine brd_intro (fun h => absurd (show (!(s == s)) = true from h) (by simp)) (fun _ => ?_)
            (first | refine wX ?_ | exact wZ)
            refine call1 (sane_c _ (fun w hw => hw.1)) ?_
            (first | refine wX ?_ | exact wZ)
        | false =>
          (first | refine wX ?_ | exact wZ)
          refine call1 (IsKeyword_c s hs _ (fun w hw => hw.1.1)) ?_
          rw [hk]
          (first | refine wX ?_ | exact wZ)
          refine call1 (IsMethod_c s hs _ (fun w hw => hw.1)) ?_
          rw [hi, Bool.or_false]
          cases ho : opL.contains s with
          | true =>
            obtain ⟨⟨h1, h2⟩, _⟩ := op_all s (by simpa using ho)
            (first | refine wX ?_ | exact wZ)
            -- sym_oper ho: that it is one token, hw.2.1: the fact
            refine Nd.mk (by rw [bs_size]; show 1 + _ < _; omega) ?_
            rw [show (⟨#[58]⟩ : ByteArray) = bs [58] from rfl, bs_app]
            (first | refine wX ?_ | exact wZ)
            refine SpecF.call (ScanOne_c (58 :: s) _ (by simp) (by simp; omega) (show ¬ (6 : Int) = 0 by decide) (sym_oper ho)) (fun w hw => hw.1) fun v G hR => ?_
            obtain ⟨b, cp, rfl, hG⟩ := hR
            -- 6: the kind, hw.2.1: the fact
            (first | refine wX ?_ | exact wZ)
            try refine Nd.mk ⟨rfl, by decide, by decide⟩ ?_
            (first | refine wX ?_ | exact wZ)
            refine LdN.fld (.int .i64 6) rfl (fun w hw => hG w hw.2.1) (by rfl) ?_
            (first | refine wX ?_ | exact wZ)
            try refine Nd.mk ⟨rfl, by decide, by decide⟩ ?_
            (first | refine wX ?_ | exact wZ)
            refine LdN.fld (.string (bs s)) rfl (fun w hw => hG w hw.2.1) (by rfl) ?_
            (first | refine wX ?_ | exact wZ)
            refine brd_intro (fun h => absurd (show (!(s == s)) = true from h) (by simp)) (fun _ => ?_)
            (first | refine wX ?_ | exact wZ)
            refine call1 (sane_c _ (fun w hw => hw.1)) ?_
            (first | refine wX ?_ | exact wZ)
          | false =>
            cases ht : setB s with
            | true =>
              have h2 : s.length ≤ 40 := by
                simp only [setB, Bool.and_eq_true, decide_eq_true_eq] at ht
                exact ht.2
              (first | refine wX ?_ | exact wZ)
              -- sym_setter ht: that it is one token, hw.2.1: the fact
              refine Nd.mk (by rw [bs_size]; show 1 + _ < _; omega) ?_
              rw [show (⟨#[58]⟩ : ByteArray) = bs [58] from rfl, bs_app]
              (first | refine wX ?_ | exact wZ)
              refine SpecF.call (ScanOne_c (58 :: s) _ (by simp) (by simp; omega) (show ¬ (6 : Int) = 0 by decide) (sym_setter ht)) (fun w hw => hw.1) fun v G hR => ?_
              obtain ⟨b, cp, rfl, hG⟩ := hR
              -- 6: the kind, hw.2.1: the fact
              (first | refine wX ?_ | exact wZ)
              try refine Nd.mk ⟨rfl, by decide, by decide⟩ ?_
              (first | refine wX ?_ | exact wZ)
              refine LdN.fld (.int .i64 6) rfl (fun w hw => hG w hw.2.1) (by rfl) ?_
              (first | refine wX ?_ | exact wZ)
              try refine Nd.mk ⟨rfl, by decide, by decide⟩ ?_
              (first | refine wX ?_ | exact wZ)
              refine LdN.fld (.string (bs s)) rfl (fun w hw => hG w hw.2.1) (by rfl) ?_
              (first | refine wX ?_ | exact wZ)
              refine brd_intro (fun h => absurd (show (!(s == s)) = true from h) (by simp)) (fun _ => ?_)
              (first | refine wX ?_ | exact wZ)
              refine call1 (sane_c _ (fun w hw => hw.1)) ?_
              (first | refine wX ?_ | exact wZ)
            | false =>
              (first | refine wX ?_ | exact wZ)
              refine call1 (sane_c _ (fun w hw => hw.1)) ?_
              (first | refine wX ?_ | exact wZ)
end Go.Proofs.YteejemdibfbccaaDoor

/-
  ScanWordsCardSaid is proved: of every text ScanWords returns true and leaves its argument as it was; the listed tables are tied to the program's text.
-/
namespace Go.Proofs.YteejemdibfbccaaDoor
open Go.ChangeShapes Go.WideShapes Go.ChangeAt Go.RowKit Go.AX
set_option maxRecDepth 100000

namespace ScanWords
theorem own : ownKnob Tryd.prog.godebug = none := own0
theorem walk {H : Type} {enc : TypeId × Value → H} (W : World) (base : Nat) (args : Array Value) (ds : List (DataW H)) (p : List MemPlace) (k : Known enc Tryd.prog Tryd.f9 W base args ds p) (_hL : laidMetH Tryd.prog laid3 W) : Walk Tryd.prog 9 args W := by
  obtain ⟨u, rfl⟩ := arr1 (trodAll_len k.trod).2
  obtain ⟨s, rfl, hs⟩ := k.low.string 0 rfl rfl (by kernel_rfl)
  exact walkH [.fact ScanF] (known_scan k.shaped _hL) (ScanWords_c s.data.toList hs _ fun w hw => hw.1)

theorem lifted (os : Os) (started : os.Started) (H : Type) (enc : TypeId × Value → H) :
    ReturnsInHanded {} Tryd.checked os 9 .any (fun w args => (Rows.scanWordsSpec.pre enc Tryd.prog Tryd.f9 [] false w args ∧ laidMetH Tryd.prog laid3 w) ∧ sizedMet enc Tryd.prog Tryd.f9 (OpenSpec.ofChange Rows.scanWordsSpec) false w args) (Rows.scanWordsSpec.post enc Tryd.prog Tryd.f9 false true false false) := by
  refine liftS (C := Tryd.checked) own started (by kernel_rfl) Tryd.func9
    (ChangeSpec.witness_shaped (enc := enc) (C := Tryd.checked) (os := os) (X := fun w _ => laidMetH Tryd.prog laid3 w) false (World.laidAll Tryd.prog os laid3) #[.string ⟨#[]⟩] 8 (World.laidAll_os _ _ _) (World.shaped_of_ZipB (by kernel_rfl) (by kernel_rfl)) (by kernel_rfl) (by kernel_rfl) (by kernel_rfl) (door_met os _))
    laidOut rfl (t := _) rfl (by kernel_rfl) (by kernel_rfl) ?_ walk
  intro ds hd
  match ds, hd with
  | [d0], _ => rfl

theorem over : Rows.scanWordsRow.holds Tryd.pinned (OpenSpec.ofChange Rows.scanWordsSpec) :=
  OpenClaim.holds_of_wide 9 Tryd.f9 rfl rfl rfl rfl rfl rfl rfl ⟨rfl, rfl, rfl, rfl, rfl⟩ rfl rfl rfl rfl rfl (by kernel_rfl) Tryd.func9 (by kernel_rfl)
    (of_decide_eq_true (by kernel_rfl)) (by unfold Func.isWrapper; first | (rw [if_pos (by decide +kernel)]; kernel_rfl) | (rw [if_neg (by decide +kernel)]; exact ⟨rfl, rfl⟩))
    (fun os started H enc _ => lifted os started H enc)

theorem proved : Rows.ScanWordsCardSaid :=
  Claim7.holds_tied_plain_at .later [] [.data, .listed, .data, .pinned] true (true, "29d5a38514b6d36cd327fbc0288b099aab2f6e94237d213b480f59913676cde1") true
    over (fun _ h => by cases h) (by kernel_rfl) (fun _ h => by cases h) scanWords_row_tie rfl ⟨rfl, rfl⟩ (by kernel_rfl) rfl
    (fun f fn hf hfn => by
      obtain rfl : f = 9 := Option.some.inj ((show Tryd.prog.funcNamed "cabochon/cabochonlaw14.ScanWords" = some 9 by kernel_rfl).symm.trans hf) |>.symm
      obtain rfl : fn = Tryd.f9 := (Option.some.inj (Tryd.func9.symm.trans hfn)).symm
      exact ⟨by kernel_rfl, fun j t ht => by
        have hm : t ∈ Tryd.f9.params.toList := by simpa using Array.mem_of_getElem? ht
        have hall : (Tryd.f9.params.toList.all fun u => !Tryd.prog.wantsStandIn u) = true := by kernel_rfl
        exact (show Tryd.prog.wantsStandIn t = false by simpa using List.all_eq_true.1 hall t hm)⟩)
    (by kernel_rfl)
#print axioms proved
end ScanWords
end Go.Proofs.YteejemdibfbccaaDoor
