/-
  Lemmas (S5 S6 S7 S8 S9 R1 L1 N1 N2 W1 Ax38 N3 W2 L2 W3).
-/
import Derived.Lay
import Derived.Lib.LaidU8
import Derived.PinnedBridge
import Derived.Lib.IndexAny
import Derived.Lib.IndexMore
import Derived.Lib.SlBytesConst
import Derived.Test.YteejemdibfbccaaDoorMw3
/-
  Contract: names, constants, keywords, labels (program).
-/
namespace Go.Proofs.YteejemdibfbccaaDoor
open Go.AX Go.RowKit Go.Scan
set_option maxRecDepth 20000

def lastDot (l : List Tok) : Bool := match l.getLast? with | some t => t.kind == 7 && (t.text == [46] || t.text == [38, 46]) | none => false
theorem fullS_le (s : List UInt8) (p : Nat) (h : p ≤ s.length) : p + (fullS s p).length ≤ s.length := by
  have hw := wordS_le s p h
  unfold fullS
  simp only
  split
  · rename_i h1
    rw [Bool.and_eq_true, Bool.or_eq_true, beq_iff_eq, beq_iff_eq] at h1
    rw [List.length_append]
    show p + ((wordS s p).length + 1) ≤ s.length
    rcases h1.1 with h2 | h2
    · have := pk_lt h2 (by decide)
      omega
    · have := pk_lt h2 (by decide)
      omega
  · exact hw
/-- The word at a place, and the place behind it. -/
def wordW (s : List UInt8) (p : Nat) : List UInt8 := if sml (pk s p) then fullS s p else wordS s p
def wordsK (s : List UInt8) (p : Nat) (l : List Tok) : Int × Nat :=
  let w := wordW s p
  let q := p + w.length
  if pk s q == 58 && pk s (q + 1) != 58 then (9, q + 1) else (if !sml (pk s p) then 2 else if kwB w && !lastDot l then 8 else 1, q)
set_option maxHeartbeats 2000000 in
theorem words_c (xb : Nat) (s : List UInt8) (p line : Nat) (l : List Tok) (ob : Option Nat) (cap here : Nat) (sp : Bool) (hl : l.length ≤ 900000) (hob : ob = none → l = []) (hs : s.length ≤ 1000000) (hp : p < s.length) :
    SpecH Tryd.prog 40 [.c (.v (.pointer (some ⟨xb, 0, none⟩)))] [scE xb s p line ob l.length cap here sp, toE l ob cap, .fact ScanF]
      (RetG (ι := Nat × Nat) (fun _ => True) (fun _ => .tuple #[]) fun ⟨b, c⟩ => [scE xb s (wordsK s p l).2 line (some b) (l.length + 1) c here false, toE (l ++ [⟨(wordsK s p l).1, wordW s p, sp, line, none, 0, 0⟩]) (some b) c, .fact ScanF]) := by
  refine ownC hm Tryd.func40 (by kernel_rfl) rfl rfl (fun _ _ => okHB_eq rfl) (fun _ _ => Nat.le_refl _) ?_
  have hz := bs_size s
  obtain ⟨c, hc⟩ : ∃ c, s[p]? = some c := ⟨_, List.getElem?_eq_getElem hp⟩
  have hcp : pk s p = c := by unfold pk; rw [hc]; rfl
  (first | refine wX ?_ | exact wZ)
  refine LdN.one (a := some ⟨xb, 0, none⟩) (q := 2) (.int .i64 ((line : Nat) : Int)) rfl (fun w hw => hw.1) rfl ?_
  (first | refine wX ?_ | exact wZ)
  refine LdN.one (a := some ⟨xb, 0, none⟩) (q := 0) (.string (bs s)) rfl (fun w hw => hw.1) rfl ?_
  (first | refine wX ?_ | exact wZ)
  refine LdN.one (a := some ⟨xb, 0, none⟩) (q := 1) (.int .i64 ((p : Nat) : Int)) rfl (fun w hw => hw.1) rfl ?_
  (first | refine wX ?_ | exact wZ)
  rw [Int.toNat_natCast, byteAt_get hc]
  refine callQ (sml_c c _) ?_
  cases hsm : sml c with
  | true =>
    have hwl := fullS_le s p (by omega)
    (first | refine wX ?_ | exact wZ)
    refine callG (full_c xb s p line ob l.length cap here sp hs (by omega)) [0] rfl ⟨rfl, trivial⟩ rfl fun _ _ => ?_
    generalize hq : p + (fullS s p).length = q at *
    -- false: upper, fullS s p: the word
    have hwW : wordW s p = fullS s p := by unfold wordW; rw [hcp]; simp [hsm]
    have hK : wordsK s p l = if pk s q == 58 && pk s (q + 1) != 58 then (9, q + 1) else (if !sml c then 2 else if kwB (fullS s p) && !lastDot l then 8 else 1, q) := by
      unfold wordsK
      simp only [hwW, hq, hcp]
    generalize hW : fullS s p = W at *
    (first | refine wX ?_ | exact wZ)
    refine call1 (peek_c xb s q line ob l.length cap here sp 0 (by omega) (by decide) _ (fun w hw => hw.1)) ?_
    rw [Nat.add_zero]
    have hb0 : (((pk s q).toNat : Int) == 58) = (pk s q == 58) := u8_eq (n := 58) (by decide)
    have hb1 : (((pk s (q + 1)).toNat : Int) == 58) = (pk s (q + 1) == 58) := u8_eq (n := 58) (by decide)
    (first | refine wX ?_ | exact wZ)
    rw [hb0]
    cases e0 : pk s q == 58 with
    | true =>
      (first | refine wX ?_ | exact wZ)
      refine call1 (peek_c xb s q line ob l.length cap here sp 1 (by omega) (by decide) _ (fun w hw => hw.1)) ?_
      (first | refine wX ?_ | exact wZ)
      rw [bne, hb1]
      cases e1 : pk s (q + 1) == 58 with
      | true =>
        have hK2 : wordsK s p l = (if !sml c then 2 else if kwB W && !lastDot l then 8 else 1, q) := by rw [hK]; simp [bne, e1]
        -- false: upper
        rcases Nat.eq_zero_or_pos l.length with hl0 | hl0
        · have hd : lastDot l = false := by rw [List.eq_nil_of_length_eq_zero hl0]; rfl
          (first | refine wX ?_ | exact wZ)
          refine LdN.one (a := some ⟨xb, 0, none⟩) (q := 3) (.slice (at0 ob) l.length cap) rfl (fun w hw => hw.1) rfl ?_
          (first | refine wX ?_ | exact wZ)
          refine brd_dec (fun h => absurd h (by omega)) (fun _ => ?_)
          (first | refine wX ?_ | exact wZ)
          refine call1 (IsKeyword_c W (by omega) _ (fun w hw => hw.2.2.1.1)) ?_
          cases hkw : kwB W with
          | true =>
            -- 8: the kind
            rw [hwW, show wordsK s p l = (8, q) by rw [hK2]; simp [hsm, hd, *]]
            (first | refine wX ?_ | exact wZ)
            refine callG (add_c xb s q line l ob cap here sp 8 W line (by omega) hob) [0, 1] rfl ⟨rfl, rfl, trivial⟩ rfl fun ⟨b1, c1⟩ _ => ?_
            (first | refine wX ?_ | exact wZ)
            exact ⟨(b1, c1), trivial, rfl, wkE_refl _, wkE_refl _, wkE_refl _, wkH_nil _⟩
          | false =>
            -- 1: the kind
            rw [hwW, show wordsK s p l = (1, q) by rw [hK2]; simp [hsm, hd, *]]
            (first | refine wX ?_ | exact wZ)
            refine callG (add_c xb s q line l ob cap here sp 1 W line (by omega) hob) [0, 1] rfl ⟨rfl, rfl, trivial⟩ rfl fun ⟨b1, c1⟩ _ => ?_
            (first | refine wX ?_ | exact wZ)
            exact ⟨(b1, c1), trivial, rfl, wkE_refl _, wkE_refl _, wkE_refl _, wkH_nil _⟩
        · obtain ⟨t, ht⟩ : ∃ t, l[l.length - 1]? = some t := ⟨_, List.getElem?_eq_getElem (by omega)⟩
          have hoa : (at0 ob).isSome = true := by
            cases ob with
            | none => rw [hob rfl] at hl0; simp at hl0
            | some g => rfl
          have hw1 : IntKind.i64.wrap ((l.length : Int) - 1) = ((l.length - 1 : Nat) : Int) := by rw [wrap_i64 (by omega)]; omega
          obtain ⟨tk, tt, ts, tl2, ta, tn, tc⟩ := t
          have hdt : lastDot l = (tk == 7 && (tt == [46] || tt == [38, 46])) := by
            unfold lastDot
            rw [List.getLast?_eq_getElem?, ht]
          (first | refine wX ?_ | exact wZ)
          refine LdN.one (a := some ⟨xb, 0, none⟩) (q := 3) (.slice (at0 ob) l.length cap) rfl (fun w hw => hw.1) rfl ?_
          (first | refine wX ?_ | exact wZ)
          refine brd_dec (fun _ => ?_) (fun h => absurd h (by omega))
          (first | refine wX ?_ | exact wZ)
          -- 0: the field's number, .int .i64 tk: its value
          refine LdN.one (a := some ⟨xb, 0, none⟩) (q := 3) (.slice (at0 ob) l.length cap) rfl (fun w hw => hw.1) rfl ?_
          (first | refine wX ?_ | exact wZ)
          refine LdN.one (a := some ⟨xb, 0, none⟩) (q := 3) (.slice (at0 ob) l.length cap) rfl (fun w hw => hw.1) rfl ?_
          (first | refine wX ?_ | exact wZ)
          try rw [hw1]
          refine Nd.mk ⟨hoa, by omega, by omega⟩ ?_
          (first | refine wX ?_ | exact wZ)
          refine LdN.fld (.int .i64 tk) rfl (fun w hw => hw.2.1) (by rw [Int.toNat_natCast]; exact toksC_get l _ 0 (by decide) ht) ?_
          (first | refine wX ?_ | exact wZ)
          refine brd_eq (fun e7 => ?_) (fun e7 => ?_)
          · by_cases h46 : tt = [46]
            · subst h46
              have hd : lastDot l = true := by rw [hdt]; simp [e7]
              (first | refine wX ?_ | exact wZ)
              -- 1: the field's number, .string (bs [46]): its value
              refine LdN.one (a := some ⟨xb, 0, none⟩) (q := 3) (.slice (at0 ob) l.length cap) rfl (fun w hw => hw.1) rfl ?_
              (first | refine wX ?_ | exact wZ)
              refine LdN.one (a := some ⟨xb, 0, none⟩) (q := 3) (.slice (at0 ob) l.length cap) rfl (fun w hw => hw.1) rfl ?_
              (first | refine wX ?_ | exact wZ)
              try rw [hw1]
              refine Nd.mk ⟨hoa, by omega, by omega⟩ ?_
              (first | refine wX ?_ | exact wZ)
              refine LdN.fld (.string (bs [46])) rfl (fun w hw => hw.2.1) (by rw [Int.toNat_natCast]; exact toksC_get l _ 1 (by decide) ht) ?_
              (first | refine wX ?_ | exact wZ)
              (first | refine wX ?_ | exact wZ)
              refine call1 (IsKeyword_c W (by omega) _ (fun w hw => hw.2.2.1.1)) ?_
              cases hkw : kwB W with
              | true =>
                -- 1: the kind
                rw [hwW, show wordsK s p l = (1, q) by rw [hK2]; simp [hsm, hd, *]]
                (first | refine wX ?_ | exact wZ)
                refine callG (add_c xb s q line l ob cap here sp 1 W line (by omega) hob) [0, 1] rfl ⟨rfl, rfl, trivial⟩ rfl fun ⟨b1, c1⟩ _ => ?_
                (first | refine wX ?_ | exact wZ)
                exact ⟨(b1, c1), trivial, rfl, wkE_refl _, wkE_refl _, wkE_refl _, wkH_nil _⟩
              | false =>
                -- 1: the kind
                rw [hwW, show wordsK s p l = (1, q) by rw [hK2]; simp [hsm, hd, *]]
                (first | refine wX ?_ | exact wZ)
                refine callG (add_c xb s q line l ob cap here sp 1 W line (by omega) hob) [0, 1] rfl ⟨rfl, rfl, trivial⟩ rfl fun ⟨b1, c1⟩ _ => ?_
                (first | refine wX ?_ | exact wZ)
                exact ⟨(b1, c1), trivial, rfl, wkE_refl _, wkE_refl _, wkE_refl _, wkH_nil _⟩
            · (first | refine wX ?_ | exact wZ)
              -- 1: the field's number, .string (bs tt): its value
              refine LdN.one (a := some ⟨xb, 0, none⟩) (q := 3) (.slice (at0 ob) l.length cap) rfl (fun w hw => hw.1) rfl ?_
              (first | refine wX ?_ | exact wZ)
              refine LdN.one (a := some ⟨xb, 0, none⟩) (q := 3) (.slice (at0 ob) l.length cap) rfl (fun w hw => hw.1) rfl ?_
              (first | refine wX ?_ | exact wZ)
              try rw [hw1]
              refine Nd.mk ⟨hoa, by omega, by omega⟩ ?_
              (first | refine wX ?_ | exact wZ)
              refine LdN.fld (.string (bs tt)) rfl (fun w hw => hw.2.1) (by rw [Int.toNat_natCast]; exact toksC_get l _ 1 (by decide) ht) ?_
              (first | refine wX ?_ | exact wZ)
              refine brd_intro (fun h => absurd (eq_of_beq (show (tt == [46]) = true from h)) h46) (fun _ => ?_)
              by_cases h38 : tt = [38, 46]
              · subst h38
                have hd : lastDot l = true := by rw [hdt]; simp [e7]
                (first | refine wX ?_ | exact wZ)
                -- 1: the field's number, .string (bs [38, 46]): its value
                refine LdN.one (a := some ⟨xb, 0, none⟩) (q := 3) (.slice (at0 ob) l.length cap) rfl (fun w hw => hw.1) rfl ?_
                (first | refine wX ?_ | exact wZ)
                refine LdN.one (a := some ⟨xb, 0, none⟩) (q := 3) (.slice (at0 ob) l.length cap) rfl (fun w hw => hw.1) rfl ?_
                (first | refine wX ?_ | exact wZ)
                try rw [hw1]
                refine Nd.mk ⟨hoa, by omega, by omega⟩ ?_
                (first | refine wX ?_ | exact wZ)
                refine LdN.fld (.string (bs [38, 46])) rfl (fun w hw => hw.2.1) (by rw [Int.toNat_natCast]; exact toksC_get l _ 1 (by decide) ht) ?_
                (first | refine wX ?_ | exact wZ)
                (first | refine wX ?_ | exact wZ)
                refine call1 (IsKeyword_c W (by omega) _ (fun w hw => hw.2.2.1.1)) ?_
                cases hkw : kwB W with
                | true =>
                  -- 1: the kind
                  rw [hwW, show wordsK s p l = (1, q) by rw [hK2]; simp [hsm, hd, *]]
                  (first | refine wX ?_ | exact wZ)
                  refine callG (add_c xb s q line l ob cap here sp 1 W line (by omega) hob) [0, 1] rfl ⟨rfl, rfl, trivial⟩ rfl fun ⟨b1, c1⟩ _ => ?_
                  (first | refine wX ?_ | exact wZ)
                  exact ⟨(b1, c1), trivial, rfl, wkE_refl _, wkE_refl _, wkE_refl _, wkH_nil _⟩
                | false =>
                  -- 1: the kind
                  rw [hwW, show wordsK s p l = (1, q) by rw [hK2]; simp [hsm, hd, *]]
                  (first | refine wX ?_ | exact wZ)
                  refine callG (add_c xb s q line l ob cap here sp 1 W line (by omega) hob) [0, 1] rfl ⟨rfl, rfl, trivial⟩ rfl fun ⟨b1, c1⟩ _ => ?_
                  (first | refine wX ?_ | exact wZ)
                  exact ⟨(b1, c1), trivial, rfl, wkE_refl _, wkE_refl _, wkE_refl _, wkH_nil _⟩
              · have hd : lastDot l = false := by rw [hdt]; simp [h46, h38]
                (first | refine wX ?_ | exact wZ)
                -- 1: the field's number, .string (bs tt): its value
                refine LdN.one (a := some ⟨xb, 0, none⟩) (q := 3) (.slice (at0 ob) l.length cap) rfl (fun w hw => hw.1) rfl ?_
                (first | refine wX ?_ | exact wZ)
                refine LdN.one (a := some ⟨xb, 0, none⟩) (q := 3) (.slice (at0 ob) l.length cap) rfl (fun w hw => hw.1) rfl ?_
                (first | refine wX ?_ | exact wZ)
                try rw [hw1]
                refine Nd.mk ⟨hoa, by omega, by omega⟩ ?_
                (first | refine wX ?_ | exact wZ)
                refine LdN.fld (.string (bs tt)) rfl (fun w hw => hw.2.1) (by rw [Int.toNat_natCast]; exact toksC_get l _ 1 (by decide) ht) ?_
                (first | refine wX ?_ | exact wZ)
                (first | refine wX ?_ | exact wZ)
                refine call1 (IsKeyword_c W (by omega) _ (fun w hw => hw.2.2.1.1)) ?_
                cases hkw : kwB W with
                | true =>
                  (first | refine wX ?_ | exact wZ)
                  refine brdT (show (!(tt == [38, 46])) = true by simp [h38]) ?_
                  -- 8: the kind
                  rw [hwW, show wordsK s p l = (8, q) by rw [hK2]; simp [hsm, hd, *]]
                  (first | refine wX ?_ | exact wZ)
                  refine callG (add_c xb s q line l ob cap here sp 8 W line (by omega) hob) [0, 1] rfl ⟨rfl, rfl, trivial⟩ rfl fun ⟨b1, c1⟩ _ => ?_
                  (first | refine wX ?_ | exact wZ)
                  exact ⟨(b1, c1), trivial, rfl, wkE_refl _, wkE_refl _, wkE_refl _, wkH_nil _⟩
                | false =>
                  -- 1: the kind
                  rw [hwW, show wordsK s p l = (1, q) by rw [hK2]; simp [hsm, hd, *]]
                  (first | refine wX ?_ | exact wZ)
                  refine callG (add_c xb s q line l ob cap here sp 1 W line (by omega) hob) [0, 1] rfl ⟨rfl, rfl, trivial⟩ rfl fun ⟨b1, c1⟩ _ => ?_
                  (first | refine wX ?_ | exact wZ)
                  exact ⟨(b1, c1), trivial, rfl, wkE_refl _, wkE_refl _, wkE_refl _, wkH_nil _⟩
          · have hd : lastDot l = false := by rw [hdt]; simp [e7]
            (first | refine wX ?_ | exact wZ)
            refine call1 (IsKeyword_c W (by omega) _ (fun w hw => hw.2.2.1.1)) ?_
            cases hkw : kwB W with
            | true =>
              -- 8: the kind
              rw [hwW, show wordsK s p l = (8, q) by rw [hK2]; simp [hsm, hd, *]]
              (first | refine wX ?_ | exact wZ)
              refine callG (add_c xb s q line l ob cap here sp 8 W line (by omega) hob) [0, 1] rfl ⟨rfl, rfl, trivial⟩ rfl fun ⟨b1, c1⟩ _ => ?_
              (first | refine wX ?_ | exact wZ)
              exact ⟨(b1, c1), trivial, rfl, wkE_refl _, wkE_refl _, wkE_refl _, wkH_nil _⟩
            | false =>
              -- 1: the kind
              rw [hwW, show wordsK s p l = (1, q) by rw [hK2]; simp [hsm, hd, *]]
              (first | refine wX ?_ | exact wZ)
              refine callG (add_c xb s q line l ob cap here sp 1 W line (by omega) hob) [0, 1] rfl ⟨rfl, rfl, trivial⟩ rfl fun ⟨b1, c1⟩ _ => ?_
              (first | refine wX ?_ | exact wZ)
              exact ⟨(b1, c1), trivial, rfl, wkE_refl _, wkE_refl _, wkE_refl _, wkH_nil _⟩
      | false =>
        have hK2 : wordsK s p l = (9, q + 1) := by rw [hK]; simp [bne, e0, e1]
        have hql := pk_lt (show pk s q = 58 by simpa using e0) (by decide)
        rw [hwW, hK2]
        (first | refine wX ?_ | exact wZ)
        refine LdN.one (a := some ⟨xb, 0, none⟩) (q := 1) (.int .i64 ((q : Nat) : Int)) rfl (fun w hw => hw.1) rfl ?_
        (first | refine wX ?_ | exact wZ)
        refine EffW.appTo (i := 0) (q := 1) (ys := [_]) (scC s (q + 1) line ob l.length cap here sp) 6 rfl rfl rfl rfl rfl rfl rfl (Nat.le_of_ble_eq_true rfl) (by
          show [_, Value.int .i64 _, _, _, _, _] = [_, Value.int .i64 _, _, _, _, _]
          rw [wrap_i64 (by omega)]
          rfl) rfl ?_
        (first | refine wX ?_ | exact wZ)
        refine callG (add_c xb s (q + 1) line l ob cap here sp 9 W line (by omega) hob) [0, 1] rfl ⟨rfl, rfl, trivial⟩ rfl fun ⟨b1, c1⟩ _ => ?_
        (first | refine wX ?_ | exact wZ)
        exact ⟨(b1, c1), trivial, rfl, wkE_refl _, wkE_refl _, wkE_refl _, wkH_nil _⟩
    | false =>
      have hK2 : wordsK s p l = (if !sml c then 2 else if kwB W && !lastDot l then 8 else 1, q) := by rw [hK]; simp [e0]
      -- false: upper
      rcases Nat.eq_zero_or_pos l.length with hl0 | hl0
      · have hd : lastDot l = false := by rw [List.eq_nil_of_length_eq_zero hl0]; rfl
        (first | refine wX ?_ | exact wZ)
        refine LdN.one (a := some ⟨xb, 0, none⟩) (q := 3) (.slice (at0 ob) l.length cap) rfl (fun w hw => hw.1) rfl ?_
        (first | refine wX ?_ | exact wZ)
        refine brd_dec (fun h => absurd h (by omega)) (fun _ => ?_)
        (first | refine wX ?_ | exact wZ)
        refine call1 (IsKeyword_c W (by omega) _ (fun w hw => hw.2.2.1.1)) ?_
        cases hkw : kwB W with
        | true =>
          -- 8: the kind
          rw [hwW, show wordsK s p l = (8, q) by rw [hK2]; simp [hsm, hd, *]]
          (first | refine wX ?_ | exact wZ)
          refine callG (add_c xb s q line l ob cap here sp 8 W line (by omega) hob) [0, 1] rfl ⟨rfl, rfl, trivial⟩ rfl fun ⟨b1, c1⟩ _ => ?_
          (first | refine wX ?_ | exact wZ)
          exact ⟨(b1, c1), trivial, rfl, wkE_refl _, wkE_refl _, wkE_refl _, wkH_nil _⟩
        | false =>
          -- 1: the kind
          rw [hwW, show wordsK s p l = (1, q) by rw [hK2]; simp [hsm, hd, *]]
          (first | refine wX ?_ | exact wZ)
          refine callG (add_c xb s q line l ob cap here sp 1 W line (by omega) hob) [0, 1] rfl ⟨rfl, rfl, trivial⟩ rfl fun ⟨b1, c1⟩ _ => ?_
          (first | refine wX ?_ | exact wZ)
          exact ⟨(b1, c1), trivial, rfl, wkE_refl _, wkE_refl _, wkE_refl _, wkH_nil _⟩
      · obtain ⟨t, ht⟩ : ∃ t, l[l.length - 1]? = some t := ⟨_, List.getElem?_eq_getElem (by omega)⟩
        have hoa : (at0 ob).isSome = true := by
          cases ob with
          | none => rw [hob rfl] at hl0; simp at hl0
          | some g => rfl
        have hw1 : IntKind.i64.wrap ((l.length : Int) - 1) = ((l.length - 1 : Nat) : Int) := by rw [wrap_i64 (by omega)]; omega
        obtain ⟨tk, tt, ts, tl2, ta, tn, tc⟩ := t
        have hdt : lastDot l = (tk == 7 && (tt == [46] || tt == [38, 46])) := by
          unfold lastDot
          rw [List.getLast?_eq_getElem?, ht]
        (first | refine wX ?_ | exact wZ)
        refine LdN.one (a := some ⟨xb, 0, none⟩) (q := 3) (.slice (at0 ob) l.length cap) rfl (fun w hw => hw.1) rfl ?_
        (first | refine wX ?_ | exact wZ)
        refine brd_dec (fun _ => ?_) (fun h => absurd h (by omega))
        (first | refine wX ?_ | exact wZ)
        -- 0: the field's number, .int .i64 tk: its value
        refine LdN.one (a := some ⟨xb, 0, none⟩) (q := 3) (.slice (at0 ob) l.length cap) rfl (fun w hw => hw.1) rfl ?_
        (first | refine wX ?_ | exact wZ)
        refine LdN.one (a := some ⟨xb, 0, none⟩) (q := 3) (.slice (at0 ob) l.length cap) rfl (fun w hw => hw.1) rfl ?_
        (first | refine wX ?_ | exact wZ)
        try rw [hw1]
        refine Nd.mk ⟨hoa, by omega, by omega⟩ ?_
        (first | refine wX ?_ | exact wZ)
        refine LdN.fld (.int .i64 tk) rfl (fun w hw => hw.2.1) (by rw [Int.toNat_natCast]; exact toksC_get l _ 0 (by decide) ht) ?_
        (first | refine wX ?_ | exact wZ)
        refine brd_eq (fun e7 => ?_) (fun e7 => ?_)
        · by_cases h46 : tt = [46]
          · subst h46
            have hd : lastDot l = true := by rw [hdt]; simp [e7]
            (first | refine wX ?_ | exact wZ)
            -- 1: the field's number, .string (bs [46]): its value
            refine LdN.one (a := some ⟨xb, 0, none⟩) (q := 3) (.slice (at0 ob) l.length cap) rfl (fun w hw => hw.1) rfl ?_
            (first | refine wX ?_ | exact wZ)
            refine LdN.one (a := some ⟨xb, 0, none⟩) (q := 3) (.slice (at0 ob) l.length cap) rfl (fun w hw => hw.1) rfl ?_
            (first | refine wX ?_ | exact wZ)
            try rw [hw1]
            refine Nd.mk ⟨hoa, by omega, by omega⟩ ?_
            (first | refine wX ?_ | exact wZ)
            refine LdN.fld (.string (bs [46])) rfl (fun w hw => hw.2.1) (by rw [Int.toNat_natCast]; exact toksC_get l _ 1 (by decide) ht) ?_
            (first | refine wX ?_ | exact wZ)
            (first | refine wX ?_ | exact wZ)
            refine call1 (IsKeyword_c W (by omega) _ (fun w hw => hw.2.2.1.1)) ?_
            cases hkw : kwB W with
            | true =>
              -- 1: the kind
              rw [hwW, show wordsK s p l = (1, q) by rw [hK2]; simp [hsm, hd, *]]
              (first | refine wX ?_ | exact wZ)
              refine callG (add_c xb s q line l ob cap here sp 1 W line (by omega) hob) [0, 1] rfl ⟨rfl, rfl, trivial⟩ rfl fun ⟨b1, c1⟩ _ => ?_
              (first | refine wX ?_ | exact wZ)
              exact ⟨(b1, c1), trivial, rfl, wkE_refl _, wkE_refl _, wkE_refl _, wkH_nil _⟩
            | false =>
              -- 1: the kind
              rw [hwW, show wordsK s p l = (1, q) by rw [hK2]; simp [hsm, hd, *]]
              (first | refine wX ?_ | exact wZ)
              refine callG (add_c xb s q line l ob cap here sp 1 W line (by omega) hob) [0, 1] rfl ⟨rfl, rfl, trivial⟩ rfl fun ⟨b1, c1⟩ _ => ?_
              (first | refine wX ?_ | exact wZ)
              exact ⟨(b1, c1), trivial, rfl, wkE_refl _, wkE_refl _, wkE_refl _, wkH_nil _⟩
          · (first | refine wX ?_ | exact wZ)
            -- 1: the field's number, .string (bs tt): its value
            refine LdN.one (a := some ⟨xb, 0, none⟩) (q := 3) (.slice (at0 ob) l.length cap) rfl (fun w hw => hw.1) rfl ?_
            (first | refine wX ?_ | exact wZ)
            refine LdN.one (a := some ⟨xb, 0, none⟩) (q := 3) (.slice (at0 ob) l.length cap) rfl (fun w hw => hw.1) rfl ?_
            (first | refine wX ?_ | exact wZ)
            try rw [hw1]
            refine Nd.mk ⟨hoa, by omega, by omega⟩ ?_
            (first | refine wX ?_ | exact wZ)
            refine LdN.fld (.string (bs tt)) rfl (fun w hw => hw.2.1) (by rw [Int.toNat_natCast]; exact toksC_get l _ 1 (by decide) ht) ?_
            (first | refine wX ?_ | exact wZ)
            refine brd_intro (fun h => absurd (eq_of_beq (show (tt == [46]) = true from h)) h46) (fun _ => ?_)
            by_cases h38 : tt = [38, 46]
            · subst h38
              have hd : lastDot l = true := by rw [hdt]; simp [e7]
              (first | refine wX ?_ | exact wZ)
              -- 1: the field's number, .string (bs [38, 46]): its value
              refine LdN.one (a := some ⟨xb, 0, none⟩) (q := 3) (.slice (at0 ob) l.length cap) rfl (fun w hw => hw.1) rfl ?_
              (first | refine wX ?_ | exact wZ)
              refine LdN.one (a := some ⟨xb, 0, none⟩) (q := 3) (.slice (at0 ob) l.length cap) rfl (fun w hw => hw.1) rfl ?_
              (first | refine wX ?_ | exact wZ)
              try rw [hw1]
              refine Nd.mk ⟨hoa, by omega, by omega⟩ ?_
              (first | refine wX ?_ | exact wZ)
              refine LdN.fld (.string (bs [38, 46])) rfl (fun w hw => hw.2.1) (by rw [Int.toNat_natCast]; exact toksC_get l _ 1 (by decide) ht) ?_
              (first | refine wX ?_ | exact wZ)
              (first | refine wX ?_ | exact wZ)
              refine call1 (IsKeyword_c W (by omega) _ (fun w hw => hw.2.2.1.1)) ?_
              cases hkw : kwB W with
              | true =>
                -- 1: the kind
                rw [hwW, show wordsK s p l = (1, q) by rw [hK2]; simp [hsm, hd, *]]
                (first | refine wX ?_ | exact wZ)
                refine callG (add_c xb s q line l ob cap here sp 1 W line (by omega) hob) [0, 1] rfl ⟨rfl, rfl, trivial⟩ rfl fun ⟨b1, c1⟩ _ => ?_
                (first | refine wX ?_ | exact wZ)
                exact ⟨(b1, c1), trivial, rfl, wkE_refl _, wkE_refl _, wkE_refl _, wkH_nil _⟩
              | false =>
                -- 1: the kind
                rw [hwW, show wordsK s p l = (1, q) by rw [hK2]; simp [hsm, hd, *]]
                (first | refine wX ?_ | exact wZ)
                refine callG (add_c xb s q line l ob cap here sp 1 W line (by omega) hob) [0, 1] rfl ⟨rfl, rfl, trivial⟩ rfl fun ⟨b1, c1⟩ _ => ?_
                (first | refine wX ?_ | exact wZ)
                exact ⟨(b1, c1), trivial, rfl, wkE_refl _, wkE_refl _, wkE_refl _, wkH_nil _⟩
            · have hd : lastDot l = false := by rw [hdt]; simp [h46, h38]
              (first | refine wX ?_ | exact wZ)
              -- 1: the field's number, .string (bs tt): its value
              refine LdN.one (a := some ⟨xb, 0, none⟩) (q := 3) (.slice (at0 ob) l.length cap) rfl (fun w hw => hw.1) rfl ?_
              (first | refine wX ?_ | exact wZ)
              refine LdN.one (a := some ⟨xb, 0, none⟩) (q := 3) (.slice (at0 ob) l.length cap) rfl (fun w hw => hw.1) rfl ?_
              (first | refine wX ?_ | exact wZ)
              try rw [hw1]
              refine Nd.mk ⟨hoa, by omega, by omega⟩ ?_
              (first | refine wX ?_ | exact wZ)
              refine LdN.fld (.string (bs tt)) rfl (fun w hw => hw.2.1) (by rw [Int.toNat_natCast]; exact toksC_get l _ 1 (by decide) ht) ?_
              (first | refine wX ?_ | exact wZ)
              (first | refine wX ?_ | exact wZ)
              refine call1 (IsKeyword_c W (by omega) _ (fun w hw => hw.2.2.1.1)) ?_
              cases hkw : kwB W with
              | true =>
                (first | refine wX ?_ | exact wZ)
                refine brdT (show (!(tt == [38, 46])) = true by simp [h38]) ?_
                -- 8: the kind
                rw [hwW, show wordsK s p l = (8, q) by rw [hK2]; simp [hsm, hd, *]]
                (first | refine wX ?_ | exact wZ)
                refine callG (add_c xb s q line l ob cap here sp 8 W line (by omega) hob) [0, 1] rfl ⟨rfl, rfl, trivial⟩ rfl fun ⟨b1, c1⟩ _ => ?_
                (first | refine wX ?_ | exact wZ)
                exact ⟨(b1, c1), trivial, rfl, wkE_refl _, wkE_refl _, wkE_refl _, wkH_nil _⟩
              | false =>
                -- 1: the kind
                rw [hwW, show wordsK s p l = (1, q) by rw [hK2]; simp [hsm, hd, *]]
                (first | refine wX ?_ | exact wZ)
                refine callG (add_c xb s q line l ob cap here sp 1 W line (by omega) hob) [0, 1] rfl ⟨rfl, rfl, trivial⟩ rfl fun ⟨b1, c1⟩ _ => ?_
                (first | refine wX ?_ | exact wZ)
                exact ⟨(b1, c1), trivial, rfl, wkE_refl _, wkE_refl _, wkE_refl _, wkH_nil _⟩
        · have hd : lastDot l = false := by rw [hdt]; simp [e7]
          (first | refine wX ?_ | exact wZ)
          refine call1 (IsKeyword_c W (by omega) _ (fun w hw => hw.2.2.1.1)) ?_
          cases hkw : kwB W with
          | true =>
            -- 8: the kind
            rw [hwW, show wordsK s p l = (8, q) by rw [hK2]; simp [hsm, hd, *]]
            (first | refine wX ?_ | exact wZ)
            refine callG (add_c xb s q line l ob cap here sp 8 W line (by omega) hob) [0, 1] rfl ⟨rfl, rfl, trivial⟩ rfl fun ⟨b1, c1⟩ _ => ?_
            (first | refine wX ?_ | exact wZ)
            exact ⟨(b1, c1), trivial, rfl, wkE_refl _, wkE_refl _, wkE_refl _, wkH_nil _⟩
          | false =>
            -- 1: the kind
            rw [hwW, show wordsK s p l = (1, q) by rw [hK2]; simp [hsm, hd, *]]
            (first | refine wX ?_ | exact wZ)
            refine callG (add_c xb s q line l ob cap here sp 1 W line (by omega) hob) [0, 1] rfl ⟨rfl, rfl, trivial⟩ rfl fun ⟨b1, c1⟩ _ => ?_
            (first | refine wX ?_ | exact wZ)
            exact ⟨(b1, c1), trivial, rfl, wkE_refl _, wkE_refl _, wkE_refl _, wkH_nil _⟩
  | false =>
    have hwl := wordS_le s p (by omega)
    (first | refine wX ?_ | exact wZ)
    refine callG (word_c xb s p line ob l.length cap here sp hs (by omega)) [0] rfl ⟨rfl, trivial⟩ rfl fun _ _ => ?_
    generalize hq : p + (wordS s p).length = q at *
    -- true: upper, wordS s p: the word
    have hwW : wordW s p = wordS s p := by unfold wordW; rw [hcp]; simp [hsm]
    have hK : wordsK s p l = if pk s q == 58 && pk s (q + 1) != 58 then (9, q + 1) else (if !sml c then 2 else if kwB (wordS s p) && !lastDot l then 8 else 1, q) := by
      unfold wordsK
      simp only [hwW, hq, hcp]
    generalize hW : wordS s p = W at *
    (first | refine wX ?_ | exact wZ)
    refine call1 (peek_c xb s q line ob l.length cap here sp 0 (by omega) (by decide) _ (fun w hw => hw.1)) ?_
    rw [Nat.add_zero]
    have hb0 : (((pk s q).toNat : Int) == 58) = (pk s q == 58) := u8_eq (n := 58) (by decide)
    have hb1 : (((pk s (q + 1)).toNat : Int) == 58) = (pk s (q + 1) == 58) := u8_eq (n := 58) (by decide)
    (first | refine wX ?_ | exact wZ)
    rw [hb0]
    cases e0 : pk s q == 58 with
    | true =>
      (first | refine wX ?_ | exact wZ)
      refine call1 (peek_c xb s q line ob l.length cap here sp 1 (by omega) (by decide) _ (fun w hw => hw.1)) ?_
      (first | refine wX ?_ | exact wZ)
      rw [bne, hb1]
      cases e1 : pk s (q + 1) == 58 with
      | true =>
        have hK2 : wordsK s p l = (if !sml c then 2 else if kwB W && !lastDot l then 8 else 1, q) := by rw [hK]; simp [bne, e1]
        -- true: upper
        rcases Nat.eq_zero_or_pos l.length with hl0 | hl0
        · have hd : lastDot l = false := by rw [List.eq_nil_of_length_eq_zero hl0]; rfl
          (first | refine wX ?_ | exact wZ)
          refine LdN.one (a := some ⟨xb, 0, none⟩) (q := 3) (.slice (at0 ob) l.length cap) rfl (fun w hw => hw.1) rfl ?_
          (first | refine wX ?_ | exact wZ)
          refine brd_dec (fun h => absurd h (by omega)) (fun _ => ?_)
          -- it is upper; false: whether a dot is ahead
          -- 2: the kind
          rw [hwW, show wordsK s p l = (2, q) by rw [hK2]; simp [hsm, hd, *]]
          (first | refine wX ?_ | exact wZ)
          refine callG (add_c xb s q line l ob cap here sp 2 W line (by omega) hob) [0, 1] rfl ⟨rfl, rfl, trivial⟩ rfl fun ⟨b1, c1⟩ _ => ?_
          (first | refine wX ?_ | exact wZ)
          exact ⟨(b1, c1), trivial, rfl, wkE_refl _, wkE_refl _, wkE_refl _, wkH_nil _⟩
        · obtain ⟨t, ht⟩ : ∃ t, l[l.length - 1]? = some t := ⟨_, List.getElem?_eq_getElem (by omega)⟩
          have hoa : (at0 ob).isSome = true := by
            cases ob with
            | none => rw [hob rfl] at hl0; simp at hl0
            | some g => rfl
          have hw1 : IntKind.i64.wrap ((l.length : Int) - 1) = ((l.length - 1 : Nat) : Int) := by rw [wrap_i64 (by omega)]; omega
          obtain ⟨tk, tt, ts, tl2, ta, tn, tc⟩ := t
          have hdt : lastDot l = (tk == 7 && (tt == [46] || tt == [38, 46])) := by
            unfold lastDot
            rw [List.getLast?_eq_getElem?, ht]
          (first | refine wX ?_ | exact wZ)
          refine LdN.one (a := some ⟨xb, 0, none⟩) (q := 3) (.slice (at0 ob) l.length cap) rfl (fun w hw => hw.1) rfl ?_
          (first | refine wX ?_ | exact wZ)
          refine brd_dec (fun _ => ?_) (fun h => absurd h (by omega))
          (first | refine wX ?_ | exact wZ)
          -- 0: the field's number, .int .i64 tk: its value
          refine LdN.one (a := some ⟨xb, 0, none⟩) (q := 3) (.slice (at0 ob) l.length cap) rfl (fun w hw => hw.1) rfl ?_
          (first | refine wX ?_ | exact wZ)
          refine LdN.one (a := some ⟨xb, 0, none⟩) (q := 3) (.slice (at0 ob) l.length cap) rfl (fun w hw => hw.1) rfl ?_
          (first | refine wX ?_ | exact wZ)
          try rw [hw1]
          refine Nd.mk ⟨hoa, by omega, by omega⟩ ?_
          (first | refine wX ?_ | exact wZ)
          refine LdN.fld (.int .i64 tk) rfl (fun w hw => hw.2.1) (by rw [Int.toNat_natCast]; exact toksC_get l _ 0 (by decide) ht) ?_
          (first | refine wX ?_ | exact wZ)
          refine brd_eq (fun e7 => ?_) (fun e7 => ?_)
          · by_cases h46 : tt = [46]
            · subst h46
              have hd : lastDot l = true := by rw [hdt]; simp [e7]
              (first | refine wX ?_ | exact wZ)
              -- 1: the field's number, .string (bs [46]): its value
              refine LdN.one (a := some ⟨xb, 0, none⟩) (q := 3) (.slice (at0 ob) l.length cap) rfl (fun w hw => hw.1) rfl ?_
              (first | refine wX ?_ | exact wZ)
              refine LdN.one (a := some ⟨xb, 0, none⟩) (q := 3) (.slice (at0 ob) l.length cap) rfl (fun w hw => hw.1) rfl ?_
              (first | refine wX ?_ | exact wZ)
              try rw [hw1]
              refine Nd.mk ⟨hoa, by omega, by omega⟩ ?_
              (first | refine wX ?_ | exact wZ)
              refine LdN.fld (.string (bs [46])) rfl (fun w hw => hw.2.1) (by rw [Int.toNat_natCast]; exact toksC_get l _ 1 (by decide) ht) ?_
              (first | refine wX ?_ | exact wZ)
              -- it is upper; true: whether a dot is ahead
              -- 2: the kind
              rw [hwW, show wordsK s p l = (2, q) by rw [hK2]; simp [hsm, hd, *]]
              (first | refine wX ?_ | exact wZ)
              refine callG (add_c xb s q line l ob cap here sp 2 W line (by omega) hob) [0, 1] rfl ⟨rfl, rfl, trivial⟩ rfl fun ⟨b1, c1⟩ _ => ?_
              (first | refine wX ?_ | exact wZ)
              exact ⟨(b1, c1), trivial, rfl, wkE_refl _, wkE_refl _, wkE_refl _, wkH_nil _⟩
            · (first | refine wX ?_ | exact wZ)
              -- 1: the field's number, .string (bs tt): its value
              refine LdN.one (a := some ⟨xb, 0, none⟩) (q := 3) (.slice (at0 ob) l.length cap) rfl (fun w hw => hw.1) rfl ?_
              (first | refine wX ?_ | exact wZ)
              refine LdN.one (a := some ⟨xb, 0, none⟩) (q := 3) (.slice (at0 ob) l.length cap) rfl (fun w hw => hw.1) rfl ?_
              (first | refine wX ?_ | exact wZ)
              try rw [hw1]
              refine Nd.mk ⟨hoa, by omega, by omega⟩ ?_
              (first | refine wX ?_ | exact wZ)
              refine LdN.fld (.string (bs tt)) rfl (fun w hw => hw.2.1) (by rw [Int.toNat_natCast]; exact toksC_get l _ 1 (by decide) ht) ?_
              (first | refine wX ?_ | exact wZ)
              refine brd_intro (fun h => absurd (eq_of_beq (show (tt == [46]) = true from h)) h46) (fun _ => ?_)
              by_cases h38 : tt = [38, 46]
              · subst h38
                have hd : lastDot l = true := by rw [hdt]; simp [e7]
                (first | refine wX ?_ | exact wZ)
                -- 1: the field's number, .string (bs [38, 46]): its value
                refine LdN.one (a := some ⟨xb, 0, none⟩) (q := 3) (.slice (at0 ob) l.length cap) rfl (fun w hw => hw.1) rfl ?_
                (first | refine wX ?_ | exact wZ)
                refine LdN.one (a := some ⟨xb, 0, none⟩) (q := 3) (.slice (at0 ob) l.length cap) rfl (fun w hw => hw.1) rfl ?_
                (first | refine wX ?_ | exact wZ)
                try rw [hw1]
                refine Nd.mk ⟨hoa, by omega, by omega⟩ ?_
                (first | refine wX ?_ | exact wZ)
                refine LdN.fld (.string (bs [38, 46])) rfl (fun w hw => hw.2.1) (by rw [Int.toNat_natCast]; exact toksC_get l _ 1 (by decide) ht) ?_
                (first | refine wX ?_ | exact wZ)
                -- it is upper; true: whether a dot is ahead
                -- 2: the kind
                rw [hwW, show wordsK s p l = (2, q) by rw [hK2]; simp [hsm, hd, *]]
                (first | refine wX ?_ | exact wZ)
                refine callG (add_c xb s q line l ob cap here sp 2 W line (by omega) hob) [0, 1] rfl ⟨rfl, rfl, trivial⟩ rfl fun ⟨b1, c1⟩ _ => ?_
                (first | refine wX ?_ | exact wZ)
                exact ⟨(b1, c1), trivial, rfl, wkE_refl _, wkE_refl _, wkE_refl _, wkH_nil _⟩
              · have hd : lastDot l = false := by rw [hdt]; simp [h46, h38]
                (first | refine wX ?_ | exact wZ)
                -- 1: the field's number, .string (bs tt): its value
                refine LdN.one (a := some ⟨xb, 0, none⟩) (q := 3) (.slice (at0 ob) l.length cap) rfl (fun w hw => hw.1) rfl ?_
                (first | refine wX ?_ | exact wZ)
                refine LdN.one (a := some ⟨xb, 0, none⟩) (q := 3) (.slice (at0 ob) l.length cap) rfl (fun w hw => hw.1) rfl ?_
                (first | refine wX ?_ | exact wZ)
                try rw [hw1]
                refine Nd.mk ⟨hoa, by omega, by omega⟩ ?_
                (first | refine wX ?_ | exact wZ)
                refine LdN.fld (.string (bs tt)) rfl (fun w hw => hw.2.1) (by rw [Int.toNat_natCast]; exact toksC_get l _ 1 (by decide) ht) ?_
                (first | refine wX ?_ | exact wZ)
                -- it is upper; sym: whether a dot is ahead
                -- 2: the kind
                rw [hwW, show wordsK s p l = (2, q) by rw [hK2]; simp [hsm, hd, *]]
                (first | refine wX ?_ | exact wZ)
                refine callG (add_c xb s q line l ob cap here sp 2 W line (by omega) hob) [0, 1] rfl ⟨rfl, rfl, trivial⟩ rfl fun ⟨b1, c1⟩ _ => ?_
                (first | refine wX ?_ | exact wZ)
                exact ⟨(b1, c1), trivial, rfl, wkE_refl _, wkE_refl _, wkE_refl _, wkH_nil _⟩
          · have hd : lastDot l = false := by rw [hdt]; simp [e7]
            -- it is upper; false: whether a dot is ahead
            -- 2: the kind
            rw [hwW, show wordsK s p l = (2, q) by rw [hK2]; simp [hsm, hd, *]]
            (first | refine wX ?_ | exact wZ)
            refine callG (add_c xb s q line l ob cap here sp 2 W line (by omega) hob) [0, 1] rfl ⟨rfl, rfl, trivial⟩ rfl fun ⟨b1, c1⟩ _ => ?_
            (first | refine wX ?_ | exact wZ)
            exact ⟨(b1, c1), trivial, rfl, wkE_refl _, wkE_refl _, wkE_refl _, wkH_nil _⟩
      | false =>
        have hK2 : wordsK s p l = (9, q + 1) := by rw [hK]; simp [bne, e0, e1]
        have hql := pk_lt (show pk s q = 58 by simpa using e0) (by decide)
        rw [hwW, hK2]
        (first | refine wX ?_ | exact wZ)
        refine LdN.one (a := some ⟨xb, 0, none⟩) (q := 1) (.int .i64 ((q : Nat) : Int)) rfl (fun w hw => hw.1) rfl ?_
        (first | refine wX ?_ | exact wZ)
        refine EffW.appTo (i := 0) (q := 1) (ys := [_]) (scC s (q + 1) line ob l.length cap here sp) 6 rfl rfl rfl rfl rfl rfl rfl (Nat.le_of_ble_eq_true rfl) (by
          show [_, Value.int .i64 _, _, _, _, _] = [_, Value.int .i64 _, _, _, _, _]
          rw [wrap_i64 (by omega)]
          rfl) rfl ?_
        (first | refine wX ?_ | exact wZ)
        refine callG (add_c xb s (q + 1) line l ob cap here sp 9 W line (by omega) hob) [0, 1] rfl ⟨rfl, rfl, trivial⟩ rfl fun ⟨b1, c1⟩ _ => ?_
        (first | refine wX ?_ | exact wZ)
        exact ⟨(b1, c1), trivial, rfl, wkE_refl _, wkE_refl _, wkE_refl _, wkH_nil _⟩
    | false =>
      have hK2 : wordsK s p l = (if !sml c then 2 else if kwB W && !lastDot l then 8 else 1, q) := by rw [hK]; simp [e0]
      -- true: upper
      rcases Nat.eq_zero_or_pos l.length with hl0 | hl0
      · have hd : lastDot l = false := by rw [List.eq_nil_of_length_eq_zero hl0]; rfl
        (first | refine wX ?_ | exact wZ)
        refine LdN.one (a := some ⟨xb, 0, none⟩) (q := 3) (.slice (at0 ob) l.length cap) rfl (fun w hw => hw.1) rfl ?_
        (first | refine wX ?_ | exact wZ)
        refine brd_dec (fun h => absurd h (by omega)) (fun _ => ?_)
        -- it is upper; false: whether a dot is ahead
        -- 2: the kind
        rw [hwW, show wordsK s p l = (2, q) by rw [hK2]; simp [hsm, hd, *]]
        (first | refine wX ?_ | exact wZ)
        refine callG (add_c xb s q line l ob cap here sp 2 W line (by omega) hob) [0, 1] rfl ⟨rfl, rfl, trivial⟩ rfl fun ⟨b1, c1⟩ _ => ?_
        (first | refine wX ?_ | exact wZ)
        exact ⟨(b1, c1), trivial, rfl, wkE_refl _, wkE_refl _, wkE_refl _, wkH_nil _⟩
      · obtain ⟨t, ht⟩ : ∃ t, l[l.length - 1]? = some t := ⟨_, List.getElem?_eq_getElem (by omega)⟩
        have hoa : (at0 ob).isSome = true := by
          cases ob with
          | none => rw [hob rfl] at hl0; simp at hl0
          | some g => rfl
        have hw1 : IntKind.i64.wrap ((l.length : Int) - 1) = ((l.length - 1 : Nat) : Int) := by rw [wrap_i64 (by omega)]; omega
        obtain ⟨tk, tt, ts, tl2, ta, tn, tc⟩ := t
        have hdt : lastDot l = (tk == 7 && (tt == [46] || tt == [38, 46])) := by
          unfold lastDot
          rw [List.getLast?_eq_getElem?, ht]
        (first | refine wX ?_ | exact wZ)
        refine LdN.one (a := some ⟨xb, 0, none⟩) (q := 3) (.slice (at0 ob) l.length cap) rfl (fun w hw => hw.1) rfl ?_
        (first | refine wX ?_ | exact wZ)
        refine brd_dec (fun _ => ?_) (fun h => absurd h (by omega))
        (first | refine wX ?_ | exact wZ)
        -- 0: the field's number, .int .i64 tk: its value
        refine LdN.one (a := some ⟨xb, 0, none⟩) (q := 3) (.slice (at0 ob) l.length cap) rfl (fun w hw => hw.1) rfl ?_
        (first | refine wX ?_ | exact wZ)
        refine LdN.one (a := some ⟨xb, 0, none⟩) (q := 3) (.slice (at0 ob) l.length cap) rfl (fun w hw => hw.1) rfl ?_
        (first | refine wX ?_ | exact wZ)
        try rw [hw1]
        refine Nd.mk ⟨hoa, by omega, by omega⟩ ?_
        (first | refine wX ?_ | exact wZ)
        refine LdN.fld (.int .i64 tk) rfl (fun w hw => hw.2.1) (by rw [Int.toNat_natCast]; exact toksC_get l _ 0 (by decide) ht) ?_
        (first | refine wX ?_ | exact wZ)
        refine brd_eq (fun e7 => ?_) (fun e7 => ?_)
        · by_cases h46 : tt = [46]
          · subst h46
            have hd : lastDot l = true := by rw [hdt]; simp [e7]
            (first | refine wX ?_ | exact wZ)
            -- 1: the field's number, .string (bs [46]): its value
            refine LdN.one (a := some ⟨xb, 0, none⟩) (q := 3) (.slice (at0 ob) l.length cap) rfl (fun w hw => hw.1) rfl ?_
            (first | refine wX ?_ | exact wZ)
            refine LdN.one (a := some ⟨xb, 0, none⟩) (q := 3) (.slice (at0 ob) l.length cap) rfl (fun w hw => hw.1) rfl ?_
            (first | refine wX ?_ | exact wZ)
            try rw [hw1]
            refine Nd.mk ⟨hoa, by omega, by omega⟩ ?_
            (first | refine wX ?_ | exact wZ)
            refine LdN.fld (.string (bs [46])) rfl (fun w hw => hw.2.1) (by rw [Int.toNat_natCast]; exact toksC_get l _ 1 (by decide) ht) ?_
            (first | refine wX ?_ | exact wZ)
            -- it is upper; true: whether a dot is ahead
            -- 2: the kind
            rw [hwW, show wordsK s p l = (2, q) by rw [hK2]; simp [hsm, hd, *]]
            (first | refine wX ?_ | exact wZ)
            refine callG (add_c xb s q line l ob cap here sp 2 W line (by omega) hob) [0, 1] rfl ⟨rfl, rfl, trivial⟩ rfl fun ⟨b1, c1⟩ _ => ?_
            (first | refine wX ?_ | exact wZ)
            exact ⟨(b1, c1), trivial, rfl, wkE_refl _, wkE_refl _, wkE_refl _, wkH_nil _⟩
          · (first | refine wX ?_ | exact wZ)
            -- 1: the field's number, .string (bs tt): its value
            refine LdN.one (a := some ⟨xb, 0, none⟩) (q := 3) (.slice (at0 ob) l.length cap) rfl (fun w hw => hw.1) rfl ?_
            (first | refine wX ?_ | exact wZ)
            refine LdN.one (a := some ⟨xb, 0, none⟩) (q := 3) (.slice (at0 ob) l.length cap) rfl (fun w hw => hw.1) rfl ?_
            (first | refine wX ?_ | exact wZ)
            try rw [hw1]
            refine Nd.mk ⟨hoa, by omega, by omega⟩ ?_
            (first | refine wX ?_ | exact wZ)
            refine LdN.fld (.string (bs tt)) rfl (fun w hw => hw.2.1) (by rw [Int.toNat_natCast]; exact toksC_get l _ 1 (by decide) ht) ?_
            (first | refine wX ?_ | exact wZ)
            refine brd_intro (fun h => absurd (eq_of_beq (show (tt == [46]) = true from h)) h46) (fun _ => ?_)
            by_cases h38 : tt = [38, 46]
            · subst h38
              have hd : lastDot l = true := by rw [hdt]; simp [e7]
              (first | refine wX ?_ | exact wZ)
              -- 1: the field's number, .string (bs [38, 46]): its value
              refine LdN.one (a := some ⟨xb, 0, none⟩) (q := 3) (.slice (at0 ob) l.length cap) rfl (fun w hw => hw.1) rfl ?_
              (first | refine wX ?_ | exact wZ)
              refine LdN.one (a := some ⟨xb, 0, none⟩) (q := 3) (.slice (at0 ob) l.length cap) rfl (fun w hw => hw.1) rfl ?_
              (first | refine wX ?_ | exact wZ)
              try rw [hw1]
              refine Nd.mk ⟨hoa, by omega, by omega⟩ ?_
              (first | refine wX ?_ | exact wZ)
              refine LdN.fld (.string (bs [38, 46])) rfl (fun w hw => hw.2.1) (by rw [Int.toNat_natCast]; exact toksC_get l _ 1 (by decide) ht) ?_
              (first | refine wX ?_ | exact wZ)
              -- it is upper; true: whether a dot is ahead
              -- 2: the kind
              rw [hwW, show wordsK s p l = (2, q) by rw [hK2]; simp [hsm, hd, *]]
              (first | refine wX ?_ | exact wZ)
              refine callG (add_c xb s q line l ob cap here sp 2 W line (by omega) hob) [0, 1] rfl ⟨rfl, rfl, trivial⟩ rfl fun ⟨b1, c1⟩ _ => ?_
              (first | refine wX ?_ | exact wZ)
              exact ⟨(b1, c1), trivial, rfl, wkE_refl _, wkE_refl _, wkE_refl _, wkH_nil _⟩
            · have hd : lastDot l = false := by rw [hdt]; simp [h46, h38]
              (first | refine wX ?_ | exact wZ)
              -- 1: the field's number, .string (bs tt): its value
              refine LdN.one (a := some ⟨xb, 0, none⟩) (q := 3) (.slice (at0 ob) l.length cap) rfl (fun w hw => hw.1) rfl ?_
              (first | refine wX ?_ | exact wZ)
              refine LdN.one (a := some ⟨xb, 0, none⟩) (q := 3) (.slice (at0 ob) l.length cap) rfl (fun w hw => hw.1) rfl ?_
              (first | refine wX ?_ | exact wZ)
              try rw [hw1]
              refine Nd.mk ⟨hoa, by omega, by omega⟩ ?_
              (first | refine wX ?_ | exact wZ)
              refine LdN.fld (.string (bs tt)) rfl (fun w hw => hw.2.1) (by rw [Int.toNat_natCast]; exact toksC_get l _ 1 (by decide) ht) ?_
              (first | refine wX ?_ | exact wZ)
              -- it is upper; sym: whether a dot is ahead
              -- 2: the kind
              rw [hwW, show wordsK s p l = (2, q) by rw [hK2]; simp [hsm, hd, *]]
              (first | refine wX ?_ | exact wZ)
              refine callG (add_c xb s q line l ob cap here sp 2 W line (by omega) hob) [0, 1] rfl ⟨rfl, rfl, trivial⟩ rfl fun ⟨b1, c1⟩ _ => ?_
              (first | refine wX ?_ | exact wZ)
              exact ⟨(b1, c1), trivial, rfl, wkE_refl _, wkE_refl _, wkE_refl _, wkH_nil _⟩
        · have hd : lastDot l = false := by rw [hdt]; simp [e7]
          -- it is upper; false: whether a dot is ahead
          -- 2: the kind
          rw [hwW, show wordsK s p l = (2, q) by rw [hK2]; simp [hsm, hd, *]]
          (first | refine wX ?_ | exact wZ)
          refine callG (add_c xb s q line l ob cap here sp 2 W line (by omega) hob) [0, 1] rfl ⟨rfl, rfl, trivial⟩ rfl fun ⟨b1, c1⟩ _ => ?_
          (first | refine wX ?_ | exact wZ)
          exact ⟨(b1, c1), trivial, rfl, wkE_refl _, wkE_refl _, wkE_refl _, wkH_nil _⟩
end Go.Proofs.YteejemdibfbccaaDoor

/-
  Contract: signs (program).
-/
namespace Go.Proofs.YteejemdibfbccaaDoor
open Go.AX Go.RowKit Go.Scan
set_option maxRecDepth 20000

theorem Fields_c (s : List UInt8) (hs : s.length < 4294967281) (ha : ∀ c ∈ s, c.toNat < 128) : SpecF Tryd.prog 53 [.string (bs s)] ScanF fun v G => ∃ b, v = .slice (some ⟨b, 0, none⟩) (Lib.fields s).length (Lib.fields s).length ∧ ∀ w, G w → SlAt (some ⟨b, 0, none⟩) (Lib.fields s).length ((Lib.fields s).map fun l => Value.string (bs l)) w :=
  specF_new (T := 9) (callOk Tryd.func53 (by kernel_rfl) rfl) (by simp) fun w hw => (Tryd.strings_Fields (bs s) w (by rw [bs_size]; exact hs) (fun j b hj => ha b (List.mem_of_getElem? hj)) hw.2).mono fun e w' ⟨he, hw'⟩ => ⟨he, hw'⟩
def bestF (rest : List UInt8) (b f : List UInt8) : List UInt8 := if f.isPrefixOf rest && decide (b.length < f.length) then f else b
def bestS (rest : List UInt8) (fs : List (List UInt8)) : List UInt8 := fs.foldl (bestF rest) []
theorem bestS_snoc (rest : List UInt8) (fs : List (List UInt8)) (f : List UInt8) : bestS rest (fs ++ [f]) = bestF rest (bestS rest fs) f := by simp [bestS]

set_option maxHeartbeats 2000000 in
theorem signs_c (xb : Nat) (s : List UInt8) (p line : Nat) (l : List Tok) (ob : Option Nat) (cap here : Nat) (sp : Bool) (best : List UInt8) (hbest : bestS (s.drop p) (Lib.fields sgs) = best) (hne : best ≠ []) (hl : l.length ≤ 900000) (hob : ob = none → l = []) (hs : s.length ≤ 1000000) (hp : p ≤ s.length) (hbl : best.length ≤ 1000) :
    SpecH Tryd.prog 49 [.c (.v (.pointer (some ⟨xb, 0, none⟩)))] [scE xb s p line ob l.length cap here sp, toE l ob cap, .fact ScanF]
      (RetG (ι := Nat × Nat) (fun _ => True) (fun _ => .tuple #[]) fun ⟨b, c⟩ => [scE xb s (p + best.length) line (some b) (l.length + 1) c here false, toE (l ++ [⟨7, best, sp, line, none, 0, 0⟩]) (some b) c, .fact ScanF]) := by
  refine ownC hm Tryd.func49 (by kernel_rfl) rfl rfl (fun _ _ => okHB_eq rfl) (fun _ _ => Nat.le_refl _) ?_
  have hz := bs_size s
  (first | refine wX ?_ | exact wZ)
  refine SpecF.call (Fields_c sgs (by decide) (by decide +kernel)) (fun w hw => hw.1) fun v G hR => ?_
  obtain ⟨fb, rfl, hG⟩ := hR
  have hfn : (Lib.fields sgs).length ≤ 100 := by decide +kernel
  generalize Lib.fields sgs = fs at *
  (first | refine wX ?_ | exact wZ)
  refine loopS Nat (fun i => i ≤ fs.length) (fun i => mkS Tryd.f49.ntmps 0 [(0, .c (.v (.pointer (some ⟨xb, 0, none⟩)))), (2, .c (.v (.string (bs (bestS (s.drop p) (fs.take i)))))), (5, .c (.v (.slice (some ⟨fb, 0, none⟩) fs.length fs.length))), (6, .c (.v (.int .i64 (fs.length : Int)))), (7, .c (.v (.int .i64 (i : Int))))]) (fun i => fs.length - i) rfl (fun _ => rfl) 0 (Nat.zero_le _) ?_ ?_
  · (repeat' (first | exact trivial | refine And.intro (by with_reducible rfl) ?_ | (with_reducible exact wkC_refl _) | (with_reducible exact wkCs_refl _) | refine And.intro ?_ ?_))
    all_goals rfl
  intro i hi
  (first | refine wX ?_ | exact wZ)
  refine brd_dec (fun h1 => ?_) (fun h1 => ?_)
  · obtain ⟨f, hf⟩ : ∃ f, fs[i]? = some f := ⟨_, List.getElem?_eq_getElem (by omega)⟩
    (first | refine wX ?_ | exact wZ)
    try refine Nd.mk ⟨rfl, by omega, by omega⟩ ?_
    (first | refine wX ?_ | exact wZ)
    refine LdN.one (.string (bs f)) rfl (fun w hw => hG w hw.2.2.2.1) (by show (fs.map _)[Int.toNat _ * 1]? = _; rw [Int.toNat_natCast, Nat.mul_one, List.getElem?_map, hf]; rfl) ?_
    (first | refine wX ?_ | exact wZ)
    have hsn : bestS (s.drop p) (fs.take (i + 1)) = bestF (s.drop p) (bestS (s.drop p) (fs.take i)) f := by rw [List.take_add_one, hf]; exact bestS_snoc _ _ _
    have hbz := bs_size (bestS (s.drop p) (fs.take i))
    have hfz := bs_size f
    generalize bestS (s.drop p) (fs.take i) = bst at *
    refine LdN.one (a := some ⟨xb, 0, none⟩) (q := 0) (.string (bs s)) rfl (fun w hw => hw.1) rfl ?_
    (first | refine wX ?_ | exact wZ)
    refine LdN.one (a := some ⟨xb, 0, none⟩) (q := 1) (.int .i64 ((p : Nat) : Int)) rfl (fun w hw => hw.1) rfl ?_
    (first | refine wX ?_ | exact wZ)
    refine ReadW.sl_l p rfl Tryd.underlying9 rfl rfl ⟨rfl, hp⟩ ?_
    (first | refine wX ?_ | exact wZ)
    refine callQ (HasPrefix_c (s.drop p) f _) ?_
    cases hpf : f.isPrefixOf (s.drop p) with
    | false =>
      have hs2 : bestF (s.drop p) bst f = bst := by unfold bestF; rw [hpf]; rfl
      (first | refine wX ?_ | exact wZ)
      refine ⟨i + 1, by omega, by omega, ?_, by (repeat' (first | exact trivial | exact wkE_refl _ | refine And.intro ?_ ?_))⟩
      rw [hsn, hs2]
      (repeat' (first | exact trivial | refine And.intro (by with_reducible rfl) ?_ | (with_reducible exact wkC_refl _) | (with_reducible exact wkCs_refl _) | refine And.intro ?_ ?_))
      all_goals first | rfl | exact av_int (by rw [wrap_i64 (by omega)]; omega)
    | true =>
      (first | refine wX ?_ | exact wZ)
      rw [hbz, hfz]
      refine brd_dec (fun h2 => ?_) (fun h2 => ?_)
      · have hs2 : bestF (s.drop p) bst f = f := by unfold bestF; rw [hpf, decide_eq_true (by omega)]; rfl
        (first | refine wX ?_ | exact wZ)
        refine ⟨i + 1, by omega, by omega, ?_, by (repeat' (first | exact trivial | exact wkE_refl _ | refine And.intro ?_ ?_))⟩
        rw [hsn, hs2]
        (repeat' (first | exact trivial | refine And.intro (by with_reducible rfl) ?_ | (with_reducible exact wkC_refl _) | (with_reducible exact wkCs_refl _) | refine And.intro ?_ ?_))
        all_goals first | rfl | exact av_int (by rw [wrap_i64 (by omega)]; omega)
      · have hs2 : bestF (s.drop p) bst f = bst := by unfold bestF; rw [hpf, decide_eq_false (by omega)]; rfl
        (first | refine wX ?_ | exact wZ)
        refine ⟨i + 1, by omega, by omega, ?_, by (repeat' (first | exact trivial | exact wkE_refl _ | refine And.intro ?_ ?_))⟩
        rw [hsn, hs2]
        (repeat' (first | exact trivial | refine And.intro (by with_reducible rfl) ?_ | (with_reducible exact wkC_refl _) | (with_reducible exact wkCs_refl _) | refine And.intro ?_ ?_))
        all_goals first | rfl | exact av_int (by rw [wrap_i64 (by omega)]; omega)
  · have hie : i = fs.length := by omega
    subst hie
    rw [List.take_length, hbest]
    have hbz := bs_size best
    obtain ⟨c0, r0, hcr⟩ : ∃ c0 r0, best = c0 :: r0 := by
      cases best with
      | nil => exact absurd rfl hne
      | cons c r => exact ⟨c, r, rfl⟩
    subst hcr
    (first | refine wX ?_ | exact wZ)
    refine LdN.one (a := some ⟨xb, 0, none⟩) (q := 1) (.int .i64 ((p : Nat) : Int)) rfl (fun w hw => hw.1) rfl ?_
    (first | refine wX ?_ | exact wZ)
    refine EffW.appTo (i := 0) (q := 1) (ys := [_]) (scC s (p + (c0 :: r0).length) line ob l.length cap here sp) 6 rfl rfl rfl rfl rfl rfl rfl (Nat.le_of_ble_eq_true rfl) (by
      show [_, Value.int .i64 _, _, _, _, _] = [_, Value.int .i64 _, _, _, _, _]
      rw [hbz, wrap_i64 (by omega)]
      rfl) rfl ?_
    (first | refine wX ?_ | exact wZ)
    refine LdN.one (a := some ⟨xb, 0, none⟩) (q := 2) (.int .i64 ((line : Nat) : Int)) rfl (fun w hw => hw.1) rfl ?_
    (first | refine wX ?_ | exact wZ)
    refine callG (add_c xb s (p + (c0 :: r0).length) line l ob cap here sp 7 (c0 :: r0) line (by omega) hob) [0, 1] rfl ⟨rfl, rfl, trivial⟩ rfl fun ⟨b1, c1⟩ _ => ?_
    (first | refine wX ?_ | exact wZ)
    exact ⟨(b1, c1), trivial, rfl, wkE_refl _, wkE_refl _, wkE_refl _, wkH_nil _⟩
end Go.Proofs.YteejemdibfbccaaDoor

/-
  Contracts: what stands at the present place: a letter, a dot, a blank (program).
-/
namespace Go.Proofs.YteejemdibfbccaaDoor
open Go.AX Go.RowKit Go.Scan
set_option maxRecDepth 20000

set_option maxHeartbeats 1000000 in
theorem next_letter (xb : Nat) (s : List UInt8) (p line : Nat) (l : List Tok) (ob : Option Nat) (cap here : Nat) (sp : Bool) {c : UInt8} (hc : s[p]? = some c) (hlt : ltr c = true) (hl : l.length ≤ 900000) (hob : ob = none → l = []) (hs : s.length ≤ 1000000) :
    SpecH Tryd.prog 24 [.c (.v (.pointer (some ⟨xb, 0, none⟩)))] [scE xb s p line ob l.length cap here sp, toE l ob cap, .fact ScanF]
      (RetG (ι := Nat × Nat) (fun _ => True) (fun _ => .tuple #[]) fun ⟨b, c⟩ => [scE xb s (wordsK s p l).2 line (some b) (l.length + 1) c here false, toE (l ++ [⟨(wordsK s p l).1, wordW s p, sp, line, none, 0, 0⟩]) (some b) c, .fact ScanF]) := by
  have hbl : blk c = false := by
    simp [ltr, sml, grt] at hlt
    simp [blk]
    omega
  have hn : 65 ≤ c.toNat := by
    simp [ltr, sml, grt] at hlt
    omega
  refine ownC hm Tryd.func24 (by kernel_rfl) rfl rfl (fun _ _ => okHB_eq rfl) (fun _ _ => Nat.le_refl _) ?_
  have hz := bs_size s
  have hp : p < s.length := (List.getElem?_eq_some_iff.1 hc).1
  (first | refine wX ?_ | exact wZ)
  refine LdN.one (a := some ⟨xb, 0, none⟩) (q := 0) (.string (bs s)) rfl (fun w hw => hw.1) rfl ?_
  (first | refine wX ?_ | exact wZ)
  refine LdN.one (a := some ⟨xb, 0, none⟩) (q := 1) (.int .i64 ((p : Nat) : Int)) rfl (fun w hw => hw.1) rfl ?_
  (first | refine wX ?_ | exact wZ)
  rw [Int.toNat_natCast, byteAt_get hc]
  (first | refine wX ?_ | exact wZ)
  refine call1 (blk_c c _) ?_
  rw [hbl]
  (first | refine wX ?_ | exact wZ)
  refine brd_eq (fun h => absurd h (by omega)) (fun _ => ?_)
  (first | refine wX ?_ | exact wZ)
  refine brd_eq (fun h => absurd h (by omega)) (fun _ => ?_)
  (first | refine wX ?_ | exact wZ)
  refine brd_eq (fun h => absurd h (by omega)) (fun _ => ?_)
  (first | refine wX ?_ | exact wZ)
  refine call1 (ltr_c c _) ?_
  rw [hlt]
  (first | refine wX ?_ | exact wZ)
  refine callG (words_c xb s p line l ob cap here sp hl hob hs hp) [0, 1, 2] rfl ⟨rfl, rfl, rfl, trivial⟩ rfl fun ⟨b1, c1⟩ _ => ?_
  (first | refine wX ?_ | exact wZ)
  exact ⟨(b1, c1), trivial, rfl, wkE_refl _, wkE_refl _, wkE_refl _, wkH_nil _⟩
theorem next_blank (xb : Nat) (s : List UInt8) (p line : Nat) (ob : Option Nat) (n cap here : Nat) (sp : Bool) {c : UInt8} (hc : s[p]? = some c) (hbl : blk c = true) (hs : s.length ≤ 1000000) :
    SpecH Tryd.prog 24 [.c (.v (.pointer (some ⟨xb, 0, none⟩)))] [scE xb s p line ob n cap here sp]
      (RetG (ι := Unit) (fun _ => True) (fun _ => .tuple #[]) fun _ => [scE xb s (p + 1) line ob n cap here true]) := by
  refine ownC hm Tryd.func24 (by kernel_rfl) rfl rfl (fun _ _ => okHB_eq rfl) (fun _ _ => Nat.le_refl _) ?_
  have hz := bs_size s
  have hp : p < s.length := (List.getElem?_eq_some_iff.1 hc).1
  (first | refine wX ?_ | exact wZ)
  refine LdN.one (a := some ⟨xb, 0, none⟩) (q := 0) (.string (bs s)) rfl (fun w hw => hw.1) rfl ?_
  (first | refine wX ?_ | exact wZ)
  refine LdN.one (a := some ⟨xb, 0, none⟩) (q := 1) (.int .i64 ((p : Nat) : Int)) rfl (fun w hw => hw.1) rfl ?_
  (first | refine wX ?_ | exact wZ)
  rw [Int.toNat_natCast, byteAt_get hc]
  (first | refine wX ?_ | exact wZ)
  refine call1 (blk_c c _) ?_
  rw [hbl]
  (first | refine wX ?_ | exact wZ)
  refine LdN.one (a := some ⟨xb, 0, none⟩) (q := 1) (.int .i64 ((p : Nat) : Int)) rfl (fun w hw => hw.1) rfl ?_
  (first | refine wX ?_ | exact wZ)
  refine EffW.appTo (i := 0) (q := 1) (ys := [_]) (scC s (p + 1) line ob n cap here sp) 6 rfl rfl rfl rfl rfl rfl rfl (Nat.le_of_ble_eq_true rfl) (by
    show [_, Value.int .i64 _, _, _, _, _] = [_, Value.int .i64 _, _, _, _, _]
    rw [wrap_i64 (by omega)]
    rfl) rfl ?_
  (first | refine wX ?_ | exact wZ)
  refine EffW.appTo (i := 0) (q := 5) (ys := [_]) (scC s (p + 1) line ob n cap here true) 6 rfl rfl rfl rfl rfl rfl rfl (Nat.le_of_ble_eq_true rfl) rfl rfl ?_
  (first | refine wX ?_ | exact wZ)
  exact ⟨(), trivial, rfl, wkE_refl _, wkH_nil _⟩
theorem next_dot (xb : Nat) (s : List UInt8) (p line : Nat) (l : List Tok) (ob : Option Nat) (cap here : Nat) (sp : Bool) (hc : s[p]? = some 46) (best : List UInt8) (hbest : bestS (s.drop p) (Lib.fields sgs) = best) (hne : best ≠ []) (hl : l.length ≤ 900000) (hob : ob = none → l = []) (hs : s.length ≤ 1000000) (hbl : best.length ≤ 1000) :
    SpecH Tryd.prog 24 [.c (.v (.pointer (some ⟨xb, 0, none⟩)))] [scE xb s p line ob l.length cap here sp, toE l ob cap, .fact ScanF]
      (RetG (ι := Nat × Nat) (fun _ => True) (fun _ => .tuple #[]) fun ⟨b, c⟩ => [scE xb s (p + best.length) line (some b) (l.length + 1) c here false, toE (l ++ [⟨7, best, sp, line, none, 0, 0⟩]) (some b) c, .fact ScanF]) := by
  refine ownC hm Tryd.func24 (by kernel_rfl) rfl rfl (fun _ _ => okHB_eq rfl) (fun _ _ => Nat.le_refl _) ?_
  have hz := bs_size s
  have hp : p < s.length := (List.getElem?_eq_some_iff.1 hc).1
  (first | refine wX ?_ | exact wZ)
  refine LdN.one (a := some ⟨xb, 0, none⟩) (q := 0) (.string (bs s)) rfl (fun w hw => hw.1) rfl ?_
  (first | refine wX ?_ | exact wZ)
  refine LdN.one (a := some ⟨xb, 0, none⟩) (q := 1) (.int .i64 ((p : Nat) : Int)) rfl (fun w hw => hw.1) rfl ?_
  (first | refine wX ?_ | exact wZ)
  rw [Int.toNat_natCast, byteAt_get hc]
  (first | refine wX ?_ | exact wZ)
  refine call1 (blk_c 46 _) ?_
  (first | refine wX ?_ | exact wZ)
  refine call1 (ltr_c 46 _) ?_
  (first | refine wX ?_ | exact wZ)
  refine call1 (dig_c 46 _) ?_
  (first | refine wX ?_ | exact wZ)
  refine callG (signs_c xb s p line l ob cap here sp best hbest hne hl hob hs (by omega) hbl) [0, 1, 2] rfl ⟨rfl, rfl, rfl, trivial⟩ rfl fun ⟨b1, c1⟩ _ => ?_
  (first | refine wX ?_ | exact wZ)
  exact ⟨(b1, c1), trivial, rfl, wkE_refl _, wkE_refl _, wkE_refl _, wkH_nil _⟩
end Go.Proofs.YteejemdibfbccaaDoor

/-
  Contract: Scan of the chapter's example (program).
-/
namespace Go.Proofs.YteejemdibfbccaaDoor
open Go.AX Go.RowKit Go.Scan
set_option maxRecDepth 20000

/-- a.b c? -/
def exS : List UInt8 := [97, 46, 98, 32, 99, 63]
def exT : List Tok := [⟨1, [97], false, 1, none, 0, 0⟩, ⟨7, [46], false, 1, none, 0, 0⟩, ⟨1, [98], false, 1, none, 0, 0⟩, ⟨1, [99, 63], true, 1, none, 0, 0⟩]
def ExR (v : Value) (G : World → Prop) : Prop := ∃ (b cap : Nat), v = .tuple #[.slice (some ⟨b, 0, none⟩) 4 cap, .int .i64 0, .int .i64 0] ∧ ∀ w, G w → SlAt (some ⟨b, 0, none⟩) 20 (toksC exT) w
def capsOf (t : Array Value) : Array Value := #[t[2]?.getD undef, t[3]?.getD undef, t[4]?.getD undef]
theorem hD_c (id T1 : Nat) (p1 p2 : String) (g1 g2 : _) (t : Array Value) (w : World) (Q : Exit → Act → World → Prop) (ht : 12 < t.size) (h : Q .normal { tmps := t.setIfInBounds 12 (.func (.func 23) #[] (capsOf t)), defers := [⟨.fn (.func 23) (capsOf t), #[]⟩] } w) :
    (Code.region id #[{ dst := some 12, op := .makeFunc (.func 23) #[] #[.tmp 2, .tmp 3, .tmp 4], type := T1, pos := p1, after := g1, guard := none }, { dst := none, op := .defer { callee := .value (.tmp 12), args := #[], argTypes := #[] }, type := 0, pos := p2, after := g2, guard := none }] false).wp Tryd.prog Q { tmps := t, defers := [] } w := by
  refine wp_region_list ?_
  simp [wpList, go_sem, ht]
  exact .inl (.inl h)
def posJ : Nat → Nat | 0 => 0 | 1 => 1 | 2 => 2 | 3 => 3 | 4 => 4 | _ => 6
def tokJ : Nat → List Tok | 0 => [] | 1 => exT.take 1 | 2 => exT.take 2 | 3 => exT.take 3 | 4 => exT.take 3 | _ => exT
def spJ : Nat → Bool | 4 => true | _ => false
theorem ScanEx_c : SpecF Tryd.prog 11 [.string (bs exS)] ScanF ExR := by
  refine specF_of (spec_of_defer (g := 23) (d := 12) (cp := capsOf) hm Tryd.func11 (by kernel_rfl) rfl (fun t w Q ht h => hD_c _ _ _ _ _ _ t w Q ht h) (fun t w => by simp [go_sem, capsOf]) (fun t w => quiet_c _ _ _ w) rfl ?_)
  (conv => whnf)
  refine BoxN.own ?_
  (conv => whnf)
  refine BoxN.own ?_
  (conv => whnf)
  refine BoxN.own ?_
  ((conv => whnf); (repeat ((first | refine RwN.own ?_ | refine VrN.norm (wrap_i64 (by omega)) ?_ | refine VrN.keep ?_ | refine DrawN.calm (by decide +kernel) ?_ | refine Nd.mk (by decide +kernel) ?_ | refine Nd.mk (by omega) ?_ | (refine Nd.mk ?_ ?_; focus ((repeat' (first | exact trivial | exact wkE_refl _ | refine And.intro ?_ ?_)); done)) | refine RdN.intro _ rfl (by rfl) ?_); (conv => whnf))))
  refine BoxN.known [.string (bs exS), .int .i64 0, .int .i64 1, .slice none 0 0, .int .i64 0, .bool false] rfl fun xb => ?_
  (first | refine wX ?_ | exact wZ)
  refine ⟨rfl, ?_⟩
  (first | refine wX ?_ | exact wZ)
  refine LoopN.intro (Nat × Option Nat × Nat) (fun ⟨j, ob, cap⟩ => j ≤ 5 ∧ (ob = none → j = 0)) (fun ⟨_, _, _⟩ => mkS Tryd.f11.ntmps 0 [(2, .c (.lp 1 0)), (3, .c (.lp 2 0)), (4, .c (.lp 3 0)), (5, .c (.v (.pointer (some ⟨xb, 0, none⟩))))])
    (fun ⟨j, ob, cap⟩ => [.fact ScanF, .blk 24 (cellsV (.slice none 0 0)), .blk 3 (cellsV (.int .i64 0)), .blk 25 (cellsV (.int .i64 0)), scE xb exS (posJ j) 1 ob (tokJ j).length cap 0 (spJ j), toE (tokJ j) ob cap]) (fun ⟨j, _, _⟩ => 5 - j) [.app 0 0 [] none 0 0] rfl (fun _ => rfl) (fun _ => rfl) (fun _ _ => okHB_eq rfl) ⟨(0, none, 0), ⟨Nat.zero_le _, fun _ => rfl⟩, ?_, ⟨wkE_refl _, wkE_refl _, wkE_refl _, wkE_refl _, wkE_refl _, wkE_nil, wkH_nil _⟩⟩ ?_
  · (repeat' (first | exact trivial | refine And.intro (by with_reducible rfl) ?_ | (with_reducible exact wkC_refl _) | (with_reducible exact wkCs_refl _) | refine And.intro ?_ ?_))
    all_goals rfl
  rintro ⟨j, ob, cap⟩ ⟨hj, hob⟩
  have hall : j = 0 ∨ j = 1 ∨ j = 2 ∨ j = 3 ∨ j = 4 ∨ j = 5 := by omega
  rcases hall with rfl | rfl | rfl | rfl | rfl | rfl
  · (first | refine wX ?_ | exact wZ)
    refine LdN.one (a := some ⟨xb, 0, none⟩) (q := 1) (.int .i64 ((posJ 0 : Nat) : Int)) rfl (fun w hw => hw.2.1) rfl ?_
    (first | refine wX ?_ | exact wZ)
    refine LdN.one (a := some ⟨xb, 0, none⟩) (q := 0) (.string (bs exS)) rfl (fun w hw => hw.2.1) rfl ?_
    (first | refine wX ?_ | exact wZ)
    refine callG (next_letter xb exS 0 1 [] ob cap 0 false (c := 97) rfl (by decide) (by decide) (fun _ => rfl) (by decide)) [4, 5, 0] rfl ⟨rfl, rfl, rfl, trivial⟩ rfl fun ⟨b1, c1⟩ _ => ?_
    rw [show wordsK exS 0 [] = (1, 1) by decide +kernel, show wordW exS 0 = [97] by decide +kernel]
    (first | refine wX ?_ | exact wZ)
    refine ⟨(1, some b1, c1), ⟨by omega, fun h => by cases h⟩, Nat.le_of_ble_eq_true rfl, ?_, ⟨wkE_refl _, wkE_refl _, wkE_refl _, wkE_refl _, wkE_refl _, wkE_refl _, wkH_nil _⟩⟩
    (repeat' (first | exact trivial | refine And.intro (by with_reducible rfl) ?_ | (with_reducible exact wkC_refl _) | (with_reducible exact wkCs_refl _) | refine And.intro ?_ ?_))
    all_goals rfl
  · (first | refine wX ?_ | exact wZ)
    refine LdN.one (a := some ⟨xb, 0, none⟩) (q := 1) (.int .i64 ((posJ 1 : Nat) : Int)) rfl (fun w hw => hw.2.1) rfl ?_
    (first | refine wX ?_ | exact wZ)
    refine LdN.one (a := some ⟨xb, 0, none⟩) (q := 0) (.string (bs exS)) rfl (fun w hw => hw.2.1) rfl ?_
    (first | refine wX ?_ | exact wZ)
    refine callG (next_dot xb exS 1 1 (tokJ 1) ob cap 0 false rfl [46] (by decide +kernel) (by decide) (by decide) (fun h => absurd (hob h) (by decide)) (by decide) (by decide)) [4, 5, 0] rfl ⟨rfl, rfl, rfl, trivial⟩ rfl fun ⟨b1, c1⟩ _ => ?_
    (first | refine wX ?_ | exact wZ)
    refine ⟨(2, some b1, c1), ⟨by omega, fun h => by cases h⟩, Nat.le_of_ble_eq_true rfl, ?_, ⟨wkE_refl _, wkE_refl _, wkE_refl _, wkE_refl _, wkE_refl _, wkE_refl _, wkH_nil _⟩⟩
    (repeat' (first | exact trivial | refine And.intro (by with_reducible rfl) ?_ | (with_reducible exact wkC_refl _) | (with_reducible exact wkCs_refl _) | refine And.intro ?_ ?_))
    all_goals rfl
  · (first | refine wX ?_ | exact wZ)
    refine LdN.one (a := some ⟨xb, 0, none⟩) (q := 1) (.int .i64 ((posJ 2 : Nat) : Int)) rfl (fun w hw => hw.2.1) rfl ?_
    (first | refine wX ?_ | exact wZ)
    refine LdN.one (a := some ⟨xb, 0, none⟩) (q := 0) (.string (bs exS)) rfl (fun w hw => hw.2.1) rfl ?_
    (first | refine wX ?_ | exact wZ)
    refine callG (next_letter xb exS 2 1 (tokJ 2) ob cap 0 false (c := 98) rfl (by decide) (by decide) (fun h => absurd (hob h) (by decide)) (by decide)) [4, 5, 0] rfl ⟨rfl, rfl, rfl, trivial⟩ rfl fun ⟨b1, c1⟩ _ => ?_
    rw [show wordsK exS 2 (tokJ 2) = (1, 3) by decide +kernel, show wordW exS 2 = [98] by decide +kernel]
    (first | refine wX ?_ | exact wZ)
    refine ⟨(3, some b1, c1), ⟨by omega, fun h => by cases h⟩, Nat.le_of_ble_eq_true rfl, ?_, ⟨wkE_refl _, wkE_refl _, wkE_refl _, wkE_refl _, wkE_refl _, wkE_refl _, wkH_nil _⟩⟩
    (repeat' (first | exact trivial | refine And.intro (by with_reducible rfl) ?_ | (with_reducible exact wkC_refl _) | (with_reducible exact wkCs_refl _) | refine And.intro ?_ ?_))
    all_goals rfl
  · (first | refine wX ?_ | exact wZ)
    refine LdN.one (a := some ⟨xb, 0, none⟩) (q := 1) (.int .i64 ((posJ 3 : Nat) : Int)) rfl (fun w hw => hw.2.1) rfl ?_
    (first | refine wX ?_ | exact wZ)
    refine LdN.one (a := some ⟨xb, 0, none⟩) (q := 0) (.string (bs exS)) rfl (fun w hw => hw.2.1) rfl ?_
    (first | refine wX ?_ | exact wZ)
    refine callG (next_blank xb exS 3 1 ob 3 cap 0 false (c := 32) rfl (by decide) (by decide)) [4] rfl ⟨rfl, trivial⟩ rfl fun _ _ => ?_
    (first | refine wX ?_ | exact wZ)
    refine ⟨(4, ob, cap), ⟨by omega, fun h => absurd (hob h) (by decide)⟩, Nat.le_of_ble_eq_true rfl, ?_, ⟨wkE_refl _, wkE_refl _, wkE_refl _, wkE_refl _, wkE_refl _, wkE_refl _, wkH_nil _⟩⟩
    (repeat' (first | exact trivial | refine And.intro (by with_reducible rfl) ?_ | (with_reducible exact wkC_refl _) | (with_reducible exact wkCs_refl _) | refine And.intro ?_ ?_))
    all_goals rfl
  · (first | refine wX ?_ | exact wZ)
    refine LdN.one (a := some ⟨xb, 0, none⟩) (q := 1) (.int .i64 ((posJ 4 : Nat) : Int)) rfl (fun w hw => hw.2.1) rfl ?_
    (first | refine wX ?_ | exact wZ)
    refine LdN.one (a := some ⟨xb, 0, none⟩) (q := 0) (.string (bs exS)) rfl (fun w hw => hw.2.1) rfl ?_
    (first | refine wX ?_ | exact wZ)
    refine callG (next_letter xb exS 4 1 (tokJ 4) ob cap 0 true (c := 99) rfl (by decide) (by decide) (fun h => absurd (hob h) (by decide)) (by decide)) [4, 5, 0] rfl ⟨rfl, rfl, rfl, trivial⟩ rfl fun ⟨b1, c1⟩ _ => ?_
    rw [show wordsK exS 4 (tokJ 4) = (1, 6) by decide +kernel, show wordW exS 4 = [99, 63] by decide +kernel]
    (first | refine wX ?_ | exact wZ)
    refine ⟨(5, some b1, c1), ⟨by omega, fun h => by cases h⟩, Nat.le_of_ble_eq_true rfl, ?_, ⟨wkE_refl _, wkE_refl _, wkE_refl _, wkE_refl _, wkE_refl _, wkE_refl _, wkH_nil _⟩⟩
    (repeat' (first | exact trivial | refine And.intro (by with_reducible rfl) ?_ | (with_reducible exact wkC_refl _) | (with_reducible exact wkCs_refl _) | refine And.intro ?_ ?_))
    all_goals rfl
  · obtain ⟨g, rfl⟩ : ∃ g, ob = some g := by
      cases ob with
      | none => exact absurd (hob rfl) (by decide)
      | some g => exact ⟨g, rfl⟩
    (first | refine wX ?_ | exact wZ)
    refine LdN.one (a := some ⟨xb, 0, none⟩) (q := 1) (.int .i64 ((posJ 5 : Nat) : Int)) rfl (fun w hw => hw.2.1) rfl ?_
    (first | refine wX ?_ | exact wZ)
    refine LdN.one (a := some ⟨xb, 0, none⟩) (q := 0) (.string (bs exS)) rfl (fun w hw => hw.2.1) rfl ?_
    (first | refine wX ?_ | exact wZ)
    refine loopS Unit (fun _ => True) (fun _ => mkS Tryd.f11.ntmps 0 [(2, .c (.lp 1 0)), (3, .c (.lp 2 0)), (4, .c (.lp 3 0)), (5, .c (.v (.pointer (some ⟨xb, 0, none⟩))))]) (fun _ => 0) rfl (fun _ => rfl) () trivial ?_ ?_
    · (repeat' (first | exact trivial | refine And.intro (by with_reducible rfl) ?_ | (with_reducible exact wkC_refl _) | (with_reducible exact wkCs_refl _) | refine And.intro ?_ ?_))
      all_goals rfl
    intro _ _
    (first | refine wX ?_ | exact wZ)
    refine LdN.one (a := some ⟨xb, 0, none⟩) (q := 3) (.slice (some ⟨g, 0, none⟩) 4 cap) rfl (fun w hw => hw.2.1) rfl ?_
    (first | refine wX ?_ | exact wZ)
    (first | refine wX ?_ | exact wZ)
    refine LdN.one (a := some ⟨xb, 0, none⟩) (q := 3) (.slice (some ⟨g, 0, none⟩) 4 cap) rfl (fun w hw => hw.2.1) rfl ?_
    (first | refine wX ?_ | exact wZ)
    (first | refine wX ?_ | exact wZ)
    refine LdN.one (a := some ⟨xb, 0, none⟩) (q := 3) (.slice (some ⟨g, 0, none⟩) 4 cap) rfl (fun w hw => hw.2.1) rfl ?_
    (first | refine wX ?_ | exact wZ)
    rw [show IntKind.i64.wrap (((4 : Nat) : Int) - 1) = ((3 : Nat) : Int) by decide]
    refine Nd.mk ⟨rfl, by decide, by decide⟩ ?_
    (first | refine wX ?_ | exact wZ)
    refine LdN.fld (.int .i64 1) rfl (fun w hw => hw.2.2.1) (by rfl) ?_
    (first | refine wX ?_ | exact wZ)
    (first | refine wX ?_ | exact wZ)
    refine LdN.one (a := some ⟨xb, 0, none⟩) (q := 3) (.slice (some ⟨g, 0, none⟩) 4 cap) rfl (fun w hw => hw.2.1) rfl ?_
    (first | refine wX ?_ | exact wZ)
    refine fin_p (fun w => SlAt (some ⟨g, 0, none⟩) 20 (toksC exT) w) ⟨g, cap, rfl, fun w hw => hw⟩ (fun w hw => hw.2.2.1)
end Go.Proofs.YteejemdibfbccaaDoor

/-
  Contracts: the chapter's example (law); lists that have a text; Starts (program, document).
-/
namespace Go.Proofs.YteejemdibfbccaaDoor
open Go.AX Go.RowKit Go.Scan
set_option maxRecDepth 20000

theorem sane_c : ∀ H, (∀ w, Facts H w → ScanF w) → SpecH Tryd.prog 12 (pvs []) H (Ret (.bool true) H) := by
  refine factC hm Tryd.func12 (by kernel_rfl) rfl rfl ?_
  (first | refine wX ?_ | exact wZ)
  refine SpecF.call ScanEx_c (fun w hw => hw.1) fun v G hR => ?_
  obtain ⟨b, cap, rfl, hG⟩ := hR
  (first | refine wX ?_ | exact wZ)
  refine Nd.mk ⟨rfl, by decide, by decide⟩ ?_
  (first | refine wX ?_ | exact wZ)
  refine LdN.fld (.string (bs [99, 63])) rfl (fun w hw => hG w hw.2.1) (by rfl) ?_
  (first | refine wX ?_ | exact wZ)
  refine Nd.mk ⟨rfl, by decide, by decide⟩ ?_
  (first | refine wX ?_ | exact wZ)
  refine LdN.fld (.bool true) rfl (fun w hw => hG w hw.2.1) (by rfl) ?_
  (first | refine wX ?_ | exact wZ)
def strsC (l : List (List UInt8)) : List Value := l.map fun t => .string (bs t)
theorem strsC_get {l : List (List UInt8)} {i : Nat} {t : List UInt8} (h : l[i]? = some t) : (strsC l)[i]? = some (.string (bs t)) := by
  unfold strsC
  rw [List.getElem?_map, h]
  rfl
theorem SIndex_c (a : Option Addr) (l : List (List UInt8)) (cap : Nat) (s : List UInt8) (ha : l ≠ [] → a.isSome = true) (hl : l.length ≤ 1000000) :
    ∀ H, (∀ w, Facts H w → SlAt a l.length (strsC l) w) → SpecH Tryd.prog 50 (pvs [.slice a l.length cap, .string (bs s)]) H (RetR (fun v => ∃ n : Int, v = .int .i64 n ∧ (0 ≤ n ↔ l.contains s = true)) H) := by
  refine factR hm Tryd.func50 (by kernel_rfl) rfl rfl ?_
  (first | refine wX ?_ | exact wZ)
  refine loopS Nat (fun i => i ≤ l.length ∧ (l.take i).contains s = false) (fun i => mkS Tryd.f50.ntmps 0 [(0, .c (.v (.slice a l.length cap))), (1, .c (.v (.string (bs s)))), (7, .c (.v (.int .i64 (l.length : Int)))), (8, .c (.v (.int .i64 (i : Int))))]) (fun i => l.length - i) rfl (fun _ => rfl) 0 ⟨Nat.zero_le _, by simp⟩ ?_ ?_
  · (repeat' (first | exact trivial | refine And.intro (by with_reducible rfl) ?_ | (with_reducible exact wkC_refl _) | (with_reducible exact wkCs_refl _) | refine And.intro ?_ ?_))
    all_goals rfl
  intro i ⟨hi, hno⟩
  (first | refine wX ?_ | exact wZ)
  refine brd_dec (fun h1 => ?_) (fun h1 => ?_)
  · obtain ⟨t, ht⟩ : ∃ t, l[i]? = some t := ⟨_, List.getElem?_eq_getElem (by omega)⟩
    have hsa : a.isSome = true := ha (fun h => by rw [h] at ht; cases ht)
    (first | refine wX ?_ | exact wZ)
    -- a text of the list is looked at: it is that of the call, or not
    refine Nd.mk ⟨hsa, by omega, by omega⟩ ?_
    (first | refine wX ?_ | exact wZ)
    refine LdN.one (.string (bs t)) rfl (fun w hw => hw.1) (by show (strsC l)[Int.toNat _ * 1]? = _; rw [Int.toNat_natCast, Nat.mul_one]; exact strsC_get ht) ?_
    (first | refine wX ?_ | exact wZ)
    refine brd_intro (fun h2 => ?_) (fun h2 => ?_)
    · have h3 : s = t := eq_of_beq (show (s == t) = true from h2)
      (first | refine wX ?_ | exact wZ)
      refine ⟨_, rfl, (i : Int), rfl, ⟨fun _ => ?_, fun _ => by omega⟩⟩
      rw [h3]
      exact List.contains_iff_mem.2 (List.mem_of_getElem? ht)
    · have h3 : (s == t) = false := h2
      (first | refine wX ?_ | exact wZ)
      refine ⟨i + 1, ⟨by omega, ?_⟩, by omega, ?_, by (repeat' (first | exact trivial | exact wkE_refl _ | refine And.intro ?_ ?_))⟩
      · rw [List.take_add_one, ht]
        simp only [List.contains_append, hno, Bool.false_or]
        simp
        simpa using h3
      · (repeat' (first | exact trivial | refine And.intro (by with_reducible rfl) ?_ | (with_reducible exact wkC_refl _) | (with_reducible exact wkCs_refl _) | refine And.intro ?_ ?_))
        all_goals first | rfl | exact av_int (by rw [wrap_i64 (by omega)]; omega)
  · have hie : i = l.length := by omega
    subst hie
    rw [List.take_length] at hno
    (first | refine wX ?_ | exact wZ)
    refine ⟨_, rfl, -1, rfl, ⟨fun h => absurd h (by decide), fun h => by rw [hno] at h; cases h⟩⟩
theorem Contains_c (a : Option Addr) (l : List (List UInt8)) (cap : Nat) (s : List UInt8) (ha : l ≠ [] → a.isSome = true) (hl : l.length ≤ 1000000) :
    ∀ H, (∀ w, Facts H w → SlAt a l.length (strsC l) w) → SpecH Tryd.prog 25 (pvs [.slice a l.length cap, .string (bs s)]) H (Ret (.bool (l.contains s)) H) := by
  refine factC hm Tryd.func25 (by kernel_rfl) rfl rfl ?_
  (first | refine wX ?_ | exact wZ)
  refine callR (SIndex_c a l cap s ha hl _ (fun w hw => hw.1)) fun v hv => ?_
  obtain ⟨n, rfl, hn⟩ := hv
  (first | refine wX ?_ | exact wZ)
  refine ret_b ?_
  rw [← hn]
  simp
end Go.Proofs.YteejemdibfbccaaDoor

/-
  What the rows list, and what it gives; a token as it is read (argument).
-/
namespace Go.Proofs.YteejemdibfbccaaDoor
open Go.ChangeShapes Go.WideShapes Go.ChangeAt Go.RowKit Go.AX
set_option maxRecDepth 100000

/-- What the rows list. -/
def laid3 : List (String × DataW Unit) := [("unicode/utf8.acceptRanges", Rows.laid_unicode_utf8_acceptRanges), ("unicode.White_Space", Rows.laid_unicode_White_Space), ("strings.asciiSpace", Rows.laid_strings_asciiSpace), ("unicode/utf8.first", Rows.laid_unicode_utf8_first)]
theorem door_met (os : Os) (args : Array Value) : laidMetH Tryd.prog laid3 ((World.laidAll Tryd.prog os laid3).forCall (fun _ _ => 0) ⟨#[], args, []⟩).memory := by
  rw [MakeChecks.laidMetH_plain _ _ _ (by kernel_rfl)]; exact laidMet_laidAll _ (by kernel_rfl) (by kernel_rfl)
theorem space_of {W : World} (h : laidMetH Tryd.prog laid3 W) : Lib.TabIs Tryd.prog W "strings.asciiSpace" .u8 Lib.asciiSpaceTab := by
  rw [MakeChecks.laidMetH_plain _ _ _ (by kernel_rfl)] at h
  exact Lib.tabIs_of_head (g := 0) (t := 78) (e := 5) (n := 256) (by kernel_rfl) (by kernel_rfl) (by kernel_rfl) (by kernel_rfl) (by kernel_rfl) (by kernel_rfl) (laid_tail (laid_tail h))
theorem scan_of {W : World} (h : W.ShapedOpen Tryd.prog) (hL : laidMetH Tryd.prog laid3 W) : ScanF W := ⟨max_of h, space_of hL⟩
theorem scan_imm {W : World} (h : ScanF W) : Imm (fun b => b < W.heap.size) W ScanF := (max_imm h.1).and (tab_imm h.2)
theorem known_scan {W : World} (h : W.ShapedOpen Tryd.prog) (hL : laidMetH Tryd.prog laid3 W) : ∀ e ∈ [Ent.fact ScanF], ∃ F, e = .fact F ∧ Imm (fun b => b < W.heap.size) W F := fun _ he => ⟨_, List.mem_singleton.1 he, scan_imm (scan_of h hL)⟩
end Go.Proofs.YteejemdibfbccaaDoor

/-
  Contract: Scan of a text that is one token (program).
-/
namespace Go.Proofs.YteejemdibfbccaaDoor
open Go.AX Go.RowKit Go.Scan
set_option maxRecDepth 20000

/-- One token, and no more. -/
def OneR (T : Tok) (v : Value) (G : World → Prop) : Prop := ∃ (b cap : Nat), v = .tuple #[.slice (some ⟨b, 0, none⟩) 1 cap, .int .i64 0, .int .i64 0] ∧ ∀ w, G w → SlAt (some ⟨b, 0, none⟩) 5 (toksC [T]) w
def posN (s : List UInt8) : Nat → Nat | 0 => 0 | _ => s.length
def tokN (T : Tok) : Nat → List Tok | 0 => [] | _ => [T]
/-- What next does where the text is one token. -/
def NextOne (s : List UInt8) (T : Tok) : Prop := ∀ (xb cap : Nat) (ob : Option Nat), SpecH Tryd.prog 24 [.c (.v (.pointer (some ⟨xb, 0, none⟩)))] [scE xb s 0 1 ob 0 cap 0 false, toE [] ob cap, .fact ScanF]
  (RetG (ι := Nat × Nat) (fun _ => True) (fun _ => .tuple #[]) fun ⟨b, c⟩ => [scE xb s s.length 1 (some b) 1 c 0 false, toE [T] (some b) c, .fact ScanF])
theorem ScanOne_c (s : List UInt8) (T : Tok) (h0 : 1 ≤ s.length) (hs : s.length ≤ 20000) (hk : ¬ T.kind = 0) (hn : NextOne s T) : SpecF Tryd.prog 11 [.string (bs s)] ScanF (OneR T) := by
  refine specF_of (spec_of_defer (g := 23) (d := 12) (cp := capsOf) hm Tryd.func11 (by kernel_rfl) rfl (fun t w Q ht h => hD_c _ _ _ _ _ _ t w Q ht h) (fun t w => by simp [go_sem, capsOf]) (fun t w => quiet_c _ _ _ w) rfl ?_)
  have hz := bs_size s
  (conv => whnf)
  refine BoxN.own ?_
  (conv => whnf)
  refine BoxN.own ?_
  (conv => whnf)
  refine BoxN.own ?_
  ((conv => whnf); (repeat ((first | refine RwN.own ?_ | refine VrN.norm (wrap_i64 (by omega)) ?_ | refine VrN.keep ?_ | refine DrawN.calm (by decide +kernel) ?_ | refine Nd.mk (by decide +kernel) ?_ | refine Nd.mk (by omega) ?_ | (refine Nd.mk ?_ ?_; focus ((repeat' (first | exact trivial | exact wkE_refl _ | refine And.intro ?_ ?_)); done)) | refine RdN.intro _ rfl (by rfl) ?_); (conv => whnf))))
  rw [hz]
  refine brd_dec (fun h => absurd h (by omega)) (fun _ => ?_)
  ((conv => whnf); (repeat ((first | refine RwN.own ?_ | refine VrN.norm (wrap_i64 (by omega)) ?_ | refine VrN.keep ?_ | refine DrawN.calm (by decide +kernel) ?_ | refine Nd.mk (by decide +kernel) ?_ | refine Nd.mk (by omega) ?_ | (refine Nd.mk ?_ ?_; focus ((repeat' (first | exact trivial | exact wkE_refl _ | refine And.intro ?_ ?_)); done)) | refine RdN.intro _ rfl (by rfl) ?_); (conv => whnf))))
  refine BoxN.known [.string (bs s), .int .i64 0, .int .i64 1, .slice none 0 0, .int .i64 0, .bool false] rfl fun xb => ?_
  (first | refine wX ?_ | exact wZ)
  refine ⟨rfl, ?_⟩
  (first | refine wX ?_ | exact wZ)
  refine LoopN.intro (Nat × Option Nat × Nat) (fun ⟨j, ob, cap⟩ => j ≤ 1 ∧ (ob = none → j = 0)) (fun ⟨_, _, _⟩ => mkS Tryd.f11.ntmps 0 [(2, .c (.lp 1 0)), (3, .c (.lp 2 0)), (4, .c (.lp 3 0)), (5, .c (.v (.pointer (some ⟨xb, 0, none⟩))))])
    (fun ⟨j, ob, cap⟩ => [.fact ScanF, .blk 24 (cellsV (.slice none 0 0)), .blk 3 (cellsV (.int .i64 0)), .blk 25 (cellsV (.int .i64 0)), scE xb s (posN s j) 1 ob (tokN T j).length cap 0 false, toE (tokN T j) ob cap]) (fun ⟨j, _, _⟩ => 1 - j) [.app 0 0 [] none 0 0] rfl (fun _ => rfl) (fun _ => rfl) (fun _ _ => okHB_eq rfl) ⟨(0, none, 0), ⟨Nat.zero_le _, fun _ => rfl⟩, ?_, ⟨wkE_refl _, wkE_refl _, wkE_refl _, wkE_refl _, wkE_refl _, wkE_nil, wkH_nil _⟩⟩ ?_
  · (repeat' (first | exact trivial | refine And.intro (by with_reducible rfl) ?_ | (with_reducible exact wkC_refl _) | (with_reducible exact wkCs_refl _) | refine And.intro ?_ ?_))
    all_goals rfl
  rintro ⟨j, ob, cap⟩ ⟨hj, hob⟩
  have hall : j = 0 ∨ j = 1 := by omega
  rcases hall with rfl | rfl
  · (first | refine wX ?_ | exact wZ)
    refine LdN.one (a := some ⟨xb, 0, none⟩) (q := 1) (.int .i64 ((posN s 0 : Nat) : Int)) rfl (fun w hw => hw.2.1) rfl ?_
    (first | refine wX ?_ | exact wZ)
    refine LdN.one (a := some ⟨xb, 0, none⟩) (q := 0) (.string (bs s)) rfl (fun w hw => hw.2.1) rfl ?_
    (first | refine wX ?_ | exact wZ)
    rw [hz]
    refine brd_dec (fun _ => ?_) (fun h => absurd (show (0 : Int) < (s.length : Int) by omega) h)
    (first | refine wX ?_ | exact wZ)
    refine callG (hn xb cap ob) [4, 5, 0] rfl ⟨rfl, rfl, rfl, trivial⟩ rfl fun ⟨b1, c1⟩ _ => ?_
    (first | refine wX ?_ | exact wZ)
    refine ⟨(1, some b1, c1), ⟨by omega, fun h => by cases h⟩, Nat.le_of_ble_eq_true rfl, ?_, ⟨wkE_refl _, wkE_refl _, wkE_refl _, wkE_refl _, wkE_refl _, wkE_refl _, wkH_nil _⟩⟩
    (repeat' (first | exact trivial | refine And.intro (by with_reducible rfl) ?_ | (with_reducible exact wkC_refl _) | (with_reducible exact wkCs_refl _) | refine And.intro ?_ ?_))
    all_goals rfl
  · obtain ⟨g, rfl⟩ : ∃ g, ob = some g := by
      cases ob with
      | none => exact absurd (hob rfl) (by decide)
      | some g => exact ⟨g, rfl⟩
    (first | refine wX ?_ | exact wZ)
    refine LdN.one (a := some ⟨xb, 0, none⟩) (q := 1) (.int .i64 ((posN s 1 : Nat) : Int)) rfl (fun w hw => hw.2.1) rfl ?_
    (first | refine wX ?_ | exact wZ)
    refine LdN.one (a := some ⟨xb, 0, none⟩) (q := 0) (.string (bs s)) rfl (fun w hw => hw.2.1) rfl ?_
    (first | refine wX ?_ | exact wZ)
    rw [hz]
    refine brd_dec (fun h => absurd (show (s.length : Int) < (s.length : Int) from h) (by omega)) (fun _ => ?_)
    (first | refine wX ?_ | exact wZ)
    refine loopS Unit (fun _ => True) (fun _ => mkS Tryd.f11.ntmps 0 [(2, .c (.lp 1 0)), (3, .c (.lp 2 0)), (4, .c (.lp 3 0)), (5, .c (.v (.pointer (some ⟨xb, 0, none⟩))))]) (fun _ => 0) rfl (fun _ => rfl) () trivial ?_ ?_
    · (repeat' (first | exact trivial | refine And.intro (by with_reducible rfl) ?_ | (with_reducible exact wkC_refl _) | (with_reducible exact wkCs_refl _) | refine And.intro ?_ ?_))
      all_goals rfl
    intro _ _
    (first | refine wX ?_ | exact wZ)
    refine LdN.one (a := some ⟨xb, 0, none⟩) (q := 3) (.slice (some ⟨g, 0, none⟩) 1 cap) rfl (fun w hw => hw.2.1) rfl ?_
    (first | refine wX ?_ | exact wZ)
    (first | refine wX ?_ | exact wZ)
    refine LdN.one (a := some ⟨xb, 0, none⟩) (q := 3) (.slice (some ⟨g, 0, none⟩) 1 cap) rfl (fun w hw => hw.2.1) rfl ?_
    (first | refine wX ?_ | exact wZ)
    (first | refine wX ?_ | exact wZ)
    refine LdN.one (a := some ⟨xb, 0, none⟩) (q := 3) (.slice (some ⟨g, 0, none⟩) 1 cap) rfl (fun w hw => hw.2.1) rfl ?_
    (first | refine wX ?_ | exact wZ)
    rw [show IntKind.i64.wrap (((1 : Nat) : Int) - 1) = ((0 : Nat) : Int) by decide]
    refine Nd.mk ⟨rfl, by decide, by decide⟩ ?_
    (first | refine wX ?_ | exact wZ)
    refine LdN.fld (.int .i64 T.kind) rfl (fun w hw => hw.2.2.1) (by rfl) ?_
    (first | refine wX ?_ | exact wZ)
    refine brd_eq (fun h => absurd h hk) (fun _ => ?_)
    (first | refine wX ?_ | exact wZ)
    (first | refine wX ?_ | exact wZ)
    refine LdN.one (a := some ⟨xb, 0, none⟩) (q := 3) (.slice (some ⟨g, 0, none⟩) 1 cap) rfl (fun w hw => hw.2.1) rfl ?_
    (first | refine wX ?_ | exact wZ)
    refine fin_p (fun w => SlAt (some ⟨g, 0, none⟩) 5 (toksC [T]) w) ⟨g, cap, rfl, fun w hw => hw⟩ (fun w hw => hw.2.2.1)
end Go.Proofs.YteejemdibfbccaaDoor

/-
  Plain Lean: keywords, names, constants: what the program tells is what the document tells.
-/
namespace Go.Scan
set_option maxRecDepth 20000

def kwL : List (List UInt8) := [[97, 108, 105, 97, 115], [98, 101, 103, 105, 110], [98, 114, 101, 97, 107], [99, 97, 115, 101], [99, 108, 97, 115, 115], [100, 101, 102], [100, 111], [101, 108, 115, 101], [101, 108, 115, 105, 102], [101, 110, 100], [101, 110, 115, 117, 114, 101], [102, 97, 108, 115, 101], [105, 102], [105, 110], [109, 111, 100, 117, 108, 101], [110, 101, 120, 116], [110, 105, 108], [114, 101, 115, 99, 117, 101], [114, 101, 116, 114, 121], [114, 101, 116, 117, 114, 110], [115, 101, 108, 102], [115, 117, 112, 101, 114], [116, 104, 101, 110], [116, 114, 117, 101], [117, 110, 100, 101, 102], [117, 110, 108, 101, 115, 115], [117, 110, 116, 105, 108], [117, 115, 105, 110, 103], [119, 104, 101, 110], [119, 104, 105, 108, 101], [121, 105, 101, 108, 100]]
def opL : List (List UInt8) := [[43], [45], [42], [47], [37], [61, 61], [60], [60, 61], [62], [62, 61], [60, 61, 62], [61, 61, 61], [60, 60], [91, 93], [91, 93, 61], [46, 46]]
def ops : List UInt8 := [43, 32, 45, 32, 42, 32, 47, 32, 37, 32, 61, 61, 32, 60, 32, 60, 61, 32, 62, 32, 62, 61, 32, 60, 61, 62, 32, 61, 61, 61, 32, 60, 60, 32, 91, 93, 32, 91, 93, 61, 32, 46, 46]
/-- Words with blanks between. -/
def joinW : List (List UInt8) → List UInt8
  | [] => [32]
  | w :: l => 32 :: (w ++ joinW l)
theorem joinW_head : ∀ l, ∃ r, joinW l = 32 :: r
  | [] => ⟨[], rfl⟩
  | w :: l => ⟨w ++ joinW l, rfl⟩
theorem tw_32 {s r : List UInt8} (h : ∀ c ∈ s, c ≠ 32) : (s ++ 32 :: r).takeWhile (fun c => c != 32) = s := by
  rw [List.takeWhile_append_of_pos (fun c hc => by simpa using h c hc)]
  simp
theorem occ_word {l : List (List UInt8)} (hl : ∀ w ∈ l, ∀ c ∈ w, c ≠ 32) {s : List UInt8} (hs : ∀ c ∈ s, c ≠ 32) : ∀ i, (32 :: (s ++ [32])) <+: (joinW l).drop i → s ∈ l := by
  induction l with
  | nil =>
    intro i h
    have := h.length_le
    simp [joinW] at this
    omega
  | cons w l ih =>
    intro i h
    cases i with
    | zero =>
      obtain ⟨t, ht⟩ := h
      obtain ⟨r, hr⟩ := joinW_head l
      rw [List.drop_zero, joinW, hr, List.cons_append, List.cons.injEq, List.append_assoc] at ht
      have h1 : (s ++ 32 :: t).takeWhile (fun c => c != 32) = s := tw_32 hs
      have h2 : (w ++ 32 :: r).takeWhile (fun c => c != 32) = w := tw_32 (hl w (List.mem_cons_self ..))
      have h3 : s ++ 32 :: t = w ++ 32 :: r := by simpa using ht.2
      rw [h3, h2] at h1
      rw [h1]
      exact List.mem_cons_self ..
    | succ i =>
      rw [joinW, List.drop_succ_cons, List.drop_append] at h
      by_cases hi : i < w.length
      · obtain ⟨t, ht⟩ := h
        rw [List.drop_eq_getElem_cons hi, List.cons_append, List.cons_append, List.cons.injEq] at ht
        exact absurd ht.1.symm (hl w (List.mem_cons_self ..) _ (List.getElem_mem hi))
      · rw [List.drop_of_length_le (by omega), List.nil_append] at h
        exact List.mem_cons_of_mem _ (ih (fun w hw => hl w (List.mem_cons_of_mem _ hw)) _ h)
theorem kw_join : kws = joinW kwL := by decide +kernel
theorem kw_all : ∀ s ∈ kwL, kwB s = true := by decide +kernel
theorem kw_free : ∀ w ∈ kwL, ∀ c ∈ w, c ≠ 32 := by decide +kernel
theorem kw_eq (s : List UInt8) : kwB s = kwL.contains s := by
  refine Bool.eq_iff_iff.2 ⟨fun h => ?_, fun h => kw_all s (by simpa using h)⟩
  unfold kwB at h
  rw [Bool.and_eq_true, Bool.and_eq_true, ← Lib.contains_iff_indexByte] at h
  obtain ⟨⟨_, h2⟩, h3⟩ := h
  have hs : ∀ c ∈ s, c ≠ 32 := fun c hc e => by
    subst e
    simp [hc] at h2
  unfold Lib.contains at h3
  have h4 := of_decide_eq_true h3
  rcases Lib.index_spec kws (32 :: s ++ [32]) with ⟨h5, _⟩ | ⟨i, _, _, h5, _⟩
  · omega
  · have h6 : (32 :: (s ++ [32])) <+: kws.drop i := by
      unfold Lib.occAt at h5
      simpa using List.isPrefixOf_iff_prefix.1 h5
    rw [kw_join] at h6
    simpa using occ_word kw_free hs i h6
end Go.Scan

/-
  Plain Lean: names, constants, variables, methods' names: what the program tells is what the document tells.
-/
namespace Go.Scan
set_option maxRecDepth 20000

def hd (s : List UInt8) : UInt8 := s.headD 0
def iwB (s : List UInt8) : Bool := s.all wrd && !s.isEmpty && decide (s.length ≤ 40) && !dig (hd s)
def endB (s : List UInt8) : Bool := s.getLast? == some 63 || s.getLast? == some 33
def bareS (s : List UInt8) : List UInt8 := if endB s then s.dropLast else s
def inB (s : List UInt8) : Bool := iwB (bareS s) && sml (hd (bareS s)) && decide (s.length ≤ 40)
def icB (s : List UInt8) : Bool := iwB s && !sml (hd s)
def iiB (s : List UInt8) : Bool := decide (1 < s.length) && hd s == 64 && iwB s.tail && sml (hd s.tail) && decide (s.length ≤ 40)
def setB (s : List UInt8) : Bool := s.getLast? == some 61 && iwB s.dropLast && sml (hd s.dropLast) && decide (s.length ≤ 40)
def wordAtS (s : List UInt8) (p : Nat) : List UInt8 := if ltr (pk s p) then wordS s p else []
def nameAtS (s : List UInt8) (p : Nat) : List UInt8 := if sml (pk s p) then fullS s p else []
def rnB (s : List UInt8) : Bool := !s.isEmpty && decide (s.length ≤ 40) && nameAtS s 0 == s
def rcB (s : List UInt8) : Bool := !s.isEmpty && decide (s.length ≤ 40) && grt (hd s) && wordAtS s 0 == s
def riB (s : List UInt8) : Bool := decide (1 < s.length) && decide (s.length ≤ 40) && hd s == 64 && sml (pk s 1) && wordAtS s 1 == s.tail
theorem tw_self {s : List UInt8} : s.takeWhile wrd = s ↔ s.all wrd = true := by
  induction s with
  | nil => simp
  | cons c r ih =>
    rw [List.takeWhile_cons, List.all_cons]
    cases h : wrd c with
    | true => simpa using ih
    | false => simp
theorem tw_app {b : List UInt8} {c : UInt8} (hb : b.all wrd = true) (hc : wrd c = false) : (b ++ [c]).takeWhile wrd = b := by
  rw [List.takeWhile_append_of_pos (fun x hx => List.all_eq_true.1 hb x hx)]
  simp [hc]
theorem tw_all (s : List UInt8) : (s.takeWhile wrd).all wrd = true := by
  induction s with
  | nil => rfl
  | cons c r ih =>
    rw [List.takeWhile_cons]
    cases h : wrd c with
    | true => simp only [if_true, List.all_cons, h, ih, Bool.and_self]
    | false => rfl
theorem wordS_0 (s : List UInt8) : wordS s 0 = s.takeWhile wrd := by simp [wordS]
theorem sml_wrd {c : UInt8} (h : sml c = true) : wrd c = true ∧ ltr c = true ∧ dig c = false ∧ grt c = false := by
  simp [sml] at h
  refine ⟨?_, ?_, ?_, ?_⟩ <;> simp [wrd, ltr, sml, dig, grt] <;> omega
theorem grt_iff (c : UInt8) : (wrd c = true ∧ dig c = false ∧ sml c = false) ↔ grt c = true := by
  simp [wrd, ltr, sml, dig, grt]
  omega
theorem grt_ltr {c : UInt8} (h : grt c = true) : ltr c = true := by simp [ltr, h]
theorem pk_0 (c : UInt8) (r : List UInt8) : pk (c :: r) 0 = c := rfl
theorem icB_eq (s : List UInt8) : icB s = rcB s := by
  refine Bool.eq_iff_iff.2 ?_
  cases s with
  | nil => simp [icB, rcB, iwB]
  | cons c r =>
    have h1 := grt_iff c
    simp only [icB, rcB, iwB, hd, List.headD_cons, wordAtS, pk_0, wordS_0, Bool.and_eq_true, Bool.not_eq_true', decide_eq_true_eq, beq_iff_eq, List.isEmpty_cons]
    constructor
    · rintro ⟨⟨⟨⟨ha, _⟩, hl⟩, hd⟩, hs⟩
      have hw : wrd c = true := by rw [List.all_cons, Bool.and_eq_true] at ha; exact ha.1
      have hg := h1.1 ⟨hw, hd, hs⟩
      exact ⟨⟨⟨by simp, hl⟩, hg⟩, by rw [if_pos (grt_ltr hg)]; exact tw_self.2 ha⟩
    · rintro ⟨⟨⟨_, hl⟩, hg⟩, he⟩
      rw [if_pos (grt_ltr hg)] at he
      obtain ⟨_, h3, h4⟩ := h1.2 hg
      exact ⟨⟨⟨⟨tw_self.1 he, by simp⟩, hl⟩, h3⟩, h4⟩
theorem iiB_eq (s : List UInt8) : iiB s = riB s := by
  refine Bool.eq_iff_iff.2 ?_
  match s with
  | [] => simp [iiB, riB]
  | [c] => simp [iiB, riB]
  | c :: d :: r =>
    have hp : pk (c :: d :: r) 1 = d := rfl
    have hw : wordS (c :: d :: r) 1 = (d :: r).takeWhile wrd := rfl
    simp only [iiB, riB, iwB, hd, List.headD_cons, List.tail_cons, wordAtS, hp, hw, Bool.and_eq_true, Bool.not_eq_true', decide_eq_true_eq, beq_iff_eq, List.isEmpty_cons]
    constructor
    · rintro ⟨⟨⟨⟨h1, h2⟩, ⟨⟨ha, _⟩, _⟩, _⟩, hs⟩, hl⟩
      exact ⟨⟨⟨⟨h1, hl⟩, h2⟩, hs⟩, by rw [if_pos (sml_wrd hs).2.1]; exact tw_self.2 ha⟩
    · rintro ⟨⟨⟨⟨h1, hl⟩, h2⟩, hs⟩, he⟩
      rw [if_pos (sml_wrd hs).2.1] at he
      exact ⟨⟨⟨⟨h1, h2⟩, ⟨⟨tw_self.1 he, by simp⟩, by simp at hl ⊢; omega⟩, (sml_wrd hs).2.2.1⟩, hs⟩, hl⟩
theorem inB_eq (s : List UInt8) : inB s = rnB s := by
  refine Bool.eq_iff_iff.2 ?_
  rcases List.eq_nil_or_concat s with rfl | ⟨b, c, rfl⟩
  · simp [inB, rnB, iwB, bareS]
  · rw [List.concat_eq_append]
    have hfull : ∀ w : List UInt8, (b ++ [c]).takeWhile wrd = w → fullS (b ++ [c]) 0 = if (pk (b ++ [c]) w.length == 63 || pk (b ++ [c]) w.length == 33) && pk (b ++ [c]) (w.length + 1) != 61 then w ++ [pk (b ++ [c]) w.length] else w := fun w hw => by
      unfold fullS
      simp only [wordS_0, hw, Nat.zero_add]
    have hpb : pk (b ++ [c]) b.length = c := by simp [pk]
    have hpe : pk (b ++ [c]) (b.length + 1) = 0 := by simp [pk]
    by_cases hc : c = 63 ∨ c = 33
    · have hbare : bareS (b ++ [c]) = b := by
        rcases hc with rfl | rfl <;> simp [bareS, endB]
      have hcw : wrd c = false := by rcases hc with rfl | rfl <;> decide
      cases b with
      | nil =>
        have hs : sml c = false := by rcases hc with rfl | rfl <;> decide
        have hbare2 : bareS [c] = [] := hbare
        simp [inB, rnB, hbare2, iwB, nameAtS, pk, hs]
      | cons d r =>
        have hp : pk (d :: r ++ [c]) 0 = d := rfl
        have hh : hd (d :: r) = d := rfl
        simp only [inB, rnB, hbare, iwB, hh, nameAtS, hp, Bool.and_eq_true, Bool.not_eq_true', decide_eq_true_eq, beq_iff_eq, List.isEmpty_cons]
        constructor
        · rintro ⟨⟨⟨⟨⟨ha, _⟩, _⟩, _⟩, hs⟩, hl⟩
          refine ⟨⟨by simp, hl⟩, ?_⟩
          rw [if_pos hs, hfull _ (tw_app ha hcw), hpb, hpe, if_pos (by rcases hc with rfl | rfl <;> decide)]
        · rintro ⟨⟨_, hl⟩, he⟩
          split at he
          · rename_i hs
            have ha := tw_all (d :: r ++ [c])
            have hx := hfull _ rfl
            rw [he] at hx
            have hwb : (d :: r ++ [c]).takeWhile wrd = d :: r := by
              split at hx
              · exact (List.append_inj' hx rfl).1.symm
              · rw [← hx] at ha
                have := List.all_eq_true.1 ha c (by simp)
                rw [hcw] at this
                cases this
            rw [hwb] at ha
            exact ⟨⟨⟨⟨⟨ha, by simp⟩, by simp at hl ⊢; omega⟩, (sml_wrd hs).2.2.1⟩, hs⟩, hl⟩
          · simp at he
    · have hbare : bareS (b ++ [c]) = b ++ [c] := by
        simp only [not_or] at hc
        simp [bareS, endB, hc.1, hc.2]
      obtain ⟨d, r, hdr⟩ : ∃ d r, b ++ [c] = d :: r := by
        cases b with
        | nil => exact ⟨c, [], rfl⟩
        | cons d r => exact ⟨d, r ++ [c], rfl⟩
      have hp : pk (b ++ [c]) 0 = d := by rw [hdr]; rfl
      have hh : hd (b ++ [c]) = d := by rw [hdr]; rfl
      have hne : (b ++ [c]).isEmpty = false := by simp
      simp only [inB, rnB, hbare, iwB, hh, nameAtS, hp, hne, Bool.and_eq_true, Bool.not_eq_true', decide_eq_true_eq, beq_iff_eq]
      constructor
      · rintro ⟨⟨⟨⟨⟨ha, _⟩, _⟩, _⟩, hs⟩, hl⟩
        refine ⟨⟨by simp, hl⟩, ?_⟩
        have hpl : pk (b ++ [c]) (b ++ [c]).length = 0 := by simp [pk]
        rw [if_pos hs, hfull _ (tw_self.2 ha), hpl, if_neg (by simp)]
      · rintro ⟨⟨_, hl⟩, he⟩
        split at he
        · rename_i hs
          have ha := tw_all (b ++ [c])
          have hx := hfull _ rfl
          rw [he] at hx
          have hwb : (b ++ [c]).takeWhile wrd = b ++ [c] := by
            split at hx
            · rename_i h1
              have h2 := (List.append_inj' hx rfl).2
              simp at h2
              rw [Bool.and_eq_true, Bool.or_eq_true, beq_iff_eq, beq_iff_eq, ← h2] at h1
              exact absurd h1.1 hc
            · exact hx.symm
          rw [hwb] at ha
          exact ⟨⟨⟨⟨⟨ha, by simp⟩, hl⟩, (sml_wrd hs).2.2.1⟩, hs⟩, hl⟩
        · simp at he
end Go.Scan

/-
  Contract: what stands at an @ (program).
-/
namespace Go.Proofs.YteejemdibfbccaaDoor
open Go.AX Go.RowKit Go.Scan
set_option maxRecDepth 20000

set_option maxHeartbeats 1000000 in
theorem next_ivar (xb : Nat) (s : List UInt8) (p line : Nat) (l : List Tok) (ob : Option Nat) (cap here : Nat) (sp : Bool) (hc : s[p]? = some 64) (hsm : sml (pk s (p + 1)) = true) (hl : l.length ≤ 900000) (hob : ob = none → l = []) (hs : s.length ≤ 1000000) :
    SpecH Tryd.prog 24 [.c (.v (.pointer (some ⟨xb, 0, none⟩)))] [scE xb s p line ob l.length cap here sp, toE l ob cap, .fact ScanF]
      (RetG (ι := Nat × Nat) (fun _ => True) (fun _ => .tuple #[]) fun ⟨b, c⟩ => [scE xb s (p + 1 + (wordS s (p + 1)).length) line (some b) (l.length + 1) c here false, toE (l ++ [⟨3, 64 :: wordS s (p + 1), sp, line, none, 0, 0⟩]) (some b) c, .fact ScanF]) := by
  refine ownC hm Tryd.func24 (by kernel_rfl) rfl rfl (fun _ _ => okHB_eq rfl) (fun _ _ => Nat.le_refl _) ?_
  have hz := bs_size s
  have hp : p < s.length := (List.getElem?_eq_some_iff.1 hc).1
  (first | refine wX ?_ | exact wZ)
  refine LdN.one (a := some ⟨xb, 0, none⟩) (q := 0) (.string (bs s)) rfl (fun w hw => hw.1) rfl ?_
  (first | refine wX ?_ | exact wZ)
  refine LdN.one (a := some ⟨xb, 0, none⟩) (q := 1) (.int .i64 ((p : Nat) : Int)) rfl (fun w hw => hw.1) rfl ?_
  (first | refine wX ?_ | exact wZ)
  rw [Int.toNat_natCast, byteAt_get hc]
  (first | refine wX ?_ | exact wZ)
  refine call1 (blk_c 64 _) ?_
  (first | refine wX ?_ | exact wZ)
  refine call1 (ltr_c 64 _) ?_
  (first | refine wX ?_ | exact wZ)
  refine call1 (dig_c 64 _) ?_
  (first | refine wX ?_ | exact wZ)
  refine LdN.one (a := some ⟨xb, 0, none⟩) (q := 1) (.int .i64 ((p : Nat) : Int)) rfl (fun w hw => hw.1) rfl ?_
  (first | refine wX ?_ | exact wZ)
  refine EffW.appTo (i := 0) (q := 1) (ys := [_]) (scC s (p + 1) line ob l.length cap here sp) 6 rfl rfl rfl rfl rfl rfl rfl (Nat.le_of_ble_eq_true rfl) (by
    show [_, Value.int .i64 _, _, _, _, _] = [_, Value.int .i64 _, _, _, _, _]
    rw [wrap_i64 (by omega)]
    rfl) rfl ?_
  (first | refine wX ?_ | exact wZ)
  refine call1 (peek_c xb s (p + 1) line ob l.length cap here sp 0 (by omega) (by decide) _ (fun w hw => hw.1)) ?_
  rw [Nat.add_zero]
  (first | refine wX ?_ | exact wZ)
  refine call1 (sml_c (pk s (p + 1)) _) ?_
  rw [hsm]
  ((conv => whnf); (repeat ((first | refine VrN.keep ?_ | refine BoxN.own ?_ | refine RwN.own ?_); (conv => whnf))))
  have hwl := wordS_le s (p + 1) (by omega)
  refine DrawN.planC (fun w => w.cell? ⟨xb, 2, none⟩ = some (.int .i64 (line : Int))) [0, 1, 4] [(5, 2), (6, 2), (7, 1), (2, 0), (3, 0), (8, 0)] [] (by decide +kernel) (fun w hw => hw.1.cell (q := 2) rfl) ?_
  (first | refine wX ?_ | exact wZ)
  refine ReadC.load (.int .i64 (line : Int)) rfl rfl (fun w hw => loadVar_cell rfl hw) ?_
  (conv => whnf)
  refine callG (word_c xb s (p + 1) line ob l.length cap here sp hs (by omega)) [0] rfl ⟨rfl, trivial⟩ rfl fun _ _ => ?_
  (conv => whnf)
  refine Nd.mk (fun w hw => (show SlAt _ _ (scC s (p + 1 + (wordS s (p + 1)).length) line ob l.length cap here sp) w from hw.1).cell (q := 2) rfl) ?_
  (first | refine wX ?_ | exact wZ)
  refine Nd.mk (by rw [bs_size]; show 1 + _ < _; omega) ?_
  rw [show (⟨#[64]⟩ : ByteArray) = bs [64] from rfl, bs_app]
  (conv => whnf)
  refine Nd.mk (fun w hw => (show SlAt _ _ (scC s (p + 1 + (wordS s (p + 1)).length) line ob l.length cap here sp) w from hw.1).cell (q := 2) rfl) ?_
  (conv => whnf)
  refine callG (add_c xb s (p + 1 + (wordS s (p + 1)).length) line l ob cap here sp 3 (64 :: wordS s (p + 1)) line (by omega) hob) [0, 1] rfl ⟨rfl, rfl, trivial⟩ rfl fun ⟨b1, c1⟩ _ => ?_
  (conv => whnf)
  refine Nd.mk (fun w hw => (show SlAt _ _ (scC s (p + 1 + (wordS s (p + 1)).length) line (some b1) (l.length + 1) c1 here false) w from hw.1).cell (q := 2) rfl) ?_
  (first | refine wX ?_ | exact wZ)
  exact ⟨(b1, c1), trivial, rfl, wkE_refl _, wkE_refl _, wkE_refl _, wkH_nil _⟩
end Go.Proofs.YteejemdibfbccaaDoor

/-
  AX, thirty-eighth text: []byte of a constant: the row is marked behind its cells.
-/
namespace Go.AX
open Go.RowKit

theorem run_convert_own {P : Program} (w : World) (t e : TypeId) (b : Nat) (arr : Array Value) (fr : Nat × Nat) (n c : Nat) (hb : w.heap[b]? = some (.cells arr e fr)) (ht : P.underlying t = some (.slice e)) (he : P.underlying e = some (.int .u8)) :
    (convert t t (.slice (some ⟨b, 0, none⟩) n c)).run P w = .ok (.slice (some ⟨b, 0, none⟩) n c) (w.freeze ⟨b, arr.size, none⟩ 1) := by
  have hsh : w.shape? b = some (e, arr.size) := by
    unfold World.shape?
    rw [hb]
  simp [convert, run_underlying ht, run_underlying he, markStringish, hsh]
theorem EffW.constB {P : Program} {o : Oper} {s : List AV} {H : List Ent} {K : AV → List Ent → Prop} {t e : TypeId} {x : Operand} {b n c : Nat} {xs : List Value} (i : Nat) (ho : o.op = .convert t t x) (ht : P.underlying t = some (.slice e)) (he : P.underlying e = some (.int .u8))
    (hx : opv s x = .c (.v (.slice (some ⟨b, 0, none⟩) n c))) (hi : nthE H i = some (.app e 1 xs (some ⟨b, 0, none⟩) n c)) (hk : K (.c (.v (.slice (some ⟨b, 0, none⟩) n c))) H) : EffW P o s H K := by
  intro ρ S w ac hsat hr
  have hxr := opv_rel hr x
  rw [hx] at hxr
  have hxe : ac.eval x = .slice (some ⟨b, 0, none⟩) n c := hxr
  rw [nthE_eq] at hi
  have hilt : i < H.length := (List.getElem?_eq_some_iff.1 hi).1
  have hset : H.set i (.app e 1 xs (some ⟨b, 0, none⟩) n c) = H := by
    apply List.ext_getElem?
    intro j
    by_cases hj : i = j
    · subst hj
      rw [List.getElem?_set_self hilt, hi]
    · rw [List.getElem?_set_ne hj]
  rcases hsat.ent i _ hi with ⟨h0, _⟩ | ⟨b', hb', hrow⟩
  · cases h0
  · obtain rfl : b = b' := by
      injection hb' with h1
      injection h1
    obtain ⟨arr, fr, ⟨hb, hfr⟩, h1, h2, h3, h4, h5⟩ := hrow
    have hrun := run_convert_own w t e b arr fr n c hb ht he
    have hbl : b < w.heap.size := (Array.getElem?_eq_some_iff.1 hb).1
    have hb2 : (w.freeze ⟨b, arr.size, none⟩ 1).heap[b]? = some (.cells arr e (if fr.1 == fr.2 then (arr.size, arr.size + 1) else (min fr.1 arr.size, max fr.2 (arr.size + 1)))) := by
      simp [World.freeze, Array.getElem?_modify, hb]
    have hS := hsat.setG (e' := .app e 1 xs (some ⟨b, 0, none⟩) n c) (c := b) (w' := w.freeze ⟨b, arr.size, none⟩ 1) hi rfl (by simp [World.freeze]) (fun k _ hne => by simp [World.freeze, Array.getElem?_modify, Ne.symm hne]) rfl rfl rfl (fun c hc => .inl (Option.some.inj hc).symm)
      (.inr ⟨b, rfl, arr, _, ⟨hb2, by
        split
        · exact .inr (Nat.le_refl _)
        · rename_i hne
          rcases hfr with h | h
          · simp [h] at hne
          · exact .inr (by show arr.size ≤ min fr.1 arr.size; omega)⟩, h1, h2, h3, h4, h5⟩)
    rw [hset] at hS
    refine ⟨_, _, hk, _, _, _, _, ?_, .inl rfl, hS.1, hS.2, rfl⟩
    unfold execOp
    simp only [ho, hxe, Sem.run_bind, hrun, Result.andThen_ok, Sem.run_pure]
end Go.AX

/-
  Contracts: names, constants, variables, methods' names (program).
-/
namespace Go.Proofs.YteejemdibfbccaaDoor
open Go.AX Go.RowKit Go.Scan
set_option maxRecDepth 20000

theorem isWords_c (s : List UInt8) (hs : s.length ≤ 200000000000000) : ∀ H, SpecH Tryd.prog 31 (pvs [.string (bs s)]) H (Ret (.bool (iwB s)) H) := by
  refine pureC hm Tryd.func31 (by kernel_rfl) rfl rfl ?_
  have hz := bs_size s
  (first | refine wX ?_ | exact wZ)
  rw [hz]
  refine loopS Nat (fun i => i ≤ s.length ∧ (s.take i).all wrd = true) (fun i => mkS Tryd.f31.ntmps 0 [(0, .c (.v (.string (bs s)))), (5, .c (.v (.int .i64 (s.length : Int)))), (6, .c (.v (.int .i64 (i : Int))))]) (fun i => s.length - i) rfl (fun _ => rfl) 0 ⟨Nat.zero_le _, rfl⟩ ?_ ?_
  · (repeat' (first | exact trivial | refine And.intro (by with_reducible rfl) ?_ | (with_reducible exact wkC_refl _) | (with_reducible exact wkCs_refl _) | refine And.intro ?_ ?_))
    all_goals rfl
  intro i ⟨hi, hall⟩
  (first | refine wX ?_ | exact wZ)
  refine brd_dec (fun h1 => ?_) (fun h1 => ?_)
  · obtain ⟨c, hc⟩ : ∃ c, s[i]? = some c := ⟨_, List.getElem?_eq_getElem (by omega)⟩
    (first | refine wX ?_ | exact wZ)
    try refine Nd.mk ⟨by omega, by rw [hz]; exact h1⟩ ?_
    (first | refine wX ?_ | exact wZ)
    rw [Int.toNat_natCast, byteAt_get hc]
    refine call1 (wrd_c c _) ?_
    cases hw : wrd c with
    | true =>
      (first | refine wX ?_ | exact wZ)
      refine ⟨i + 1, ⟨by omega, ?_⟩, by omega, ?_, by (repeat' (first | exact trivial | exact wkE_refl _ | refine And.intro ?_ ?_))⟩
      · rw [List.take_add_one, hc, List.all_append, hall]
        simp [hw]
      · (repeat' (first | exact trivial | refine And.intro (by with_reducible rfl) ?_ | (with_reducible exact wkC_refl _) | (with_reducible exact wkCs_refl _) | refine And.intro ?_ ?_))
        all_goals first | rfl | exact av_int (by rw [wrap_i64 (by omega)]; omega)
    | false =>
      (first | refine wX ?_ | exact wZ)
      refine ret_b ?_
      have : s.all wrd = false := by
        rw [Bool.eq_false_iff]
        intro h
        have := List.all_eq_true.1 h c (List.mem_of_getElem? hc)
        rw [hw] at this
        cases this
      simp [iwB, this]
  · have hie : i = s.length := by omega
    subst hie
    rw [List.take_length] at hall
    cases s with
    | nil =>
      (first | refine wX ?_ | exact wZ)
      exact ret_b (by simp [iwB])
    | cons c r =>
      have hz2 : (bs (c :: r)).size = (c :: r).length := hz
      (first | refine wX ?_ | exact wZ)
      rw [hz2]
      refine brd_dec (fun h2 => ?_) (fun h2 => ?_)
      · have hl2 : (c :: r).length ≤ 40 := by omega
        (first | refine wX ?_ | exact wZ)
        try refine Nd.mk ⟨by omega, by rw [hz2, List.length_cons]; omega⟩ ?_
        (first | refine wX ?_ | exact wZ)
        rw [show byteAt (bs (c :: r)) (Int.toNat 0) = (c.toNat : Int) from byteAt_get (l := c :: r) (i := 0) rfl]
        refine call1 (dig_c c _) ?_
        (first | refine wX ?_ | exact wZ)
        refine ret_b ?_
        simp only [iwB, hall, hd, List.headD_cons, List.isEmpty_cons, decide_eq_true hl2]
        simp
      · have hl2 : ¬ (c :: r).length ≤ 40 := by omega
        (first | refine wX ?_ | exact wZ)
        refine ret_b ?_
        simp only [iwB, decide_eq_false hl2]
        simp
theorem iw_cons {b : List UInt8} (h : iwB b = true) : ∃ y q, b = y :: q := by
  cases b with
  | nil => simp [iwB] at h
  | cons y q => exact ⟨y, q, rfl⟩
theorem isName_c (s : List UInt8) (hs : s.length ≤ 200000000000000) : ∀ H, SpecH Tryd.prog 30 (pvs [.string (bs s)]) H (Ret (.bool (inB s)) H) := by
  refine pureC hm Tryd.func30 (by kernel_rfl) rfl rfl ?_
  cases s with
  | nil =>
    (first | refine wX ?_ | exact wZ)
    refine call1 (isWords_c [] (by decide) _) ?_
    (first | refine wX ?_ | exact wZ)
    try exact ret_b (by simp [inB, bareS, endB, iwB])
  | cons x r =>
    have hz := bs_size (x :: r)
    have hl1 : (x :: r).length = r.length + 1 := rfl
    obtain ⟨c, hc⟩ : ∃ c, (x :: r)[r.length]? = some c := ⟨_, List.getElem?_eq_getElem (by simp)⟩
    have hlast : (x :: r).getLast? = some c := by rw [List.getLast?_eq_getElem?]; exact hc
    have hw1 : IntKind.i64.wrap (((x :: r).length : Int) - 1) = ((r.length : Nat) : Int) := by rw [wrap_i64 (by omega)]; omega
    have h63 : ((c.toNat : Int) == 63) = (c == 63) := u8_eq (n := 63) (by decide)
    have h33 : ((c.toNat : Int) == 33) = (c == 33) := u8_eq (n := 33) (by decide)
    have hdl : (x :: r).take r.length = (x :: r).dropLast := by rw [List.dropLast_eq_take]; rfl
    have hdl2 : (x :: r).dropLast.length = r.length := by simp
    (first | refine wX ?_ | exact wZ)
    rw [hz, hw1]
    refine Nd.mk ⟨by omega, by omega⟩ ?_
    (first | refine wX ?_ | exact wZ)
    rw [Int.toNat_natCast, byteAt_get hc, h63]
    cases e63 : c == 63 with
    | true =>
      have hb : bareS (x :: r) = (x :: r).dropLast := by simp [bareS, endB, hlast, show c = 63 by simpa using e63]
      (first | refine wX ?_ | exact wZ)
      rw [hz, hw1]
      refine ReadW.sl_h r.length rfl Tryd.underlying9 rfl rfl ⟨rfl, by omega⟩ ?_
      rw [hdl]
      (first | refine wX ?_ | exact wZ)
      -- (x :: r).dropLast: the bytes that are looked at, inB: what is told, hb: what is known of it
      refine call1 (isWords_c ((x :: r).dropLast) (by omega) _) ?_
      cases hi : iwB ((x :: r).dropLast) with
      | false =>
        (first | refine wX ?_ | exact wZ)
        exact ret_b (by simp [inB, hb, hi])
      | true =>
        obtain ⟨y, q, hyq⟩ := iw_cons hi
        have hb0 : ((x :: r).dropLast)[0]? = some y := by rw [hyq]; rfl
        have hyl : (bs ((x :: r).dropLast)).size = q.length + 1 := by rw [bs_size, hyq]; rfl
        have hhd : hd ((x :: r).dropLast) = y := by rw [hyq]; rfl
        (first | refine wX ?_ | exact wZ)
        try refine Nd.mk ⟨by omega, by rw [hyl]; omega⟩ ?_
        (first | refine wX ?_ | exact wZ)
        rw [show byteAt (bs ((x :: r).dropLast)) (Int.toNat 0) = (y.toNat : Int) from byteAt_get hb0]
        refine call1 (sml_c y _) ?_
        cases hs2 : sml y with
        | false =>
          (first | refine wX ?_ | exact wZ)
          exact ret_b (by simp [inB, hb, hi, hhd, hs2])
        | true =>
          (first | refine wX ?_ | exact wZ)
          rw [hz]
          refine ret_b ?_
          simp [inB, hb, hi, hhd, hs2]
          try omega
    | false =>
      (first | refine wX ?_ | exact wZ)
      rw [hz, hw1]
      refine Nd.mk ⟨by omega, by omega⟩ ?_
      (first | refine wX ?_ | exact wZ)
      rw [Int.toNat_natCast, byteAt_get hc, h33]
      cases e33 : c == 33 with
      | true =>
        have hb : bareS (x :: r) = (x :: r).dropLast := by simp [bareS, endB, hlast, show c = 33 by simpa using e33]
        (first | refine wX ?_ | exact wZ)
        rw [hz, hw1]
        refine ReadW.sl_h r.length rfl Tryd.underlying9 rfl rfl ⟨rfl, by omega⟩ ?_
        rw [hdl]
        (first | refine wX ?_ | exact wZ)
        -- (x :: r).dropLast: the bytes that are looked at, inB: what is told, hb: what is known of it
        refine call1 (isWords_c ((x :: r).dropLast) (by omega) _) ?_
        cases hi : iwB ((x :: r).dropLast) with
        | false =>
          (first | refine wX ?_ | exact wZ)
          exact ret_b (by simp [inB, hb, hi])
        | true =>
          obtain ⟨y, q, hyq⟩ := iw_cons hi
          have hb0 : ((x :: r).dropLast)[0]? = some y := by rw [hyq]; rfl
          have hyl : (bs ((x :: r).dropLast)).size = q.length + 1 := by rw [bs_size, hyq]; rfl
          have hhd : hd ((x :: r).dropLast) = y := by rw [hyq]; rfl
          (first | refine wX ?_ | exact wZ)
          try refine Nd.mk ⟨by omega, by rw [hyl]; omega⟩ ?_
          (first | refine wX ?_ | exact wZ)
          rw [show byteAt (bs ((x :: r).dropLast)) (Int.toNat 0) = (y.toNat : Int) from byteAt_get hb0]
          refine call1 (sml_c y _) ?_
          cases hs2 : sml y with
          | false =>
            (first | refine wX ?_ | exact wZ)
            exact ret_b (by simp [inB, hb, hi, hhd, hs2])
          | true =>
            (first | refine wX ?_ | exact wZ)
            rw [hz]
            refine ret_b ?_
            simp [inB, hb, hi, hhd, hs2]
            try omega
      | false =>
        have hb : bareS (x :: r) = x :: r := by
          have h1 : ¬ c = 63 := by simpa using e63
          have h2 : ¬ c = 33 := by simpa using e33
          simp [bareS, endB, hlast, h1, h2]
        (first | refine wX ?_ | exact wZ)
        -- x :: r: the bytes that are looked at, inB: what is told, hb: what is known of it
        refine call1 (isWords_c (x :: r) (by omega) _) ?_
        cases hi : iwB (x :: r) with
        | false =>
          (first | refine wX ?_ | exact wZ)
          exact ret_b (by simp [inB, hb, hi])
        | true =>
          obtain ⟨y, q, hyq⟩ := iw_cons hi
          have hb0 : (x :: r)[0]? = some y := by rw [hyq]; rfl
          have hyl : (bs (x :: r)).size = q.length + 1 := by rw [bs_size, hyq]; rfl
          have hhd : hd (x :: r) = y := by rw [hyq]; rfl
          (first | refine wX ?_ | exact wZ)
          try refine Nd.mk ⟨by omega, by rw [hyl]; omega⟩ ?_
          (first | refine wX ?_ | exact wZ)
          rw [show byteAt (bs (x :: r)) (Int.toNat 0) = (y.toNat : Int) from byteAt_get hb0]
          refine call1 (sml_c y _) ?_
          cases hs2 : sml y with
          | false =>
            (first | refine wX ?_ | exact wZ)
            exact ret_b (by simp [inB, hb, hi, hhd, hs2])
          | true =>
            (first | refine wX ?_ | exact wZ)
            rw [hz]
            refine ret_b ?_
            simp [inB, hb, hi, hhd, hs2]
            try omega
theorem IsName_c (s : List UInt8) (hs : s.length ≤ 200000000000000) : ∀ H, (∀ w, Facts H w → ScanF w) → SpecH Tryd.prog 17 (pvs [.string (bs s)]) H (Ret (.bool (inB s && !kwB s)) H) := by
  refine factC hm Tryd.func17 (by kernel_rfl) rfl rfl ?_
  (first | refine wX ?_ | exact wZ)
  refine call1 (isName_c s hs _) ?_
  cases hn : inB s with
  | false =>
    (first | refine wX ?_ | exact wZ)
    rfl
  | true =>
    have hl : s.length ≤ 40 := by
      simp [inB] at hn
      exact hn.2
    (first | refine wX ?_ | exact wZ)
    refine call1 (IsKeyword_c s (by omega) _ (fun w hw => hw.1.1)) ?_
    (first | refine wX ?_ | exact wZ)
    rfl
theorem IsConst_c (s : List UInt8) (hs : s.length ≤ 200000000000000) : ∀ H, SpecH Tryd.prog 18 (pvs [.string (bs s)]) H (Ret (.bool (icB s)) H) := by
  refine pureC hm Tryd.func18 (by kernel_rfl) rfl rfl ?_
  (first | refine wX ?_ | exact wZ)
  refine call1 (isWords_c s hs _) ?_
  cases hi : iwB s with
  | false =>
    (first | refine wX ?_ | exact wZ)
    exact ret_b (by simp [icB, hi])
  | true =>
    obtain ⟨y, q, rfl⟩ := iw_cons hi
    have hyl : (bs (y :: q)).size = q.length + 1 := by rw [bs_size]; rfl
    (first | refine wX ?_ | exact wZ)
    try refine Nd.mk ⟨by omega, by rw [hyl]; omega⟩ ?_
    (first | refine wX ?_ | exact wZ)
    rw [show byteAt (bs (y :: q)) (Int.toNat 0) = (y.toNat : Int) from byteAt_get (l := y :: q) (i := 0) rfl]
    refine call1 (sml_c y _) ?_
    (first | refine wX ?_ | exact wZ)
    exact ret_b (by simp [icB, hi, hd])
theorem IsIvar_c (s : List UInt8) (hs : s.length ≤ 200000000000000) : ∀ H, SpecH Tryd.prog 19 (pvs [.string (bs s)]) H (Ret (.bool (iiB s)) H) := by
  refine pureC hm Tryd.func19 (by kernel_rfl) rfl rfl ?_
  have hz := bs_size s
  (first | refine wX ?_ | exact wZ)
  rw [hz]
  refine brd_dec (fun h1 => ?_) (fun h1 => ?_)
  · match s, hs, hz, h1 with
    | [], _, _, h1 => exact absurd h1 (by decide)
    | [_], _, _, h1 => exact absurd h1 (by simp)
    | c :: d :: r, hs, hz, h1 =>
      have h64 : ((c.toNat : Int) == 64) = (c == 64) := u8_eq (n := 64) (by decide)
      have hl : (c :: d :: r).length = r.length + 2 := rfl
      (first | refine wX ?_ | exact wZ)
      try refine Nd.mk ⟨by omega, by rw [hz]; omega⟩ ?_
      (first | refine wX ?_ | exact wZ)
      rw [show byteAt (bs (c :: d :: r)) (Int.toNat 0) = (c.toNat : Int) from byteAt_get (l := c :: d :: r) (i := 0) rfl, h64]
      cases e64 : c == 64 with
      | false =>
        (first | refine wX ?_ | exact wZ)
        exact ret_b (by simp only [iiB, hd, List.headD_cons, e64]; simp)
      | true =>
        (first | refine wX ?_ | exact wZ)
        refine ReadW.sl_l 1 rfl Tryd.underlying9 rfl rfl ⟨rfl, by omega⟩ ?_
        (first | refine wX ?_ | exact wZ)
        refine call1 (isWords_c (d :: r) (by simp at hs ⊢; omega) _) ?_
        cases hi : iwB (d :: r) with
        | false =>
          (first | refine wX ?_ | exact wZ)
          exact ret_b (by simp only [iiB, List.tail_cons, hi]; simp)
        | true =>
          (first | refine wX ?_ | exact wZ)
          try refine Nd.mk ⟨by omega, by rw [hz]; omega⟩ ?_
          (first | refine wX ?_ | exact wZ)
          rw [show byteAt (bs (c :: d :: r)) (Int.toNat 1) = (d.toNat : Int) from byteAt_get (l := c :: d :: r) (i := 1) rfl]
          refine call1 (sml_c d _) ?_
          cases hs2 : sml d with
          | false =>
            (first | refine wX ?_ | exact wZ)
            exact ret_b (by simp only [iiB, List.tail_cons, hd, List.headD_cons, hs2]; simp)
          | true =>
            (first | refine wX ?_ | exact wZ)
            rw [hz]
            refine ret_b ?_
            have hdec : decide (1 < (c :: d :: r).length) = true := by simp
            simp only [iiB, hdec, List.tail_cons, hd, List.headD_cons, hs2, e64, hi]
            simp
            omega
  · have hdec : decide (1 < s.length) = false := decide_eq_false (by omega)
    (first | refine wX ?_ | exact wZ)
    exact ret_b (by simp only [iiB, hdec]; simp)
theorem Operators_c : SpecF Tryd.prog 34 [] ScanF fun v G => ∃ b, v = .slice (some ⟨b, 0, none⟩) 16 16 ∧ ∀ w, G w → SlAt (some ⟨b, 0, none⟩) 16 (strsC opL) w := by
  refine specF hm Tryd.func34 (by kernel_rfl) rfl rfl ?_
  (first | refine wX ?_ | exact wZ)
  refine SpecF.call (Fields_c ops (by decide) (by decide +kernel)) (fun w hw => hw.1) fun v G hR => ?_
  rw [show Lib.fields ops = opL by decide +kernel] at hR
  obtain ⟨b, rfl, hG⟩ := hR
  (first | refine wX ?_ | exact wZ)
  refine fin_p G ⟨b, rfl, fun w hw => hG w hw⟩ (fun w hw => hw.2.1)
theorem CutEq_c (s : List UInt8) (hs : s.length ≤ 200000000000000) : ∀ H, SpecH Tryd.prog 35 (pvs [.string (bs s), .string (bs [61])]) H (Ret (.tuple #[.string (bs (Lib.trimSuffix s [61])), .bool (Lib.hasSuffix s [61])]) H) := fun H =>
  SpecH.rawP (R := fun r => r = .tuple #[.string (bs (Lib.trimSuffix s [61])), .bool (Lib.hasSuffix s [61])]) (callOk Tryd.func35 (by kernel_rfl) rfl)
    (fun w _ => (Tryd.strings_CutSuffix (bs s) (bs [61]) w (by rw [bs_size]; omega)).mono fun e w' ⟨he, hw⟩ => ⟨_, he, by rw [bs_list, bs_list]; rfl, by subst hw; exact Below.refl _ _⟩) fun r hr => by subst hr; exact ⟨rfl, rfl⟩
theorem IsMethod_c (s : List UInt8) (hs : s.length ≤ 200000000000000) : ∀ H, (∀ w, Facts H w → ScanF w) → SpecH Tryd.prog 21 (pvs [.string (bs s)]) H (Ret (.bool (opL.contains s || inB s || setB s)) H) := by
  refine factC hm Tryd.func21 (by kernel_rfl) rfl rfl ?_
  have hz := bs_size s
  (first | refine wX ?_ | exact wZ)
  refine SpecF.call Operators_c (fun w hw => hw.1) fun v G hR => ?_
  obtain ⟨b, rfl, hG⟩ := hR
  (first | refine wX ?_ | exact wZ)
  refine call1 (Contains_c (some ⟨b, 0, none⟩) opL 16 s (fun _ => rfl) (by decide) _ (fun w hw => hG w hw.2.1)) ?_
  cases hc : opL.contains s with
  | true =>
    (first | refine wX ?_ | exact wZ)
    exact ret_b (by simp)
  | false =>
    (first | refine wX ?_ | exact wZ)
    refine call1 (isName_c s hs _) ?_
    cases hn : inB s with
    | true =>
      (first | refine wX ?_ | exact wZ)
      exact ret_b (by simp)
    | false =>
      rw [Bool.false_or, Bool.false_or]
      (first | refine wX ?_ | exact wZ)
      refine call1 (CutEq_c s hs _) ?_
      cases hsf : Lib.hasSuffix s [61] with
      | false =>
        have hg : (s.getLast? == some 61) = false := by
          unfold Lib.hasSuffix at hsf
          rcases List.eq_nil_or_concat s with rfl | ⟨bb, c, rfl⟩
          · rfl
          · rw [List.concat_eq_append] at hsf ⊢
            have h61 : ¬ c = 61 := fun e => by
              subst e
              have := List.isSuffixOf_iff_suffix.2 (List.suffix_append bb [61])
              rw [hsf] at this
              cases this
            simp [h61]
        (first | refine wX ?_ | exact wZ)
        exact ret_b (by simp [setB, hg])
      | true =>
        obtain ⟨bb, hbb⟩ : ∃ bb, bb ++ [61] = s := List.isSuffixOf_iff_suffix.1 hsf
        have htr : Lib.trimSuffix s [61] = bb := by
          unfold Lib.trimSuffix
          rw [hsf, if_pos rfl, ← hbb]
          simp
        have hdl : s.dropLast = bb := by rw [← hbb]; simp
        have hgl : (s.getLast? == some 61) = true := by rw [← hbb]; simp
        have hbl : bb.length + 1 = s.length := by rw [← hbb]; simp
        rw [htr]
        (first | refine wX ?_ | exact wZ)
        -- bb: the bytes that are looked at, setB, hgl: what is told, hdl: what is known of it
        refine call1 (isWords_c (bb) (by omega) _) ?_
        cases hi : iwB (bb) with
        | false =>
          (first | refine wX ?_ | exact wZ)
          exact ret_b (by simp [setB, hgl, hdl, hi])
        | true =>
          obtain ⟨y, q, hyq⟩ := iw_cons hi
          have hb0 : (bb)[0]? = some y := by rw [hyq]; rfl
          have hyl : (bs (bb)).size = q.length + 1 := by rw [bs_size, hyq]; rfl
          have hhd : hd (bb) = y := by rw [hyq]; rfl
          (first | refine wX ?_ | exact wZ)
          try refine Nd.mk ⟨by omega, by rw [hyl]; omega⟩ ?_
          (first | refine wX ?_ | exact wZ)
          rw [show byteAt (bs (bb)) (Int.toNat 0) = (y.toNat : Int) from byteAt_get hb0]
          refine call1 (sml_c y _) ?_
          cases hs2 : sml y with
          | false =>
            (first | refine wX ?_ | exact wZ)
            exact ret_b (by simp [setB, hgl, hdl, hi, hhd, hs2])
          | true =>
            (first | refine wX ?_ | exact wZ)
            rw [hz]
            refine ret_b ?_
            simp [setB, hgl, hdl, hi, hhd, hs2]
            try omega
end Go.Proofs.YteejemdibfbccaaDoor

/-
  Contracts: symbols (program).
-/
namespace Go.Proofs.YteejemdibfbccaaDoor
open Go.AX Go.RowKit Go.Scan
set_option maxRecDepth 20000

theorem full_ne {s : List UInt8} {p : Nat} {c : UInt8} (hc : s[p]? = some c) (hw : wrd c = true) : 1 ≤ (wordS s p).length ∧ 1 ≤ (fullS s p).length := by
  have e : s.drop p = c :: s.drop (p + 1) := by
    obtain ⟨h1, h2⟩ := List.getElem?_eq_some_iff.1 hc
    rw [List.drop_eq_getElem_cons h1, h2]
  have h1 : 1 ≤ (wordS s p).length := by
    unfold wordS
    rw [e, List.takeWhile_cons, if_pos hw]
    simp
  refine ⟨h1, ?_⟩
  unfold fullS
  simp only
  split
  · rw [List.length_append]; omega
  · exact h1
theorem BIndex_c (b : Nat) (l : List UInt8) (cap : Nat) (c : UInt8) (hl : l.length ≤ 1000) (hno : l.contains c = false) :
    ∀ H, (∀ w, Facts H w → SlAt (some ⟨b, 0, none⟩) l.length (u8s l) w) → SpecH Tryd.prog 79 (pvs [.slice (some ⟨b, 0, none⟩) l.length cap, .int .u8 (c.toNat : Int)]) H (Ret (.int .i64 (-1)) H) := by
  refine factC hm Tryd.func79 (by kernel_rfl) rfl rfl ?_
  (first | refine wX ?_ | exact wZ)
  refine loopS Nat (fun i => i ≤ l.length) (fun i => mkS Tryd.f79.ntmps 0 [(0, .c (.v (.slice (some ⟨b, 0, none⟩) l.length cap))), (1, .c (.v (.int .u8 (c.toNat : Int)))), (7, .c (.v (.int .i64 (l.length : Int)))), (8, .c (.v (.int .i64 (i : Int))))]) (fun i => l.length - i) rfl (fun _ => rfl) 0 (Nat.zero_le _) ?_ ?_
  · (repeat' (first | exact trivial | refine And.intro (by with_reducible rfl) ?_ | (with_reducible exact wkC_refl _) | (with_reducible exact wkCs_refl _) | refine And.intro ?_ ?_))
    all_goals rfl
  intro i hi
  (first | refine wX ?_ | exact wZ)
  refine brd_dec (fun h1 => ?_) (fun h1 => ?_)
  · obtain ⟨t, ht⟩ : ∃ t, l[i]? = some t := ⟨_, List.getElem?_eq_getElem (by omega)⟩
    have hne : ¬ (c.toNat : Int) = (t.toNat : Int) := fun h => by
      have h2 : c = t := UInt8.toNat_inj.1 (by omega)
      have h3 := List.contains_iff_mem.2 (List.mem_of_getElem? ht)
      rw [← h2, hno] at h3
      cases h3
    (first | refine wX ?_ | exact wZ)
    refine Nd.mk ⟨rfl, by omega, by omega⟩ ?_
    (first | refine wX ?_ | exact wZ)
    refine LdN.one (.int .u8 (t.toNat : Int)) rfl (fun w hw => hw.1) (by show (u8s l)[Int.toNat _ * 1]? = _; rw [Int.toNat_natCast, Nat.mul_one]; simp [u8s, ht]) ?_
    (first | refine wX ?_ | exact wZ)
    refine brd_eq (fun h => absurd h hne) (fun _ => ?_)
    (first | refine wX ?_ | exact wZ)
    refine ⟨i + 1, by omega, by omega, ?_, by (repeat' (first | exact trivial | exact wkE_refl _ | refine And.intro ?_ ?_))⟩
    (repeat' (first | exact trivial | refine And.intro (by with_reducible rfl) ?_ | (with_reducible exact wkC_refl _) | (with_reducible exact wkCs_refl _) | refine And.intro ?_ ?_))
    all_goals first | rfl | exact av_int (by rw [wrap_i64 (by omega)]; omega)
  · (first | refine wX ?_ | exact wZ)
theorem BContains_c (b : Nat) (l : List UInt8) (cap : Nat) (c : UInt8) (hl : l.length ≤ 1000) (hno : l.contains c = false) :
    ∀ H, (∀ w, Facts H w → SlAt (some ⟨b, 0, none⟩) l.length (u8s l) w) → SpecH Tryd.prog 62 (pvs [.slice (some ⟨b, 0, none⟩) l.length cap, .int .u8 (c.toNat : Int)]) H (Ret (.bool false) H) := by
  refine factC hm Tryd.func62 (by kernel_rfl) rfl rfl ?_
  (first | refine wX ?_ | exact wZ)
  refine call1 (BIndex_c b l cap c hl hno _ (fun w hw => hw.1)) ?_
  (first | refine wX ?_ | exact wZ)
  rfl
set_option maxHeartbeats 1000000 in
theorem sym_small (xb : Nat) (s : List UInt8) (p line : Nat) (l : List Tok) (ob : Option Nat) (cap here : Nat) (sp : Bool) {c : UInt8} (hc : s[p + 1]? = some c) (hsm : sml c = true) (hpk : ¬ pk s (p + 1 + (fullS s (p + 1)).length) = 61) (hl : l.length ≤ 900000) (hob : ob = none → l = []) (hs : s.length ≤ 1000000) :
    SpecH Tryd.prog 48 [.c (.v (.pointer (some ⟨xb, 0, none⟩)))] [scE xb s p line ob l.length cap here sp, toE l ob cap, .fact ScanF]
      (RetG (ι := Nat × Nat) (fun _ => True) (fun _ => .bool true) fun ⟨b, c⟩ => [scE xb s (p + 1 + (fullS s (p + 1)).length) line (some b) (l.length + 1) c here false, toE (l ++ [⟨6, fullS s (p + 1), sp, line, none, 0, 0⟩]) (some b) c, .fact ScanF]) := by
  -- c: what stands behind the colon
  refine ownC hm Tryd.func48 (by kernel_rfl) rfl rfl (fun _ _ => okHB_eq rfl) (fun _ _ => Nat.le_refl _) ?_
  have hz := bs_size s
  have hp1 : p + 1 < s.length := (List.getElem?_eq_some_iff.1 hc).1
  (first | refine wX ?_ | exact wZ)
  refine LdN.one (a := some ⟨xb, 0, none⟩) (q := 1) (.int .i64 ((p : Nat) : Int)) rfl (fun w hw => hw.1) rfl ?_
  (first | refine wX ?_ | exact wZ)
  refine LdN.one (a := some ⟨xb, 0, none⟩) (q := 0) (.string (bs s)) rfl (fun w hw => hw.1) rfl ?_
  (first | refine wX ?_ | exact wZ)
  rw [hz]
  try rw [show ((p : Int) + 1) = ((p + 1 : Nat) : Int) from rfl]
  refine brd_dec (fun h => absurd h (by omega)) (fun _ => ?_)
  (first | refine wX ?_ | exact wZ)
  refine LdN.one (a := some ⟨xb, 0, none⟩) (q := 2) (.int .i64 ((line : Nat) : Int)) rfl (fun w hw => hw.1) rfl ?_
  (first | refine wX ?_ | exact wZ)
  refine LdN.one (a := some ⟨xb, 0, none⟩) (q := 0) (.string (bs s)) rfl (fun w hw => hw.1) rfl ?_
  (first | refine wX ?_ | exact wZ)
  try rw [show ((p : Int) + 1) = ((p + 1 : Nat) : Int) from rfl]
  try refine Nd.mk ⟨by omega, by omega⟩ ?_
  (first | refine wX ?_ | exact wZ)
  rw [Int.toNat_natCast, byteAt_get hc]
  refine call1 (sml_c c _) ?_
  rw [hsm]
  (first | refine wX ?_ | exact wZ)
  -- the name behind the colon is read, its last byte looked at, and what stands behind it
  have hfl := (full_ne hc (sml_wrd hsm).1).2
  have hfb := fullS_le s (p + 1) (by omega)
  refine EffW.appTo (i := 0) (q := 1) (ys := [_]) (scC s (p + 1) line ob l.length cap here sp) 6 rfl rfl rfl rfl rfl rfl rfl (Nat.le_of_ble_eq_true rfl) rfl rfl ?_
  (first | refine wX ?_ | exact wZ)
  refine callG (full_c xb s (p + 1) line ob l.length cap here sp hs (by omega)) [0] rfl ⟨rfl, trivial⟩ rfl fun _ _ => ?_
  generalize hf : fullS s (p + 1) = f at *
  obtain ⟨q, hq⟩ : ∃ q, p + 1 + f.length = q := ⟨_, rfl⟩
  rw [hq] at hpk hfb ⊢
  obtain ⟨d, hd⟩ : ∃ d, f[f.length - 1]? = some d := ⟨_, List.getElem?_eq_getElem (by omega)⟩
  have hfz := bs_size f
  have hw1 : IntKind.i64.wrap ((f.length : Int) - 1) = ((f.length - 1 : Nat) : Int) := by rw [wrap_i64 (by omega)]; omega
  (first | refine wX ?_ | exact wZ)
  rw [hfz, hw1]
  refine Nd.mk ⟨by omega, by omega⟩ ?_
  (first | refine wX ?_ | exact wZ)
  rw [Int.toNat_natCast, byteAt_get hd]
  refine call1 (peek_c xb s q line ob l.length cap here sp 0 (by omega) (by decide) _ (fun w hw => hw.1)) ?_
  rw [Nat.add_zero]
  have e61 : (((pk s q).toNat : Int) == 61) = false := (u8_eq (n := 61) (by decide)).trans (by simpa using hpk)
  (first | refine wX ?_ | exact wZ)
  rw [e61]
  (first | refine wX ?_ | exact wZ)
  refine callG (add_c xb s q line l ob cap here sp 6 f line (by omega) hob) [0, 1] rfl ⟨rfl, rfl, trivial⟩ rfl fun ⟨b1, c1⟩ _ => ?_
  (first | refine wX ?_ | exact wZ)
  exact ⟨(b1, c1), trivial, rfl, wkE_refl _, wkE_refl _, wkE_refl _, wkH_nil _⟩
set_option maxHeartbeats 1000000 in
theorem sym_upper (xb : Nat) (s : List UInt8) (p line : Nat) (l : List Tok) (ob : Option Nat) (cap here : Nat) (sp : Bool) {c : UInt8} (hc : s[p + 1]? = some c) (hsm : sml c = false) (hlt : ltr c = true) (hl : l.length ≤ 900000) (hob : ob = none → l = []) (hs : s.length ≤ 1000000) :
    SpecH Tryd.prog 48 [.c (.v (.pointer (some ⟨xb, 0, none⟩)))] [scE xb s p line ob l.length cap here sp, toE l ob cap, .fact ScanF]
      (RetG (ι := Nat × Nat) (fun _ => True) (fun _ => .bool true) fun ⟨b, c⟩ => [scE xb s (p + 1 + (wordS s (p + 1)).length) line (some b) (l.length + 1) c here false, toE (l ++ [⟨6, wordS s (p + 1), sp, line, none, 0, 0⟩]) (some b) c, .fact ScanF]) := by
  -- c: what stands behind the colon
  refine ownC hm Tryd.func48 (by kernel_rfl) rfl rfl (fun _ _ => okHB_eq rfl) (fun _ _ => Nat.le_refl _) ?_
  have hz := bs_size s
  have hp1 : p + 1 < s.length := (List.getElem?_eq_some_iff.1 hc).1
  (first | refine wX ?_ | exact wZ)
  refine LdN.one (a := some ⟨xb, 0, none⟩) (q := 1) (.int .i64 ((p : Nat) : Int)) rfl (fun w hw => hw.1) rfl ?_
  (first | refine wX ?_ | exact wZ)
  refine LdN.one (a := some ⟨xb, 0, none⟩) (q := 0) (.string (bs s)) rfl (fun w hw => hw.1) rfl ?_
  (first | refine wX ?_ | exact wZ)
  rw [hz]
  try rw [show ((p : Int) + 1) = ((p + 1 : Nat) : Int) from rfl]
  refine brd_dec (fun h => absurd h (by omega)) (fun _ => ?_)
  (first | refine wX ?_ | exact wZ)
  refine LdN.one (a := some ⟨xb, 0, none⟩) (q := 2) (.int .i64 ((line : Nat) : Int)) rfl (fun w hw => hw.1) rfl ?_
  (first | refine wX ?_ | exact wZ)
  refine LdN.one (a := some ⟨xb, 0, none⟩) (q := 0) (.string (bs s)) rfl (fun w hw => hw.1) rfl ?_
  (first | refine wX ?_ | exact wZ)
  try rw [show ((p : Int) + 1) = ((p + 1 : Nat) : Int) from rfl]
  try refine Nd.mk ⟨by omega, by omega⟩ ?_
  (first | refine wX ?_ | exact wZ)
  rw [Int.toNat_natCast, byteAt_get hc]
  refine call1 (sml_c c _) ?_
  rw [hsm]
  (first | refine wX ?_ | exact wZ)
  refine call1 (ltr_c c _) ?_
  rw [hlt]
  (first | refine wX ?_ | exact wZ)
  refine EffW.appTo (i := 0) (q := 1) (ys := [_]) (scC s (p + 1) line ob l.length cap here sp) 6 rfl rfl rfl rfl rfl rfl rfl (Nat.le_of_ble_eq_true rfl) rfl rfl ?_
  (first | refine wX ?_ | exact wZ)
  refine callG (word_c xb s (p + 1) line ob l.length cap here sp hs (by omega)) [0] rfl ⟨rfl, trivial⟩ rfl fun _ _ => ?_
  (first | refine wX ?_ | exact wZ)
  refine callG (add_c xb s (p + 1 + (wordS s (p + 1)).length) line l ob cap here sp 6 (wordS s (p + 1)) line (by omega) hob) [0, 1] rfl ⟨rfl, rfl, trivial⟩ rfl fun ⟨b1, c1⟩ _ => ?_
  (first | refine wX ?_ | exact wZ)
  exact ⟨(b1, c1), trivial, rfl, wkE_refl _, wkE_refl _, wkE_refl _, wkH_nil _⟩
set_option maxHeartbeats 1000000 in
theorem sym_ivar (xb : Nat) (s : List UInt8) (p line : Nat) (l : List Tok) (ob : Option Nat) (cap here : Nat) (sp : Bool) {d : UInt8} (hc : s[p + 1]? = some 64) (hd : s[p + 2]? = some d) (hsm : sml d = true) (hl : l.length ≤ 900000) (hob : ob = none → l = []) (hs : s.length ≤ 1000000) :
    SpecH Tryd.prog 48 [.c (.v (.pointer (some ⟨xb, 0, none⟩)))] [scE xb s p line ob l.length cap here sp, toE l ob cap, .fact ScanF]
      (RetG (ι := Nat × Nat) (fun _ => True) (fun _ => .bool true) fun ⟨b, c⟩ => [scE xb s (p + 2 + (wordS s (p + 2)).length) line (some b) (l.length + 1) c here false, toE (l ++ [⟨6, 64 :: wordS s (p + 2), sp, line, none, 0, 0⟩]) (some b) c, .fact ScanF]) := by
  -- 64: what stands behind the colon
  refine ownC hm Tryd.func48 (by kernel_rfl) rfl rfl (fun _ _ => okHB_eq rfl) (fun _ _ => Nat.le_refl _) ?_
  have hz := bs_size s
  have hp1 : p + 1 < s.length := (List.getElem?_eq_some_iff.1 hc).1
  (first | refine wX ?_ | exact wZ)
  refine LdN.one (a := some ⟨xb, 0, none⟩) (q := 1) (.int .i64 ((p : Nat) : Int)) rfl (fun w hw => hw.1) rfl ?_
  (first | refine wX ?_ | exact wZ)
  refine LdN.one (a := some ⟨xb, 0, none⟩) (q := 0) (.string (bs s)) rfl (fun w hw => hw.1) rfl ?_
  (first | refine wX ?_ | exact wZ)
  rw [hz]
  try rw [show ((p : Int) + 1) = ((p + 1 : Nat) : Int) from rfl]
  refine brd_dec (fun h => absurd h (by omega)) (fun _ => ?_)
  (first | refine wX ?_ | exact wZ)
  refine LdN.one (a := some ⟨xb, 0, none⟩) (q := 2) (.int .i64 ((line : Nat) : Int)) rfl (fun w hw => hw.1) rfl ?_
  (first | refine wX ?_ | exact wZ)
  refine LdN.one (a := some ⟨xb, 0, none⟩) (q := 0) (.string (bs s)) rfl (fun w hw => hw.1) rfl ?_
  (first | refine wX ?_ | exact wZ)
  try rw [show ((p : Int) + 1) = ((p + 1 : Nat) : Int) from rfl]
  try refine Nd.mk ⟨by omega, by omega⟩ ?_
  (first | refine wX ?_ | exact wZ)
  rw [Int.toNat_natCast, byteAt_get hc]
  refine call1 (sml_c 64 _) ?_
  have hp2 : p + 2 < s.length := (List.getElem?_eq_some_iff.1 hd).1
  have hw2 : IntKind.i64.wrap (((p + 1 : Nat) : Int) + 1) = ((p + 2 : Nat) : Int) := by rw [wrap_i64 (by omega)]; omega
  have hwl := wordS_le s (p + 2) (by omega)
  (first | refine wX ?_ | exact wZ)
  refine call1 (ltr_c 64 _) ?_
  (first | refine wX ?_ | exact wZ)
  refine LdN.one (a := some ⟨xb, 0, none⟩) (q := 0) (.string (bs s)) rfl (fun w hw => hw.1) rfl ?_
  (first | refine wX ?_ | exact wZ)
  rw [hz, hw2]
  refine brd_dec (fun _ => ?_) (fun h => absurd (show ((p + 2 : Nat) : Int) < (s.length : Int) by omega) h)
  (first | refine wX ?_ | exact wZ)
  refine LdN.one (a := some ⟨xb, 0, none⟩) (q := 0) (.string (bs s)) rfl (fun w hw => hw.1) rfl ?_
  (first | refine wX ?_ | exact wZ)
  try rw [hw2]
  try refine Nd.mk ⟨by omega, by omega⟩ ?_
  (first | refine wX ?_ | exact wZ)
  try rw [hw2]
  rw [Int.toNat_natCast, byteAt_get hd]
  refine call1 (sml_c d _) ?_
  rw [hsm]
  (first | refine wX ?_ | exact wZ)
  refine EffW.appTo (i := 0) (q := 1) (ys := [_]) (scC s (p + 2) line ob l.length cap here sp) 6 rfl rfl rfl rfl rfl rfl rfl (Nat.le_of_ble_eq_true rfl) (by
    show [_, Value.int .i64 _, _, _, _, _] = [_, Value.int .i64 _, _, _, _, _]
    rw [hw2]) rfl ?_
  (first | refine wX ?_ | exact wZ)
  refine callG (word_c xb s (p + 2) line ob l.length cap here sp hs (by omega)) [0] rfl ⟨rfl, trivial⟩ rfl fun _ _ => ?_
  (first | refine wX ?_ | exact wZ)
  refine Nd.mk (by rw [bs_size]; show 1 + _ < _; omega) ?_
  rw [show (⟨#[64]⟩ : ByteArray) = bs [64] from rfl, bs_app]
  (first | refine wX ?_ | exact wZ)
  refine callG (add_c xb s (p + 2 + (wordS s (p + 2)).length) line l ob cap here sp 6 (64 :: wordS s (p + 2)) line (by omega) hob) [0, 1] rfl ⟨rfl, rfl, trivial⟩ rfl fun ⟨b1, c1⟩ _ => ?_
  (first | refine wX ?_ | exact wZ)
  exact ⟨(b1, c1), trivial, rfl, wkE_refl _, wkE_refl _, wkE_refl _, wkH_nil _⟩
set_option maxHeartbeats 1000000 in
theorem sym_set (xb : Nat) (s : List UInt8) (p line : Nat) (l : List Tok) (ob : Option Nat) (cap here : Nat) (sp : Bool) {c : UInt8} (hc : s[p + 1]? = some c) (hsm : sml c = true) (hpk : pk s (p + 1 + (fullS s (p + 1)).length) = 61) (hpk2 : [61, 126, 62].contains (pk s (p + 1 + (fullS s (p + 1)).length + 1)) = false) (hdl : ∀ d, (fullS s (p + 1))[(fullS s (p + 1)).length - 1]? = some d → ¬ d = 63 ∧ ¬ d = 33) (hl : l.length ≤ 900000) (hob : ob = none → l = []) (hs : s.length ≤ 1000000) :
    SpecH Tryd.prog 48 [.c (.v (.pointer (some ⟨xb, 0, none⟩)))] [scE xb s p line ob l.length cap here sp, toE l ob cap, .fact ScanF]
      (RetG (ι := Nat × Nat) (fun _ => True) (fun _ => .bool true) fun ⟨b, c⟩ => [scE xb s (p + 1 + (fullS s (p + 1)).length + 1) line (some b) (l.length + 1) c here false, toE (l ++ [⟨6, fullS s (p + 1) ++ [61], sp, line, none, 0, 0⟩]) (some b) c, .fact ScanF]) := by
  -- c: what stands behind the colon
  refine ownC hm Tryd.func48 (by kernel_rfl) rfl rfl (fun _ _ => okHB_eq rfl) (fun _ _ => Nat.le_refl _) ?_
  have hz := bs_size s
  have hp1 : p + 1 < s.length := (List.getElem?_eq_some_iff.1 hc).1
  (first | refine wX ?_ | exact wZ)
  refine LdN.one (a := some ⟨xb, 0, none⟩) (q := 1) (.int .i64 ((p : Nat) : Int)) rfl (fun w hw => hw.1) rfl ?_
  (first | refine wX ?_ | exact wZ)
  refine LdN.one (a := some ⟨xb, 0, none⟩) (q := 0) (.string (bs s)) rfl (fun w hw => hw.1) rfl ?_
  (first | refine wX ?_ | exact wZ)
  rw [hz]
  try rw [show ((p : Int) + 1) = ((p + 1 : Nat) : Int) from rfl]
  refine brd_dec (fun h => absurd h (by omega)) (fun _ => ?_)
  (first | refine wX ?_ | exact wZ)
  refine LdN.one (a := some ⟨xb, 0, none⟩) (q := 2) (.int .i64 ((line : Nat) : Int)) rfl (fun w hw => hw.1) rfl ?_
  (first | refine wX ?_ | exact wZ)
  refine LdN.one (a := some ⟨xb, 0, none⟩) (q := 0) (.string (bs s)) rfl (fun w hw => hw.1) rfl ?_
  (first | refine wX ?_ | exact wZ)
  try rw [show ((p : Int) + 1) = ((p + 1 : Nat) : Int) from rfl]
  try refine Nd.mk ⟨by omega, by omega⟩ ?_
  (first | refine wX ?_ | exact wZ)
  rw [Int.toNat_natCast, byteAt_get hc]
  refine call1 (sml_c c _) ?_
  rw [hsm]
  (first | refine wX ?_ | exact wZ)
  -- the name behind the colon is read, its last byte looked at, and what stands behind it
  have hfl := (full_ne hc (sml_wrd hsm).1).2
  have hfb := fullS_le s (p + 1) (by omega)
  refine EffW.appTo (i := 0) (q := 1) (ys := [_]) (scC s (p + 1) line ob l.length cap here sp) 6 rfl rfl rfl rfl rfl rfl rfl (Nat.le_of_ble_eq_true rfl) rfl rfl ?_
  (first | refine wX ?_ | exact wZ)
  refine callG (full_c xb s (p + 1) line ob l.length cap here sp hs (by omega)) [0] rfl ⟨rfl, trivial⟩ rfl fun _ _ => ?_
  generalize hf : fullS s (p + 1) = f at *
  obtain ⟨q, hq⟩ : ∃ q, p + 1 + f.length = q := ⟨_, rfl⟩
  rw [hq] at hpk hfb ⊢
  obtain ⟨d, hd⟩ : ∃ d, f[f.length - 1]? = some d := ⟨_, List.getElem?_eq_getElem (by omega)⟩
  have hfz := bs_size f
  have hw1 : IntKind.i64.wrap ((f.length : Int) - 1) = ((f.length - 1 : Nat) : Int) := by rw [wrap_i64 (by omega)]; omega
  (first | refine wX ?_ | exact wZ)
  rw [hfz, hw1]
  refine Nd.mk ⟨by omega, by omega⟩ ?_
  (first | refine wX ?_ | exact wZ)
  rw [Int.toNat_natCast, byteAt_get hd]
  refine call1 (peek_c xb s q line ob l.length cap here sp 0 (by omega) (by decide) _ (fun w hw => hw.1)) ?_
  rw [Nat.add_zero]
  rw [hq] at hpk2
  obtain ⟨hd1, hd2⟩ := hdl d hd
  have e63 : ((d.toNat : Int) == 63) = false := (u8_eq (n := 63) (by decide)).trans (by simpa using hd1)
  have e33 : ((d.toNat : Int) == 33) = false := (u8_eq (n := 33) (by decide)).trans (by simpa using hd2)
  have hqs := pk_lt hpk (by decide)
  rw [hpk]
  ((conv => whnf); (repeat ((first | refine BoxN.own ?_ | refine VrN.norm (wrap_i64 (by omega)) ?_ | refine VrN.keep ?_ | refine DrawN.calm (by decide +kernel) ?_ | refine Nd.mk (by decide +kernel) ?_ | refine Nd.mk (by omega) ?_ | (refine Nd.mk ?_ ?_; focus ((repeat' (first | exact trivial | exact wkE_refl _ | refine And.intro ?_ ?_)); done)) | refine RdN.intro _ rfl (by rfl) ?_); (conv => whnf))))
  rw [bne, e63]
  ((conv => whnf); (repeat ((first | refine BoxN.own ?_ | refine VrN.norm (wrap_i64 (by omega)) ?_ | refine VrN.keep ?_ | refine DrawN.calm (by decide +kernel) ?_ | refine Nd.mk (by decide +kernel) ?_ | refine Nd.mk (by omega) ?_ | (refine Nd.mk ?_ ?_; focus ((repeat' (first | exact trivial | exact wkE_refl _ | refine And.intro ?_ ?_)); done)) | refine RdN.intro _ rfl (by rfl) ?_); (conv => whnf))))
  rw [bne, e33]
  ((conv => whnf); (repeat ((first | refine BoxN.own ?_ | refine VrN.norm (wrap_i64 (by omega)) ?_ | refine VrN.keep ?_ | refine DrawN.calm (by decide +kernel) ?_ | refine Nd.mk (by decide +kernel) ?_ | refine Nd.mk (by omega) ?_ | (refine Nd.mk ?_ ?_; focus ((repeat' (first | exact trivial | exact wkE_refl _ | refine And.intro ?_ ?_)); done)) | refine RdN.intro _ rfl (by rfl) ?_); (conv => whnf))))
  refine RwN.known (u8s [61, 126, 62]) rfl fun rb => ?_
  ((conv => whnf); (repeat ((first | refine BoxN.own ?_ | refine VrN.norm (wrap_i64 (by omega)) ?_ | refine VrN.keep ?_ | refine DrawN.calm (by decide +kernel) ?_ | refine Nd.mk (by decide +kernel) ?_ | refine Nd.mk (by omega) ?_ | (refine Nd.mk ?_ ?_; focus ((repeat' (first | exact trivial | exact wkE_refl _ | refine And.intro ?_ ?_)); done)) | refine RdN.intro _ rfl (by rfl) ?_); (conv => whnf))))
  refine EffW.constB 3 rfl Tryd.underlying34 Tryd.underlying5 rfl rfl ?_
  ((conv => whnf); (repeat ((first | refine BoxN.own ?_ | refine VrN.norm (wrap_i64 (by omega)) ?_ | refine VrN.keep ?_ | refine DrawN.calm (by decide +kernel) ?_ | refine Nd.mk (by decide +kernel) ?_ | refine Nd.mk (by omega) ?_ | (refine Nd.mk ?_ ?_; focus ((repeat' (first | exact trivial | exact wkE_refl _ | refine And.intro ?_ ?_)); done)) | refine RdN.intro _ rfl (by rfl) ?_); (conv => whnf))))
  refine call1 (peek_c xb s q line ob l.length cap here sp 1 (by omega) (by decide) _ (fun w hw => hw.1)) ?_
  ((conv => whnf); (repeat ((first | refine BoxN.own ?_ | refine VrN.norm (wrap_i64 (by omega)) ?_ | refine VrN.keep ?_ | refine DrawN.calm (by decide +kernel) ?_ | refine Nd.mk (by decide +kernel) ?_ | refine Nd.mk (by omega) ?_ | (refine Nd.mk ?_ ?_; focus ((repeat' (first | exact trivial | exact wkE_refl _ | refine And.intro ?_ ?_)); done)) | refine RdN.intro _ rfl (by rfl) ?_); (conv => whnf))))
  refine call1 (BContains_c rb [61, 126, 62] 3 (pk s (q + 1)) (by decide) hpk2 _ (fun w hw => hw.2.2.2.1)) ?_
  ((conv => whnf); (repeat ((first | refine BoxN.own ?_ | refine VrN.norm (wrap_i64 (by omega)) ?_ | refine VrN.keep ?_ | refine DrawN.calm (by decide +kernel) ?_ | refine Nd.mk (by decide +kernel) ?_ | refine Nd.mk (by omega) ?_ | (refine Nd.mk ?_ ?_; focus ((repeat' (first | exact trivial | exact wkE_refl _ | refine And.intro ?_ ?_)); done)) | refine RdN.intro _ rfl (by rfl) ?_); (conv => whnf))))
  refine LdN.one (a := some ⟨xb, 0, none⟩) (q := 1) (.int .i64 ((q : Nat) : Int)) rfl (fun w hw => hw.1) rfl ?_
  ((conv => whnf); (repeat ((first | refine BoxN.own ?_ | refine VrN.norm (wrap_i64 (by omega)) ?_ | refine VrN.keep ?_ | refine DrawN.calm (by decide +kernel) ?_ | refine Nd.mk (by decide +kernel) ?_ | refine Nd.mk (by omega) ?_ | (refine Nd.mk ?_ ?_; focus ((repeat' (first | exact trivial | exact wkE_refl _ | refine And.intro ?_ ?_)); done)) | refine RdN.intro _ rfl (by rfl) ?_); (conv => whnf))))
  refine EffW.appTo (i := 0) (q := 1) (ys := [_]) (scC s (q + 1) line ob l.length cap here sp) 6 rfl rfl rfl rfl rfl rfl rfl (Nat.le_of_ble_eq_true rfl) (by
    show [_, Value.int .i64 _, _, _, _, _] = [_, Value.int .i64 _, _, _, _, _]
    rw [wrap_i64 (by omega)]
    rfl) rfl ?_
  ((conv => whnf); (repeat ((first | refine BoxN.own ?_ | refine VrN.norm (wrap_i64 (by omega)) ?_ | refine VrN.keep ?_ | refine DrawN.calm (by decide +kernel) ?_ | refine Nd.mk (by decide +kernel) ?_ | refine Nd.mk (by omega) ?_ | (refine Nd.mk ?_ ?_; focus ((repeat' (first | exact trivial | exact wkE_refl _ | refine And.intro ?_ ?_)); done)) | refine RdN.intro _ rfl (by rfl) ?_); (conv => whnf))))
  refine Nd.mk (by rw [bs_size]; show _ + 1 < _; omega) ?_
  rw [show (⟨#[61]⟩ : ByteArray) = bs [61] from rfl, bs_app]
  ((conv => whnf); (repeat ((first | refine BoxN.own ?_ | refine VrN.norm (wrap_i64 (by omega)) ?_ | refine VrN.keep ?_ | refine DrawN.calm (by decide +kernel) ?_ | refine Nd.mk (by decide +kernel) ?_ | refine Nd.mk (by omega) ?_ | (refine Nd.mk ?_ ?_; focus ((repeat' (first | exact trivial | exact wkE_refl _ | refine And.intro ?_ ?_)); done)) | refine RdN.intro _ rfl (by rfl) ?_); (conv => whnf))))
  refine callG (add_c xb s (q + 1) line l ob cap here sp 6 (f ++ [61]) line (by omega) hob) [0, 1] rfl ⟨rfl, rfl, trivial⟩ rfl fun ⟨b1, c1⟩ _ => ?_
  ((conv => whnf); (repeat ((first | refine BoxN.own ?_ | refine VrN.norm (wrap_i64 (by omega)) ?_ | refine VrN.keep ?_ | refine DrawN.calm (by decide +kernel) ?_ | refine Nd.mk (by decide +kernel) ?_ | refine Nd.mk (by omega) ?_ | (refine Nd.mk ?_ ?_; focus ((repeat' (first | exact trivial | exact wkE_refl _ | refine And.intro ?_ ?_)); done)) | refine RdN.intro _ rfl (by rfl) ?_); (conv => whnf))))
  exact ⟨(b1, c1), trivial, rfl, wkE_refl _, wkE_refl _, wkE_refl _, wkH_nil _⟩
set_option maxHeartbeats 1000000 in
theorem sym_op (xb : Nat) (s : List UInt8) (p line : Nat) (l : List Tok) (ob : Option Nat) (cap here : Nat) (sp : Bool) {c : UInt8} (hc : s[p + 1]? = some c) (hlt : ltr c = false) (h64 : ¬ c = 64) (best : List UInt8) (hbest : bestS (s.drop (p + 1)) opL = best) (hne : best ≠ []) (hbl : best.length ≤ 1000) (hl : l.length ≤ 900000) (hob : ob = none → l = []) (hs : s.length ≤ 1000000) :
    SpecH Tryd.prog 48 [.c (.v (.pointer (some ⟨xb, 0, none⟩)))] [scE xb s p line ob l.length cap here sp, toE l ob cap, .fact ScanF]
      (RetG (ι := Nat × Nat) (fun _ => True) (fun _ => .bool true) fun ⟨b, c⟩ => [scE xb s (p + 1 + best.length) line (some b) (l.length + 1) c here false, toE (l ++ [⟨6, best, sp, line, none, 0, 0⟩]) (some b) c, .fact ScanF]) := by
  have hsm : sml c = false := by
    cases h : sml c with
    | false => rfl
    | true => rw [(sml_wrd h).2.1] at hlt; cases hlt
  have e64 : ((c.toNat : Int) == 64) = false := (u8_eq (n := 64) (by decide)).trans (by simpa using h64)
  -- c: what stands behind the colon
  refine ownC hm Tryd.func48 (by kernel_rfl) rfl rfl (fun _ _ => okHB_eq rfl) (fun _ _ => Nat.le_refl _) ?_
  have hz := bs_size s
  have hp1 : p + 1 < s.length := (List.getElem?_eq_some_iff.1 hc).1
  (first | refine wX ?_ | exact wZ)
  refine LdN.one (a := some ⟨xb, 0, none⟩) (q := 1) (.int .i64 ((p : Nat) : Int)) rfl (fun w hw => hw.1) rfl ?_
  (first | refine wX ?_ | exact wZ)
  refine LdN.one (a := some ⟨xb, 0, none⟩) (q := 0) (.string (bs s)) rfl (fun w hw => hw.1) rfl ?_
  (first | refine wX ?_ | exact wZ)
  rw [hz]
  try rw [show ((p : Int) + 1) = ((p + 1 : Nat) : Int) from rfl]
  refine brd_dec (fun h => absurd h (by omega)) (fun _ => ?_)
  (first | refine wX ?_ | exact wZ)
  refine LdN.one (a := some ⟨xb, 0, none⟩) (q := 2) (.int .i64 ((line : Nat) : Int)) rfl (fun w hw => hw.1) rfl ?_
  (first | refine wX ?_ | exact wZ)
  refine LdN.one (a := some ⟨xb, 0, none⟩) (q := 0) (.string (bs s)) rfl (fun w hw => hw.1) rfl ?_
  (first | refine wX ?_ | exact wZ)
  try rw [show ((p : Int) + 1) = ((p + 1 : Nat) : Int) from rfl]
  try refine Nd.mk ⟨by omega, by omega⟩ ?_
  (first | refine wX ?_ | exact wZ)
  rw [Int.toNat_natCast, byteAt_get hc]
  refine call1 (sml_c c _) ?_
  rw [hsm]
  (first | refine wX ?_ | exact wZ)
  refine call1 (ltr_c c _) ?_
  rw [hlt]
  (first | refine wX ?_ | exact wZ)
  rw [e64]
  (first | refine wX ?_ | exact wZ)
  refine SpecF.call Operators_c (fun w hw => hw.1) fun v G hR => ?_
  obtain ⟨fb, rfl, hG⟩ := hR
  have hfn : opL.length = 16 := rfl
  generalize opL = fs at *
  (first | refine wX ?_ | exact wZ)
  refine loopS Nat (fun i => i ≤ 16) (fun i => mkS Tryd.f48.ntmps 0 [(0, .c (.v (.pointer (some ⟨xb, 0, none⟩)))), (3, .c (.v (.int .i64 ((p + 1 : Nat) : Int)))), (4, .c (.v (.int .i64 (line : Int)))), (8, .c (.v (.string (bs (bestS (s.drop (p + 1)) (fs.take i)))))), (125, .c (.v (.slice (some ⟨fb, 0, none⟩) 16 16))), (126, .c (.v (.int .i64 16))), (127, .c (.v (.int .i64 (i : Int))))]) (fun i => 16 - i) rfl (fun _ => rfl) 0 (Nat.zero_le _) ?_ ?_
  · (repeat' (first | exact trivial | refine And.intro (by with_reducible rfl) ?_ | (with_reducible exact wkC_refl _) | (with_reducible exact wkCs_refl _) | refine And.intro ?_ ?_))
    all_goals rfl
  intro i hi
  (first | refine wX ?_ | exact wZ)
  refine brd_dec (fun h1 => ?_) (fun h1 => ?_)
  · obtain ⟨f, hf⟩ : ∃ f, fs[i]? = some f := ⟨_, List.getElem?_eq_getElem (by omega)⟩
    (first | refine wX ?_ | exact wZ)
    try refine Nd.mk ⟨rfl, by omega, by omega⟩ ?_
    (first | refine wX ?_ | exact wZ)
    refine LdN.one (.string (bs f)) rfl (fun w hw => hG w hw.2.2.2.1) (by show (strsC fs)[Int.toNat _ * 1]? = _; rw [Int.toNat_natCast, Nat.mul_one]; exact strsC_get hf) ?_
    (first | refine wX ?_ | exact wZ)
    have hsn : bestS (s.drop (p + 1)) (fs.take (i + 1)) = bestF (s.drop (p + 1)) (bestS (s.drop (p + 1)) (fs.take i)) f := by rw [List.take_add_one, hf]; exact bestS_snoc _ _ _
    have hbz := bs_size (bestS (s.drop (p + 1)) (fs.take i))
    have hfz := bs_size f
    generalize bestS (s.drop (p + 1)) (fs.take i) = bst at *
    refine LdN.one (a := some ⟨xb, 0, none⟩) (q := 0) (.string (bs s)) rfl (fun w hw => hw.1) rfl ?_
    (first | refine wX ?_ | exact wZ)
    refine ReadW.sl_l (p + 1) rfl Tryd.underlying9 rfl rfl ⟨rfl, by omega⟩ ?_
    (first | refine wX ?_ | exact wZ)
    refine call1 (HasPrefix_c (s.drop (p + 1)) f _) ?_
    cases hpf : f.isPrefixOf (s.drop (p + 1)) with
    | false =>
      have hs2 : bestF (s.drop (p + 1)) bst f = bst := by unfold bestF; rw [hpf]; rfl
      (first | refine wX ?_ | exact wZ)
      refine ⟨i + 1, by omega, by omega, ?_, by (repeat' (first | exact trivial | exact wkE_refl _ | refine And.intro ?_ ?_))⟩
      rw [hsn, hs2]
      (repeat' (first | exact trivial | refine And.intro (by with_reducible rfl) ?_ | (with_reducible exact wkC_refl _) | (with_reducible exact wkCs_refl _) | refine And.intro ?_ ?_))
      all_goals first | rfl | exact av_int (by rw [wrap_i64 (by omega)]; omega)
    | true =>
      (first | refine wX ?_ | exact wZ)
      rw [hbz, hfz]
      refine brd_dec (fun h2 => ?_) (fun h2 => ?_)
      · have hs2 : bestF (s.drop (p + 1)) bst f = f := by unfold bestF; rw [hpf, decide_eq_true (by omega)]; rfl
        (first | refine wX ?_ | exact wZ)
        refine ⟨i + 1, by omega, by omega, ?_, by (repeat' (first | exact trivial | exact wkE_refl _ | refine And.intro ?_ ?_))⟩
        rw [hsn, hs2]
        (repeat' (first | exact trivial | refine And.intro (by with_reducible rfl) ?_ | (with_reducible exact wkC_refl _) | (with_reducible exact wkCs_refl _) | refine And.intro ?_ ?_))
        all_goals first | rfl | exact av_int (by rw [wrap_i64 (by omega)]; omega)
      · have hs2 : bestF (s.drop (p + 1)) bst f = bst := by unfold bestF; rw [hpf, decide_eq_false (by omega)]; rfl
        (first | refine wX ?_ | exact wZ)
        refine ⟨i + 1, by omega, by omega, ?_, by (repeat' (first | exact trivial | exact wkE_refl _ | refine And.intro ?_ ?_))⟩
        rw [hsn, hs2]
        (repeat' (first | exact trivial | refine And.intro (by with_reducible rfl) ?_ | (with_reducible exact wkC_refl _) | (with_reducible exact wkCs_refl _) | refine And.intro ?_ ?_))
        all_goals first | rfl | exact av_int (by rw [wrap_i64 (by omega)]; omega)
  · have hie : i = 16 := by omega
    subst hie
    rw [List.take_of_length_le (by omega), hbest]
    have hbz := bs_size best
    obtain ⟨c0, r0, hcr⟩ : ∃ c0 r0, best = c0 :: r0 := by
      cases best with
      | nil => exact absurd rfl hne
      | cons c r => exact ⟨c, r, rfl⟩
    subst hcr
    (first | refine wX ?_ | exact wZ)
    refine EffW.appTo (i := 0) (q := 1) (ys := [_]) (scC s (p + 1 + (c0 :: r0).length) line ob l.length cap here sp) 6 rfl rfl rfl rfl rfl rfl rfl (Nat.le_of_ble_eq_true rfl) (by
      show [_, Value.int .i64 _, _, _, _, _] = [_, Value.int .i64 _, _, _, _, _]
      rw [hbz, wrap_i64 (by omega)]
      rfl) rfl ?_
    (first | refine wX ?_ | exact wZ)
    refine callG (add_c xb s (p + 1 + (c0 :: r0).length) line l ob cap here sp 6 (c0 :: r0) line (by omega) hob) [0, 1] rfl ⟨rfl, rfl, trivial⟩ rfl fun ⟨b1, c1⟩ _ => ?_
    (first | refine wX ?_ | exact wZ)
    exact ⟨(b1, c1), trivial, rfl, wkE_refl _, wkE_refl _, wkE_refl _, wkH_nil _⟩
end Go.Proofs.YteejemdibfbccaaDoor

/-
  Contract: ScanLong (law): texts of one letter, of just the limit and more.
-/
namespace Go.Proofs.YteejemdibfbccaaDoor
open Go.AX Go.RowKit Go.Scan
set_option maxRecDepth 20000

theorem next_one {s : List UInt8} {k : Int} {c : UInt8} (hc : s[0]? = some c) (hl : ltr c = true) (hs : s.length ≤ 20000) (hW : wordW s 0 = s) (hK : wordsK s 0 [] = (k, s.length)) : NextOne s ⟨k, s, false, 1, none, 0, 0⟩ := fun xb cap ob => by
  have := next_letter xb s 0 1 [] ob cap 0 false hc hl (by decide) (fun _ => rfl) (by omega)
  rw [hW, hK] at this
  exact this
def fillC (N i : Nat) : List Value := List.replicate i (.int .u8 97) ++ List.replicate (N - i) (.int .u8 0)
theorem fillC_len {N i : Nat} (h : i ≤ N) : (fillC N i).length = N := by
  unfold fillC
  rw [List.length_append, List.length_replicate, List.length_replicate]
  omega
end Go.Proofs.YteejemdibfbccaaDoor

/-
  Contracts: a colon; texts that are one token (program).
-/
namespace Go.Proofs.YteejemdibfbccaaDoor
open Go.AX Go.RowKit Go.Scan
set_option maxRecDepth 20000

set_option maxHeartbeats 1000000 in
theorem next_colon (xb : Nat) (s : List UInt8) (p line : Nat) (l : List Tok) (ob : Option Nat) (cap here : Nat) (sp : Bool) (hc : s[p]? = some 58) (hpk : ¬ pk s (p + 1) = 58) (hs : s.length ≤ 1000000) (T : Tok) (q : Nat)
    (hsym : SpecH Tryd.prog 48 [.c (.v (.pointer (some ⟨xb, 0, none⟩)))] [scE xb s p line ob l.length cap here sp, toE l ob cap, .fact ScanF]
      (RetG (ι := Nat × Nat) (fun _ => True) (fun _ => .bool true) fun ⟨b, c⟩ => [scE xb s q line (some b) (l.length + 1) c here false, toE (l ++ [T]) (some b) c, .fact ScanF])) :
    SpecH Tryd.prog 24 [.c (.v (.pointer (some ⟨xb, 0, none⟩)))] [scE xb s p line ob l.length cap here sp, toE l ob cap, .fact ScanF]
      (RetG (ι := Nat × Nat) (fun _ => True) (fun _ => .tuple #[]) fun ⟨b, c⟩ => [scE xb s q line (some b) (l.length + 1) c here false, toE (l ++ [T]) (some b) c, .fact ScanF]) := by
  refine ownC hm Tryd.func24 (by kernel_rfl) rfl rfl (fun _ _ => okHB_eq rfl) (fun _ _ => Nat.le_refl _) ?_
  have hz := bs_size s
  have hp : p < s.length := (List.getElem?_eq_some_iff.1 hc).1
  (first | refine wX ?_ | exact wZ)
  refine LdN.one (a := some ⟨xb, 0, none⟩) (q := 0) (.string (bs s)) rfl (fun w hw => hw.1) rfl ?_
  (first | refine wX ?_ | exact wZ)
  refine LdN.one (a := some ⟨xb, 0, none⟩) (q := 1) (.int .i64 ((p : Nat) : Int)) rfl (fun w hw => hw.1) rfl ?_
  (first | refine wX ?_ | exact wZ)
  rw [Int.toNat_natCast, byteAt_get hc]
  (first | refine wX ?_ | exact wZ)
  refine call1 (blk_c 58 _) ?_
  (first | refine wX ?_ | exact wZ)
  refine call1 (ltr_c 58 _) ?_
  (first | refine wX ?_ | exact wZ)
  refine call1 (dig_c 58 _) ?_
  (first | refine wX ?_ | exact wZ)
  refine call1 (peek_c xb s p line ob l.length cap here sp 1 (by omega) (by decide) _ (fun w hw => hw.1)) ?_
  have e58 : (((pk s (p + 1)).toNat : Int) == 58) = false := (u8_eq (n := 58) (by decide)).trans (by simpa using hpk)
  (first | refine wX ?_ | exact wZ)
  rw [bne, e58]
  (first | refine wX ?_ | exact wZ)
  refine callG hsym [0, 1, 2] rfl ⟨rfl, rfl, rfl, trivial⟩ rfl fun ⟨b1, c1⟩ _ => ?_
  (first | refine wX ?_ | exact wZ)
  exact ⟨(b1, c1), trivial, rfl, wkE_refl _, wkE_refl _, wkE_refl _, wkH_nil _⟩
theorem pk_end (s : List UInt8) (i : Nat) (h : s.length ≤ i) : pk s i = 0 := by
  unfold pk
  rw [List.getElem?_eq_none h]
  rfl
theorem pk_cons (c : UInt8) (s : List UInt8) (i : Nat) : pk (c :: s) (i + 1) = pk s i := rfl
theorem word_cons (c : UInt8) (s : List UInt8) (i : Nat) : wordS (c :: s) (i + 1) = wordS s i := rfl
theorem full_cons (c : UInt8) (s : List UInt8) (i : Nat) : fullS (c :: s) (i + 1) = fullS s i := by
  have e : i + 1 + (wordS s i).length = i + (wordS s i).length + 1 := by omega
  unfold fullS
  simp only [word_cons, e, pk_cons]
/-- A name, by the document. -/
theorem name_full {s : List UInt8} (h : inB s = true) : 1 ≤ s.length ∧ s.length ≤ 40 ∧ sml (pk s 0) = true ∧ fullS s 0 = s := by
  rw [inB_eq] at h
  simp only [rnB, Bool.and_eq_true, Bool.not_eq_true', decide_eq_true_eq, beq_iff_eq, nameAtS] at h
  obtain ⟨⟨h1, h2⟩, h3⟩ := h
  have hne : s ≠ [] := fun e => by rw [e] at h1; cases h1
  have hl := List.length_pos_iff.2 hne
  split at h3
  · rename_i hsm
    exact ⟨hl, h2, hsm, h3⟩
  · exact absurd h3.symm hne
theorem const_word {s : List UInt8} (h : icB s = true) : 1 ≤ s.length ∧ s.length ≤ 40 ∧ sml (pk s 0) = false ∧ ltr (pk s 0) = true ∧ wordS s 0 = s := by
  rw [icB_eq] at h
  simp only [rcB, Bool.and_eq_true, Bool.not_eq_true', decide_eq_true_eq, beq_iff_eq, wordAtS] at h
  obtain ⟨⟨⟨h1, h2⟩, h3⟩, h4⟩ := h
  cases s with
  | nil => cases h1
  | cons c r =>
    have hg : grt c = true := h3
    have hp : pk (c :: r) 0 = c := rfl
    rw [hp, if_pos (grt_ltr hg)] at h4
    exact ⟨by simp, h2, ((grt_iff c).2 hg).2.2, grt_ltr hg, h4⟩
theorem ivar_word {s : List UInt8} (h : iiB s = true) : ∃ d r, s = 64 :: d :: r ∧ s.length ≤ 40 ∧ sml d = true ∧ wordS s 1 = d :: r := by
  rw [iiB_eq] at h
  simp only [riB, Bool.and_eq_true, decide_eq_true_eq, beq_iff_eq, wordAtS] at h
  obtain ⟨⟨⟨⟨h1, h2⟩, h3⟩, h4⟩, h5⟩ := h
  match s, h1 with
  | c :: d :: r, _ =>
    have hc : c = 64 := h3
    subst hc
    have hd : sml d = true := h4
    have hp : pk (64 :: d :: r) 1 = d := rfl
    rw [hp, if_pos (sml_wrd hd).2.1] at h5
    exact ⟨d, r, rfl, h2, hd, h5⟩
theorem at0_get {s : List UInt8} (h : 1 ≤ s.length) : s[0]? = some (pk s 0) := by
  cases s with
  | nil => simp at h
  | cons c r => rfl
theorem one_name {s : List UInt8} (h : inB s = true) : NextOne s ⟨if kwB s then 8 else 1, s, false, 1, none, 0, 0⟩ := by
  obtain ⟨h1, h2, h3, h4⟩ := name_full h
  have hW : wordW s 0 = s := by unfold wordW; rw [if_pos h3, h4]
  refine next_one (at0_get h1) (sml_wrd h3).2.1 (by omega) hW ?_
  unfold wordsK
  simp only [hW, Nat.zero_add, h3]
  rw [pk_end s s.length (Nat.le_refl _), if_neg (by simp)]
  cases kwB s <;> rfl
theorem one_const {s : List UInt8} (h : icB s = true) : NextOne s ⟨2, s, false, 1, none, 0, 0⟩ := by
  obtain ⟨h1, h2, h3, h4, h5⟩ := const_word h
  have hW : wordW s 0 = s := by unfold wordW; rw [if_neg (by simp [h3]), h5]
  refine next_one (at0_get h1) h4 (by omega) hW ?_
  unfold wordsK
  simp only [hW, Nat.zero_add, h3]
  rw [pk_end s s.length (Nat.le_refl _), if_neg (by simp)]
  rfl
theorem one_ivar {s : List UInt8} (h : iiB s = true) : NextOne s ⟨3, s, false, 1, none, 0, 0⟩ := fun xb cap ob => by
  obtain ⟨d, r, hs, h2, h3, h4⟩ := ivar_word h
  have hp : pk s 1 = d := by rw [hs]; rfl
  have := next_ivar xb s 0 1 [] ob cap 0 false (by rw [hs]; rfl) (by rw [hp]; exact h3) (by decide) (fun _ => rfl) (by omega)
  rw [h4] at this
  have hl : 0 + 1 + (d :: r).length = s.length := by rw [hs]; simp; omega
  rw [hl, ← hs] at this
  exact this
theorem colon_one {s : List UInt8} {T : Tok} (h1 : 1 ≤ s.length) (h2 : s.length ≤ 40) (hne : ¬ pk s 0 = 58)
    (h : ∀ (xb cap : Nat) (ob : Option Nat), SpecH Tryd.prog 48 [.c (.v (.pointer (some ⟨xb, 0, none⟩)))] [scE xb (58 :: s) 0 1 ob 0 cap 0 false, toE [] ob cap, .fact ScanF]
      (RetG (ι := Nat × Nat) (fun _ => True) (fun _ => .bool true) fun ⟨b, c⟩ => [scE xb (58 :: s) (s.length + 1) 1 (some b) 1 c 0 false, toE [T] (some b) c, .fact ScanF])) : NextOne (58 :: s) T := fun xb cap ob =>
  next_colon xb (58 :: s) 0 1 [] ob cap 0 false rfl (by rw [pk_cons]; exact hne) (by simp; omega) T (s.length + 1) (h xb cap ob)
theorem sml_58 {c : UInt8} (h : ltr c = true) : ¬ c = 58 := fun e => by subst e; cases h
theorem sym_name {s : List UInt8} (h : inB s = true) : NextOne (58 :: s) ⟨6, s, false, 1, none, 0, 0⟩ := by
  obtain ⟨h1, h2, h3, h4⟩ := name_full h
  refine colon_one h1 h2 (sml_58 (sml_wrd h3).2.1) fun xb cap ob => ?_
  have hf : fullS (58 :: s) (0 + 1) = s := by rw [full_cons, h4]
  have := sym_small xb (58 :: s) 0 1 [] ob cap 0 false (c := pk s 0) (at0_get h1) h3 (by rw [hf, show 0 + 1 + s.length = s.length + 1 by omega, pk_cons, pk_end s s.length (Nat.le_refl _)]; decide) (by decide) (fun _ => rfl) (by simp; omega)
  rw [hf, show 0 + 1 + s.length = s.length + 1 by omega] at this
  exact this
theorem sym_const {s : List UInt8} (h : icB s = true) : NextOne (58 :: s) ⟨6, s, false, 1, none, 0, 0⟩ := by
  obtain ⟨h1, h2, h3, h4, h5⟩ := const_word h
  refine colon_one h1 h2 (sml_58 h4) fun xb cap ob => ?_
  have hf : wordS (58 :: s) (0 + 1) = s := by rw [word_cons, h5]
  have := sym_upper xb (58 :: s) 0 1 [] ob cap 0 false (c := pk s 0) (at0_get h1) h3 h4 (by decide) (fun _ => rfl) (by simp; omega)
  rw [hf, show 0 + 1 + s.length = s.length + 1 by omega] at this
  exact this
theorem sym_iv {s : List UInt8} (h : iiB s = true) : NextOne (58 :: s) ⟨6, s, false, 1, none, 0, 0⟩ := by
  obtain ⟨d, r, hs, h2, h3, h4⟩ := ivar_word h
  have hl : s.length = r.length + 2 := by rw [hs]; simp
  refine colon_one (by omega) h2 (by rw [hs]; show ¬ (64 : UInt8) = 58; decide) fun xb cap ob => ?_
  have hf : wordS (58 :: s) (0 + 2) = d :: r := by rw [show 0 + 2 = 1 + 1 from rfl, word_cons, h4]
  have := sym_ivar xb (58 :: s) 0 1 [] ob cap 0 false (d := d) (by rw [hs]; rfl) (by rw [hs]; rfl) h3 (by decide) (fun _ => rfl) (by simp; omega)
  rw [hf, show 0 + 2 + (d :: r).length = s.length + 1 by rw [hl]; simp; omega, ← hs] at this
  exact this
theorem op_all : ∀ s ∈ opL, (1 ≤ s.length ∧ s.length ≤ 3) ∧ ltr (pk s 0) = false ∧ ¬ pk s 0 = 64 ∧ ¬ pk s 0 = 58 ∧ bestS s opL = s := by decide +kernel
theorem sym_oper {s : List UInt8} (h : opL.contains s = true) : NextOne (58 :: s) ⟨6, s, false, 1, none, 0, 0⟩ := by
  obtain ⟨⟨h1, h2⟩, h3, h4, h5, h6⟩ := op_all s (by simpa using h)
  refine colon_one h1 (by omega) h5 fun xb cap ob => ?_
  have := sym_op xb (58 :: s) 0 1 [] ob cap 0 false (c := pk s 0) (at0_get h1) h3 h4 s h6 (fun e => by rw [e] at h1; simp at h1) (by omega) (by decide) (fun _ => rfl) (by simp; omega)
  rw [show 0 + 1 + s.length = s.length + 1 by omega] at this
  exact this
theorem sym_setter {s : List UInt8} (h : setB s = true) : NextOne (58 :: s) ⟨6, s, false, 1, none, 0, 0⟩ := by
  simp only [setB, Bool.and_eq_true, beq_iff_eq, decide_eq_true_eq] at h
  obtain ⟨⟨⟨h1, h2⟩, h3⟩, h4⟩ := h
  rcases List.eq_nil_or_concat s with rfl | ⟨b, c, rfl⟩
  · cases h1
  · rw [List.concat_eq_append] at h1 h2 h3 h4 ⊢
    rw [List.dropLast_concat] at h2 h3
    have hc : c = 61 := by simpa using h1
    subst hc
    obtain ⟨y, q, rfl⟩ := iw_cons h2
    have hall : (y :: q).all wrd = true := by
      simp only [iwB, Bool.and_eq_true] at h2
      exact h2.1.1.1
    have hsm : sml y = true := h3
    have hw : wordS (y :: q ++ [61]) 0 = y :: q := by rw [wordS_0, tw_app hall (by decide)]
    have hlen : (y :: q ++ [61]).length = (y :: q).length + 1 := by simp
    have hpb : pk (y :: q ++ [61]) (y :: q).length = 61 := by simp [pk]
    have hf0 : fullS (y :: q ++ [61]) 0 = y :: q := by
      unfold fullS
      simp only [hw, Nat.zero_add]
      rw [hpb, if_neg (by simp)]
    have hf : fullS (58 :: (y :: q ++ [61])) (0 + 1) = y :: q := by rw [full_cons, hf0]
    refine colon_one (by rw [hlen]; omega) h4 (sml_58 (sml_wrd hsm).2.1) fun xb cap ob => ?_
    have := sym_set xb (58 :: (y :: q ++ [61])) 0 1 [] ob cap 0 false (c := y) rfl hsm (by rw [hf, show 0 + 1 + (y :: q).length = (y :: q).length + 1 by omega, pk_cons, hpb]) (by
      rw [hf, show 0 + 1 + (y :: q).length + 1 = (y :: q).length + 1 + 1 by omega, pk_cons, pk_end _ _ (by rw [hlen]; omega)]
      rfl) (fun d hd => by
      rw [hf] at hd
      have hwd := List.all_eq_true.1 hall d (List.mem_of_getElem? hd)
      refine ⟨fun e => ?_, fun e => ?_⟩ <;> subst e <;> cases hwd) (by decide) (fun _ => rfl) (by simp at h4 ⊢; omega)
    rw [hf, show 0 + 1 + (y :: q).length + 1 = (y :: q ++ [61]).length + 1 by rw [hlen]; omega] at this
    exact this
end Go.Proofs.YteejemdibfbccaaDoor
