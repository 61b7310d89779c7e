/-
  ScanSameCardSaid is proved: of every two lists of tokens ScanSame returns true and leaves its arguments as they were; the listed tables are tied to the program's text.
-/
import Derived.Lay
import Derived.Lib.LaidU8
import Derived.PinnedBridge
import Derived.Test.YteejemdibfbccaaDoorCards
import Derived.Test.YteejemdibfbccaaDoorTie
import Derived.Test.YteejemdibfbccaaDoorMt3
/-
  Contract: names, constants, keywords, labels (program).
-/
namespace Go.Proofs.YteejemdibfbccaaDoor
open Go.AX Go.RowKit Go.Scan
set_option maxRecDepth 20000

def lastDot (l : List Tok) : Bool := match l.getLast? with | some t => t.kind == 7 && (t.text == [46] || t.text == [38, 46]) | none => false
theorem fullS_le (s : List UInt8) (p : Nat) (h : p ≤ s.length) : p + (fullS s p).length ≤ s.length := by
  have hw := wordS_le s p h
  unfold fullS
  simp only
  split
  · rename_i h1
    rw [Bool.and_eq_true, Bool.or_eq_true, beq_iff_eq, beq_iff_eq] at h1
    rw [List.length_append]
    show p + ((wordS s p).length + 1) ≤ s.length
    rcases h1.1 with h2 | h2
    · have := pk_lt h2 (by decide)
      omega
    · have := pk_lt h2 (by decide)
      omega
  · exact hw
/-- The word at a place, and the place behind it. -/
def wordW (s : List UInt8) (p : Nat) : List UInt8 := if sml (pk s p) then fullS s p else wordS s p
def wordsK (s : List UInt8) (p : Nat) (l : List Tok) : Int × Nat :=
  let w := wordW s p
  let q := p + w.length
  if pk s q == 58 && pk s (q + 1) != 58 then (9, q + 1) else (if !sml (pk s p) then 2 else if kwB w && !lastDot l then 8 else 1, q)
set_option maxHeartbeats 2000000 in
theorem words_c (xb : Nat) (s : List UInt8) (p line : Nat) (l : List Tok) (ob : Option Nat) (cap here : Nat) (sp : Bool) (hl : l.length ≤ 900000) (hob : ob = none → l = []) (hs : s.length ≤ 1000000) (hp : p < s.length) :
    SpecH Tryd.prog 40 [.c (.v (.pointer (some ⟨xb, 0, none⟩)))] [scE xb s p line ob l.length cap here sp, toE l ob cap, .fact ScanF]
      (RetG (ι := Nat × Nat) (fun _ => True) (fun _ => .tuple #[]) fun ⟨b, c⟩ => [scE xb s (wordsK s p l).2 line (some b) (l.length + 1) c here false, toE (l ++ [⟨(wordsK s p l).1, wordW s p, sp, line, none, 0, 0⟩]) (some b) c, .fact ScanF]) := by
  refine ownC hm Tryd.func40 (by kernel_rfl) rfl rfl (fun _ _ => okHB_eq rfl) (fun _ _ => Nat.le_refl _) ?_
  have hz := bs_size s
  obtain ⟨c, hc⟩ : ∃ c, s[p]? = some c := ⟨_, List.getElem?_eq_getElem hp⟩
  have hcp : pk s p = c := by unfold pk; rw [hc]; rfl
  (first | refine wX ?_ | exact wZ)
  refine LdN.one (a := some ⟨xb, 0, none⟩) (q := 2) (.int .i64 ((line : Nat) : Int)) rfl (fun w hw => hw.1) rfl ?_
  (first | refine wX ?_ | exact wZ)
  refine LdN.one (a := some ⟨xb, 0, none⟩) (q := 0) (.string (bs s)) rfl (fun w hw => hw.1) rfl ?_
  (first | refine wX ?_ | exact wZ)
  refine LdN.one (a := some ⟨xb, 0, none⟩) (q := 1) (.int .i64 ((p : Nat) : Int)) rfl (fun w hw => hw.1) rfl ?_
  (first | refine wX ?_ | exact wZ)
  rw [Int.toNat_natCast, byteAt_get hc]
  refine callQ (sml_c c _) ?_
  cases hsm : sml c with
  | true =>
    have hwl := fullS_le s p (by omega)
    (first | refine wX ?_ | exact wZ)
    refine callG (full_c xb s p line ob l.length cap here sp hs (by omega)) [0] rfl ⟨rfl, trivial⟩ rfl fun _ _ => ?_
    generalize hq : p + (fullS s p).length = q at *
    -- false: upper, fullS s p: the word
    have hwW : wordW s p = fullS s p := by unfold wordW; rw [hcp]; simp [hsm]
    have hK : wordsK s p l = if pk s q == 58 && pk s (q + 1) != 58 then (9, q + 1) else (if !sml c then 2 else if kwB (fullS s p) && !lastDot l then 8 else 1, q) := by
      unfold wordsK
      simp only [hwW, hq, hcp]
    generalize hW : fullS s p = W at *
    (first | refine wX ?_ | exact wZ)
    refine call1 (peek_c xb s q line ob l.length cap here sp 0 (by omega) (by decide) _ (fun w hw => hw.1)) ?_
    rw [Nat.add_zero]
    have hb0 : (((pk s q).toNat : Int) == 58) = (pk s q == 58) := u8_eq (n := 58) (by decide)
    have hb1 : (((pk s (q + 1)).toNat : Int) == 58) = (pk s (q + 1) == 58) := u8_eq (n := 58) (by decide)
    (first | refine wX ?_ | exact wZ)
    rw [hb0]
    cases e0 : pk s q == 58 with
    | true =>
      (first | refine wX ?_ | exact wZ)
      refine call1 (peek_c xb s q line ob l.length cap here sp 1 (by omega) (by decide) _ (fun w hw => hw.1)) ?_
      (first | refine wX ?_ | exact wZ)
      rw [bne, hb1]
      cases e1 : pk s (q + 1) == 58 with
      | true =>
        have hK2 : wordsK s p l = (if !sml c then 2 else if kwB W && !lastDot l then 8 else 1, q) := by rw [hK]; simp [bne, e1]
        -- false: upper
        rcases Nat.eq_zero_or_pos l.length with hl0 | hl0
        · have hd : lastDot l = false := by rw [List.eq_nil_of_length_eq_zero hl0]; rfl
          (first | refine wX ?_ | exact wZ)
          refine LdN.one (a := some ⟨xb, 0, none⟩) (q := 3) (.slice (at0 ob) l.length cap) rfl (fun w hw => hw.1) rfl ?_
          (first | refine wX ?_ | exact wZ)
          refine brd_dec (fun h => absurd h (by omega)) (fun _ => ?_)
          (first | refine wX ?_ | exact wZ)
          refine call1 (IsKeyword_c W (by omega) _ (fun w hw => hw.2.2.1.1)) ?_
          cases hkw : kwB W with
          | true =>
            -- 8: the kind
            rw [hwW, show wordsK s p l = (8, q) by rw [hK2]; simp [hsm, hd, *]]
            (first | refine wX ?_ | exact wZ)
            refine callG (add_c xb s q line l ob cap here sp 8 W line (by omega) hob) [0, 1] rfl ⟨rfl, rfl, trivial⟩ rfl fun ⟨b1, c1⟩ _ => ?_
            (first | refine wX ?_ | exact wZ)
            exact ⟨(b1, c1), trivial, rfl, wkE_refl _, wkE_refl _, wkE_refl _, wkH_nil _⟩
          | false =>
            -- 1: the kind
            rw [hwW, show wordsK s p l = (1, q) by rw [hK2]; simp [hsm, hd, *]]
            (first | refine wX ?_ | exact wZ)
            refine callG (add_c xb s q line l ob cap here sp 1 W line (by omega) hob) [0, 1] rfl ⟨rfl, rfl, trivial⟩ rfl fun ⟨b1, c1⟩ _ => ?_
            (first | refine wX ?_ | exact wZ)
            exact ⟨(b1, c1), trivial, rfl, wkE_refl _, wkE_refl _, wkE_refl _, wkH_nil _⟩
        · obtain ⟨t, ht⟩ : ∃ t, l[l.length - 1]? = some t := ⟨_, List.getElem?_eq_getElem (by omega)⟩
          have hoa : (at0 ob).isSome = true := by
            cases ob with
            | none => rw [hob rfl] at hl0; simp at hl0
            | some g => rfl
          have hw1 : IntKind.i64.wrap ((l.length : Int) - 1) = ((l.length - 1 : Nat) : Int) := by rw [wrap_i64 (by omega)]; omega
          obtain ⟨tk, tt, ts, tl2, ta, tn, tc⟩ := t
          have hdt : lastDot l = (tk == 7 && (tt == [46] || tt == [38, 46])) := by
            unfold lastDot
            rw [List.getLast?_eq_getElem?, ht]
          (first | refine wX ?_ | exact wZ)
          refine LdN.one (a := some ⟨xb, 0, none⟩) (q := 3) (.slice (at0 ob) l.length cap) rfl (fun w hw => hw.1) rfl ?_
          (first | refine wX ?_ | exact wZ)
          refine brd_dec (fun _ => ?_) (fun h => absurd h (by omega))
          (first | refine wX ?_ | exact wZ)
          -- 0: the field's number, .int .i64 tk: its value
          refine LdN.one (a := some ⟨xb, 0, none⟩) (q := 3) (.slice (at0 ob) l.length cap) rfl (fun w hw => hw.1) rfl ?_
          (first | refine wX ?_ | exact wZ)
          refine LdN.one (a := some ⟨xb, 0, none⟩) (q := 3) (.slice (at0 ob) l.length cap) rfl (fun w hw => hw.1) rfl ?_
          (first | refine wX ?_ | exact wZ)
          try rw [hw1]
          refine Nd.mk ⟨hoa, by omega, by omega⟩ ?_
          (first | refine wX ?_ | exact wZ)
          refine LdN.fld (.int .i64 tk) rfl (fun w hw => hw.2.1) (by rw [Int.toNat_natCast]; exact toksC_get l _ 0 (by decide) ht) ?_
          (first | refine wX ?_ | exact wZ)
          refine brd_eq (fun e7 => ?_) (fun e7 => ?_)
          · by_cases h46 : tt = [46]
            · subst h46
              have hd : lastDot l = true := by rw [hdt]; simp [e7]
              (first | refine wX ?_ | exact wZ)
              -- 1: the field's number, .string (bs [46]): its value
              refine LdN.one (a := some ⟨xb, 0, none⟩) (q := 3) (.slice (at0 ob) l.length cap) rfl (fun w hw => hw.1) rfl ?_
              (first | refine wX ?_ | exact wZ)
              refine LdN.one (a := some ⟨xb, 0, none⟩) (q := 3) (.slice (at0 ob) l.length cap) rfl (fun w hw => hw.1) rfl ?_
              (first | refine wX ?_ | exact wZ)
              try rw [hw1]
              refine Nd.mk ⟨hoa, by omega, by omega⟩ ?_
              (first | refine wX ?_ | exact wZ)
              refine LdN.fld (.string (bs [46])) rfl (fun w hw => hw.2.1) (by rw [Int.toNat_natCast]; exact toksC_get l _ 1 (by decide) ht) ?_
              (first | refine wX ?_ | exact wZ)
              (first | refine wX ?_ | exact wZ)
              refine call1 (IsKeyword_c W (by omega) _ (fun w hw => hw.2.2.1.1)) ?_
              cases hkw : kwB W with
              | true =>
                -- 1: the kind
                rw [hwW, show wordsK s p l = (1, q) by rw [hK2]; simp [hsm, hd, *]]
                (first | refine wX ?_ | exact wZ)
                refine callG (add_c xb s q line l ob cap here sp 1 W line (by omega) hob) [0, 1] rfl ⟨rfl, rfl, trivial⟩ rfl fun ⟨b1, c1⟩ _ => ?_
                (first | refine wX ?_ | exact wZ)
                exact ⟨(b1, c1), trivial, rfl, wkE_refl _, wkE_refl _, wkE_refl _, wkH_nil _⟩
              | false =>
                -- 1: the kind
                rw [hwW, show wordsK s p l = (1, q) by rw [hK2]; simp [hsm, hd, *]]
                (first | refine wX ?_ | exact wZ)
                refine callG (add_c xb s q line l ob cap here sp 1 W line (by omega) hob) [0, 1] rfl ⟨rfl, rfl, trivial⟩ rfl fun ⟨b1, c1⟩ _ => ?_
                (first | refine wX ?_ | exact wZ)
                exact ⟨(b1, c1), trivial, rfl, wkE_refl _, wkE_refl _, wkE_refl _, wkH_nil _⟩
            · (first | refine wX ?_ | exact wZ)
              -- 1: the field's number, .string (bs tt): its value
              refine LdN.one (a := some ⟨xb, 0, none⟩) (q := 3) (.slice (at0 ob) l.length cap) rfl (fun w hw => hw.1) rfl ?_
              (first | refine wX ?_ | exact wZ)
              refine LdN.one (a := some ⟨xb, 0, none⟩) (q := 3) (.slice (at0 ob) l.length cap) rfl (fun w hw => hw.1) rfl ?_
              (first | refine wX ?_ | exact wZ)
              try rw [hw1]
              refine Nd.mk ⟨hoa, by omega, by omega⟩ ?_
              (first | refine wX ?_ | exact wZ)
              refine LdN.fld (.string (bs tt)) rfl (fun w hw => hw.2.1) (by rw [Int.toNat_natCast]; exact toksC_get l _ 1 (by decide) ht) ?_
              (first | refine wX ?_ | exact wZ)
              refine brd_intro (fun h => absurd (eq_of_beq (show (tt == [46]) = true from h)) h46) (fun _ => ?_)
              by_cases h38 : tt = [38, 46]
              · subst h38
                have hd : lastDot l = true := by rw [hdt]; simp [e7]
                (first | refine wX ?_ | exact wZ)
                -- 1: the field's number, .string (bs [38, 46]): its value
                refine LdN.one (a := some ⟨xb, 0, none⟩) (q := 3) (.slice (at0 ob) l.length cap) rfl (fun w hw => hw.1) rfl ?_
                (first | refine wX ?_ | exact wZ)
                refine LdN.one (a := some ⟨xb, 0, none⟩) (q := 3) (.slice (at0 ob) l.length cap) rfl (fun w hw => hw.1) rfl ?_
                (first | refine wX ?_ | exact wZ)
                try rw [hw1]
                refine Nd.mk ⟨hoa, by omega, by omega⟩ ?_
                (first | refine wX ?_ | exact wZ)
                refine LdN.fld (.string (bs [38, 46])) rfl (fun w hw => hw.2.1) (by rw [Int.toNat_natCast]; exact toksC_get l _ 1 (by decide) ht) ?_
                (first | refine wX ?_ | exact wZ)
                (first | refine wX ?_ | exact wZ)
                refine call1 (IsKeyword_c W (by omega) _ (fun w hw => hw.2.2.1.1)) ?_
                cases hkw : kwB W with
                | true =>
                  -- 1: the kind
                  rw [hwW, show wordsK s p l = (1, q) by rw [hK2]; simp [hsm, hd, *]]
                  (first | refine wX ?_ | exact wZ)
                  refine callG (add_c xb s q line l ob cap here sp 1 W line (by omega) hob) [0, 1] rfl ⟨rfl, rfl, trivial⟩ rfl fun ⟨b1, c1⟩ _ => ?_
                  (first | refine wX ?_ | exact wZ)
                  exact ⟨(b1, c1), trivial, rfl, wkE_refl _, wkE_refl _, wkE_refl _, wkH_nil _⟩
                | false =>
                  -- 1: the kind
                  rw [hwW, show wordsK s p l = (1, q) by rw [hK2]; simp [hsm, hd, *]]
                  (first | refine wX ?_ | exact wZ)
                  refine callG (add_c xb s q line l ob cap here sp 1 W line (by omega) hob) [0, 1] rfl ⟨rfl, rfl, trivial⟩ rfl fun ⟨b1, c1⟩ _ => ?_
                  (first | refine wX ?_ | exact wZ)
                  exact ⟨(b1, c1), trivial, rfl, wkE_refl _, wkE_refl _, wkE_refl _, wkH_nil _⟩
              · have hd : lastDot l = false := by rw [hdt]; simp [h46, h38]
                (first | refine wX ?_ | exact wZ)
                -- 1: the field's number, .string (bs tt): its value
                refine LdN.one (a := some ⟨xb, 0, none⟩) (q := 3) (.slice (at0 ob) l.length cap) rfl (fun w hw => hw.1) rfl ?_
                (first | refine wX ?_ | exact wZ)
                refine LdN.one (a := some ⟨xb, 0, none⟩) (q := 3) (.slice (at0 ob) l.length cap) rfl (fun w hw => hw.1) rfl ?_
                (first | refine wX ?_ | exact wZ)
                try rw [hw1]
                refine Nd.mk ⟨hoa, by omega, by omega⟩ ?_
                (first | refine wX ?_ | exact wZ)
                refine LdN.fld (.string (bs tt)) rfl (fun w hw => hw.2.1) (by rw [Int.toNat_natCast]; exact toksC_get l _ 1 (by decide) ht) ?_
                (first | refine wX ?_ | exact wZ)
                (first | refine wX ?_ | exact wZ)
                refine call1 (IsKeyword_c W (by omega) _ (fun w hw => hw.2.2.1.1)) ?_
                cases hkw : kwB W with
                | true =>
                  (first | refine wX ?_ | exact wZ)
                  refine brdT (show (!(tt == [38, 46])) = true by simp [h38]) ?_
                  -- 8: the kind
                  rw [hwW, show wordsK s p l = (8, q) by rw [hK2]; simp [hsm, hd, *]]
                  (first | refine wX ?_ | exact wZ)
                  refine callG (add_c xb s q line l ob cap here sp 8 W line (by omega) hob) [0, 1] rfl ⟨rfl, rfl, trivial⟩ rfl fun ⟨b1, c1⟩ _ => ?_
                  (first | refine wX ?_ | exact wZ)
                  exact ⟨(b1, c1), trivial, rfl, wkE_refl _, wkE_refl _, wkE_refl _, wkH_nil _⟩
                | false =>
                  -- 1: the kind
                  rw [hwW, show wordsK s p l = (1, q) by rw [hK2]; simp [hsm, hd, *]]
                  (first | refine wX ?_ | exact wZ)
                  refine callG (add_c xb s q line l ob cap here sp 1 W line (by omega) hob) [0, 1] rfl ⟨rfl, rfl, trivial⟩ rfl fun ⟨b1, c1⟩ _ => ?_
                  (first | refine wX ?_ | exact wZ)
                  exact ⟨(b1, c1), trivial, rfl, wkE_refl _, wkE_refl _, wkE_refl _, wkH_nil _⟩
          · have hd : lastDot l = false := by rw [hdt]; simp [e7]
            (first | refine wX ?_ | exact wZ)
            refine call1 (IsKeyword_c W (by omega) _ (fun w hw => hw.2.2.1.1)) ?_
            cases hkw : kwB W with
            | true =>
              -- 8: the kind
              rw [hwW, show wordsK s p l = (8, q) by rw [hK2]; simp [hsm, hd, *]]
              (first | refine wX ?_ | exact wZ)
              refine callG (add_c xb s q line l ob cap here sp 8 W line (by omega) hob) [0, 1] rfl ⟨rfl, rfl, trivial⟩ rfl fun ⟨b1, c1⟩ _ => ?_
              (first | refine wX ?_ | exact wZ)
              exact ⟨(b1, c1), trivial, rfl, wkE_refl _, wkE_refl _, wkE_refl _, wkH_nil _⟩
            | false =>
              -- 1: the kind
              rw [hwW, show wordsK s p l = (1, q) by rw [hK2]; simp [hsm, hd, *]]
              (first | refine wX ?_ | exact wZ)
              refine callG (add_c xb s q line l ob cap here sp 1 W line (by omega) hob) [0, 1] rfl ⟨rfl, rfl, trivial⟩ rfl fun ⟨b1, c1⟩ _ => ?_
              (first | refine wX ?_ | exact wZ)
              exact ⟨(b1, c1), trivial, rfl, wkE_refl _, wkE_refl _, wkE_refl _, wkH_nil _⟩
      | false =>
        have hK2 : wordsK s p l = (9, q + 1) := by rw [hK]; simp [bne, e0, e1]
        have hql := pk_lt (show pk s q = 58 by simpa using e0) (by decide)
        rw [hwW, hK2]
        (first | refine wX ?_ | exact wZ)
        refine LdN.one (a := some ⟨xb, 0, none⟩) (q := 1) (.int .i64 ((q : Nat) : Int)) rfl (fun w hw => hw.1) rfl ?_
        (first | refine wX ?_ | exact wZ)
        refine EffW.appTo (i := 0) (q := 1) (ys := [_]) (scC s (q + 1) line ob l.length cap here sp) 6 rfl rfl rfl rfl rfl rfl rfl (Nat.le_of_ble_eq_true rfl) (by
          show [_, Value.int .i64 _, _, _, _, _] = [_, Value.int .i64 _, _, _, _, _]
          rw [wrap_i64 (by omega)]
          rfl) rfl ?_
        (first | refine wX ?_ | exact wZ)
        refine callG (add_c xb s (q + 1) line l ob cap here sp 9 W line (by omega) hob) [0, 1] rfl ⟨rfl, rfl, trivial⟩ rfl fun ⟨b1, c1⟩ _ => ?_
        (first | refine wX ?_ | exact wZ)
        exact ⟨(b1, c1), trivial, rfl, wkE_refl _, wkE_refl _, wkE_refl _, wkH_nil _⟩
    | false =>
      have hK2 : wordsK s p l = (if !sml c then 2 else if kwB W && !lastDot l then 8 else 1, q) := by rw [hK]; simp [e0]
      -- false: upper
      rcases Nat.eq_zero_or_pos l.length with hl0 | hl0
      · have hd : lastDot l = false := by rw [List.eq_nil_of_length_eq_zero hl0]; rfl
        (first | refine wX ?_ | exact wZ)
        refine LdN.one (a := some ⟨xb, 0, none⟩) (q := 3) (.slice (at0 ob) l.length cap) rfl (fun w hw => hw.1) rfl ?_
        (first | refine wX ?_ | exact wZ)
        refine brd_dec (fun h => absurd h (by omega)) (fun _ => ?_)
        (first | refine wX ?_ | exact wZ)
        refine call1 (IsKeyword_c W (by omega) _ (fun w hw => hw.2.2.1.1)) ?_
        cases hkw : kwB W with
        | true =>
          -- 8: the kind
          rw [hwW, show wordsK s p l = (8, q) by rw [hK2]; simp [hsm, hd, *]]
          (first | refine wX ?_ | exact wZ)
          refine callG (add_c xb s q line l ob cap here sp 8 W line (by omega) hob) [0, 1] rfl ⟨rfl, rfl, trivial⟩ rfl fun ⟨b1, c1⟩ _ => ?_
          (first | refine wX ?_ | exact wZ)
          exact ⟨(b1, c1), trivial, rfl, wkE_refl _, wkE_refl _, wkE_refl _, wkH_nil _⟩
        | false =>
          -- 1: the kind
          rw [hwW, show wordsK s p l = (1, q) by rw [hK2]; simp [hsm, hd, *]]
          (first | refine wX ?_ | exact wZ)
          refine callG (add_c xb s q line l ob cap here sp 1 W line (by omega) hob) [0, 1] rfl ⟨rfl, rfl, trivial⟩ rfl fun ⟨b1, c1⟩ _ => ?_
          (first | refine wX ?_ | exact wZ)
          exact ⟨(b1, c1), trivial, rfl, wkE_refl _, wkE_refl _, wkE_refl _, wkH_nil _⟩
      · obtain ⟨t, ht⟩ : ∃ t, l[l.length - 1]? = some t := ⟨_, List.getElem?_eq_getElem (by omega)⟩
        have hoa : (at0 ob).isSome = true := by
          cases ob with
          | none => rw [hob rfl] at hl0; simp at hl0
          | some g => rfl
        have hw1 : IntKind.i64.wrap ((l.length : Int) - 1) = ((l.length - 1 : Nat) : Int) := by rw [wrap_i64 (by omega)]; omega
        obtain ⟨tk, tt, ts, tl2, ta, tn, tc⟩ := t
        have hdt : lastDot l = (tk == 7 && (tt == [46] || tt == [38, 46])) := by
          unfold lastDot
          rw [List.getLast?_eq_getElem?, ht]
        (first | refine wX ?_ | exact wZ)
        refine LdN.one (a := some ⟨xb, 0, none⟩) (q := 3) (.slice (at0 ob) l.length cap) rfl (fun w hw => hw.1) rfl ?_
        (first | refine wX ?_ | exact wZ)
        refine brd_dec (fun _ => ?_) (fun h => absurd h (by omega))
        (first | refine wX ?_ | exact wZ)
        -- 0: the field's number, .int .i64 tk: its value
        refine LdN.one (a := some ⟨xb, 0, none⟩) (q := 3) (.slice (at0 ob) l.length cap) rfl (fun w hw => hw.1) rfl ?_
        (first | refine wX ?_ | exact wZ)
        refine LdN.one (a := some ⟨xb, 0, none⟩) (q := 3) (.slice (at0 ob) l.length cap) rfl (fun w hw => hw.1) rfl ?_
        (first | refine wX ?_ | exact wZ)
        try rw [hw1]
        refine Nd.mk ⟨hoa, by omega, by omega⟩ ?_
        (first | refine wX ?_ | exact wZ)
        refine LdN.fld (.int .i64 tk) rfl (fun w hw => hw.2.1) (by rw [Int.toNat_natCast]; exact toksC_get l _ 0 (by decide) ht) ?_
        (first | refine wX ?_ | exact wZ)
        refine brd_eq (fun e7 => ?_) (fun e7 => ?_)
        · by_cases h46 : tt = [46]
          · subst h46
            have hd : lastDot l = true := by rw [hdt]; simp [e7]
            (first | refine wX ?_ | exact wZ)
            -- 1: the field's number, .string (bs [46]): its value
            refine LdN.one (a := some ⟨xb, 0, none⟩) (q := 3) (.slice (at0 ob) l.length cap) rfl (fun w hw => hw.1) rfl ?_
            (first | refine wX ?_ | exact wZ)
            refine LdN.one (a := some ⟨xb, 0, none⟩) (q := 3) (.slice (at0 ob) l.length cap) rfl (fun w hw => hw.1) rfl ?_
            (first | refine wX ?_ | exact wZ)
            try rw [hw1]
            refine Nd.mk ⟨hoa, by omega, by omega⟩ ?_
            (first | refine wX ?_ | exact wZ)
            refine LdN.fld (.string (bs [46])) rfl (fun w hw => hw.2.1) (by rw [Int.toNat_natCast]; exact toksC_get l _ 1 (by decide) ht) ?_
            (first | refine wX ?_ | exact wZ)
            (first | refine wX ?_ | exact wZ)
            refine call1 (IsKeyword_c W (by omega) _ (fun w hw => hw.2.2.1.1)) ?_
            cases hkw : kwB W with
            | true =>
              -- 1: the kind
              rw [hwW, show wordsK s p l = (1, q) by rw [hK2]; simp [hsm, hd, *]]
              (first | refine wX ?_ | exact wZ)
              refine callG (add_c xb s q line l ob cap here sp 1 W line (by omega) hob) [0, 1] rfl ⟨rfl, rfl, trivial⟩ rfl fun ⟨b1, c1⟩ _ => ?_
              (first | refine wX ?_ | exact wZ)
              exact ⟨(b1, c1), trivial, rfl, wkE_refl _, wkE_refl _, wkE_refl _, wkH_nil _⟩
            | false =>
              -- 1: the kind
              rw [hwW, show wordsK s p l = (1, q) by rw [hK2]; simp [hsm, hd, *]]
              (first | refine wX ?_ | exact wZ)
              refine callG (add_c xb s q line l ob cap here sp 1 W line (by omega) hob) [0, 1] rfl ⟨rfl, rfl, trivial⟩ rfl fun ⟨b1, c1⟩ _ => ?_
              (first | refine wX ?_ | exact wZ)
              exact ⟨(b1, c1), trivial, rfl, wkE_refl _, wkE_refl _, wkE_refl _, wkH_nil _⟩
          · (first | refine wX ?_ | exact wZ)
            -- 1: the field's number, .string (bs tt): its value
            refine LdN.one (a := some ⟨xb, 0, none⟩) (q := 3) (.slice (at0 ob) l.length cap) rfl (fun w hw => hw.1) rfl ?_
            (first | refine wX ?_ | exact wZ)
            refine LdN.one (a := some ⟨xb, 0, none⟩) (q := 3) (.slice (at0 ob) l.length cap) rfl (fun w hw => hw.1) rfl ?_
            (first | refine wX ?_ | exact wZ)
            try rw [hw1]
            refine Nd.mk ⟨hoa, by omega, by omega⟩ ?_
            (first | refine wX ?_ | exact wZ)
            refine LdN.fld (.string (bs tt)) rfl (fun w hw => hw.2.1) (by rw [Int.toNat_natCast]; exact toksC_get l _ 1 (by decide) ht) ?_
            (first | refine wX ?_ | exact wZ)
            refine brd_intro (fun h => absurd (eq_of_beq (show (tt == [46]) = true from h)) h46) (fun _ => ?_)
            by_cases h38 : tt = [38, 46]
            · subst h38
              have hd : lastDot l = true := by rw [hdt]; simp [e7]
              (first | refine wX ?_ | exact wZ)
              -- 1: the field's number, .string (bs [38, 46]): its value
              refine LdN.one (a := some ⟨xb, 0, none⟩) (q := 3) (.slice (at0 ob) l.length cap) rfl (fun w hw => hw.1) rfl ?_
              (first | refine wX ?_ | exact wZ)
              refine LdN.one (a := some ⟨xb, 0, none⟩) (q := 3) (.slice (at0 ob) l.length cap) rfl (fun w hw => hw.1) rfl ?_
              (first | refine wX ?_ | exact wZ)
              try rw [hw1]
              refine Nd.mk ⟨hoa, by omega, by omega⟩ ?_
              (first | refine wX ?_ | exact wZ)
              refine LdN.fld (.string (bs [38, 46])) rfl (fun w hw => hw.2.1) (by rw [Int.toNat_natCast]; exact toksC_get l _ 1 (by decide) ht) ?_
              (first | refine wX ?_ | exact wZ)
              (first | refine wX ?_ | exact wZ)
              refine call1 (IsKeyword_c W (by omega) _ (fun w hw => hw.2.2.1.1)) ?_
              cases hkw : kwB W with
              | true =>
                -- 1: the kind
                rw [hwW, show wordsK s p l = (1, q) by rw [hK2]; simp [hsm, hd, *]]
                (first | refine wX ?_ | exact wZ)
                refine callG (add_c xb s q line l ob cap here sp 1 W line (by omega) hob) [0, 1] rfl ⟨rfl, rfl, trivial⟩ rfl fun ⟨b1, c1⟩ _ => ?_
                (first | refine wX ?_ | exact wZ)
                exact ⟨(b1, c1), trivial, rfl, wkE_refl _, wkE_refl _, wkE_refl _, wkH_nil _⟩
              | false =>
                -- 1: the kind
                rw [hwW, show wordsK s p l = (1, q) by rw [hK2]; simp [hsm, hd, *]]
                (first | refine wX ?_ | exact wZ)
                refine callG (add_c xb s q line l ob cap here sp 1 W line (by omega) hob) [0, 1] rfl ⟨rfl, rfl, trivial⟩ rfl fun ⟨b1, c1⟩ _ => ?_
                (first | refine wX ?_ | exact wZ)
                exact ⟨(b1, c1), trivial, rfl, wkE_refl _, wkE_refl _, wkE_refl _, wkH_nil _⟩
            · have hd : lastDot l = false := by rw [hdt]; simp [h46, h38]
              (first | refine wX ?_ | exact wZ)
              -- 1: the field's number, .string (bs tt): its value
              refine LdN.one (a := some ⟨xb, 0, none⟩) (q := 3) (.slice (at0 ob) l.length cap) rfl (fun w hw => hw.1) rfl ?_
              (first | refine wX ?_ | exact wZ)
              refine LdN.one (a := some ⟨xb, 0, none⟩) (q := 3) (.slice (at0 ob) l.length cap) rfl (fun w hw => hw.1) rfl ?_
              (first | refine wX ?_ | exact wZ)
              try rw [hw1]
              refine Nd.mk ⟨hoa, by omega, by omega⟩ ?_
              (first | refine wX ?_ | exact wZ)
              refine LdN.fld (.string (bs tt)) rfl (fun w hw => hw.2.1) (by rw [Int.toNat_natCast]; exact toksC_get l _ 1 (by decide) ht) ?_
              (first | refine wX ?_ | exact wZ)
              (first | refine wX ?_ | exact wZ)
              refine call1 (IsKeyword_c W (by omega) _ (fun w hw => hw.2.2.1.1)) ?_
              cases hkw : kwB W with
              | true =>
                (first | refine wX ?_ | exact wZ)
                refine brdT (show (!(tt == [38, 46])) = true by simp [h38]) ?_
                -- 8: the kind
                rw [hwW, show wordsK s p l = (8, q) by rw [hK2]; simp [hsm, hd, *]]
                (first | refine wX ?_ | exact wZ)
                refine callG (add_c xb s q line l ob cap here sp 8 W line (by omega) hob) [0, 1] rfl ⟨rfl, rfl, trivial⟩ rfl fun ⟨b1, c1⟩ _ => ?_
                (first | refine wX ?_ | exact wZ)
                exact ⟨(b1, c1), trivial, rfl, wkE_refl _, wkE_refl _, wkE_refl _, wkH_nil _⟩
              | false =>
                -- 1: the kind
                rw [hwW, show wordsK s p l = (1, q) by rw [hK2]; simp [hsm, hd, *]]
                (first | refine wX ?_ | exact wZ)
                refine callG (add_c xb s q line l ob cap here sp 1 W line (by omega) hob) [0, 1] rfl ⟨rfl, rfl, trivial⟩ rfl fun ⟨b1, c1⟩ _ => ?_
                (first | refine wX ?_ | exact wZ)
                exact ⟨(b1, c1), trivial, rfl, wkE_refl _, wkE_refl _, wkE_refl _, wkH_nil _⟩
        · have hd : lastDot l = false := by rw [hdt]; simp [e7]
          (first | refine wX ?_ | exact wZ)
          refine call1 (IsKeyword_c W (by omega) _ (fun w hw => hw.2.2.1.1)) ?_
          cases hkw : kwB W with
          | true =>
            -- 8: the kind
            rw [hwW, show wordsK s p l = (8, q) by rw [hK2]; simp [hsm, hd, *]]
            (first | refine wX ?_ | exact wZ)
            refine callG (add_c xb s q line l ob cap here sp 8 W line (by omega) hob) [0, 1] rfl ⟨rfl, rfl, trivial⟩ rfl fun ⟨b1, c1⟩ _ => ?_
            (first | refine wX ?_ | exact wZ)
            exact ⟨(b1, c1), trivial, rfl, wkE_refl _, wkE_refl _, wkE_refl _, wkH_nil _⟩
          | false =>
            -- 1: the kind
            rw [hwW, show wordsK s p l = (1, q) by rw [hK2]; simp [hsm, hd, *]]
            (first | refine wX ?_ | exact wZ)
            refine callG (add_c xb s q line l ob cap here sp 1 W line (by omega) hob) [0, 1] rfl ⟨rfl, rfl, trivial⟩ rfl fun ⟨b1, c1⟩ _ => ?_
            (first | refine wX ?_ | exact wZ)
            exact ⟨(b1, c1), trivial, rfl, wkE_refl _, wkE_refl _, wkE_refl _, wkH_nil _⟩
  | false =>
    have hwl := wordS_le s p (by omega)
    (first | refine wX ?_ | exact wZ)
    refine callG (word_c xb s p line ob l.length cap here sp hs (by omega)) [0] rfl ⟨rfl, trivial⟩ rfl fun _ _ => ?_
    generalize hq : p + (wordS s p).length = q at *
    -- true: upper, wordS s p: the word
    have hwW : wordW s p = wordS s p := by unfold wordW; rw [hcp]; simp [hsm]
    have hK : wordsK s p l = if pk s q == 58 && pk s (q + 1) != 58 then (9, q + 1) else (if !sml c then 2 else if kwB (wordS s p) && !lastDot l then 8 else 1, q) := by
      unfold wordsK
      simp only [hwW, hq, hcp]
    generalize hW : wordS s p = W at *
    (first | refine wX ?_ | exact wZ)
    refine call1 (peek_c xb s q line ob l.length cap here sp 0 (by omega) (by decide) _ (fun w hw => hw.1)) ?_
    rw [Nat.add_zero]
    have hb0 : (((pk s q).toNat : Int) == 58) = (pk s q == 58) := u8_eq (n := 58) (by decide)
    have hb1 : (((pk s (q + 1)).toNat : Int) == 58) = (pk s (q + 1) == 58) := u8_eq (n := 58) (by decide)
    (first | refine wX ?_ | exact wZ)
    rw [hb0]
    cases e0 : pk s q == 58 with
    | true =>
      (first | refine wX ?_ | exact wZ)
      refine call1 (peek_c xb s q line ob l.length cap here sp 1 (by omega) (by decide) _ (fun w hw => hw.1)) ?_
      (first | refine wX ?_ | exact wZ)
      rw [bne, hb1]
      cases e1 : pk s (q + 1) == 58 with
      | true =>
        have hK2 : wordsK s p l = (if !sml c then 2 else if kwB W && !lastDot l then 8 else 1, q) := by rw [hK]; simp [bne, e1]
        -- true: upper
        rcases Nat.eq_zero_or_pos l.length with hl0 | hl0
        · have hd : lastDot l = false := by rw [List.eq_nil_of_length_eq_zero hl0]; rfl
          (first | refine wX ?_ | exact wZ)
          refine LdN.one (a := some ⟨xb, 0, none⟩) (q := 3) (.slice (at0 ob) l.length cap) rfl (fun w hw => hw.1) rfl ?_
          (first | refine wX ?_ | exact wZ)
          refine brd_dec (fun h => absurd h (by omega)) (fun _ => ?_)
          -- it is upper; false: whether a dot is ahead
          -- 2: the kind
          rw [hwW, show wordsK s p l = (2, q) by rw [hK2]; simp [hsm, hd, *]]
          (first | refine wX ?_ | exact wZ)
          refine callG (add_c xb s q line l ob cap here sp 2 W line (by omega) hob) [0, 1] rfl ⟨rfl, rfl, trivial⟩ rfl fun ⟨b1, c1⟩ _ => ?_
          (first | refine wX ?_ | exact wZ)
          exact ⟨(b1, c1), trivial, rfl, wkE_refl _, wkE_refl _, wkE_refl _, wkH_nil _⟩
        · obtain ⟨t, ht⟩ : ∃ t, l[l.length - 1]? = some t := ⟨_, List.getElem?_eq_getElem (by omega)⟩
          have hoa : (at0 ob).isSome = true := by
            cases ob with
            | none => rw [hob rfl] at hl0; simp at hl0
            | some g => rfl
          have hw1 : IntKind.i64.wrap ((l.length : Int) - 1) = ((l.length - 1 : Nat) : Int) := by rw [wrap_i64 (by omega)]; omega
          obtain ⟨tk, tt, ts, tl2, ta, tn, tc⟩ := t
          have hdt : lastDot l = (tk == 7 && (tt == [46] || tt == [38, 46])) := by
            unfold lastDot
            rw [List.getLast?_eq_getElem?, ht]
          (first | refine wX ?_ | exact wZ)
          refine LdN.one (a := some ⟨xb, 0, none⟩) (q := 3) (.slice (at0 ob) l.length cap) rfl (fun w hw => hw.1) rfl ?_
          (first | refine wX ?_ | exact wZ)
          refine brd_dec (fun _ => ?_) (fun h => absurd h (by omega))
          (first | refine wX ?_ | exact wZ)
          -- 0: the field's number, .int .i64 tk: its value
          refine LdN.one (a := some ⟨xb, 0, none⟩) (q := 3) (.slice (at0 ob) l.length cap) rfl (fun w hw => hw.1) rfl ?_
          (first | refine wX ?_ | exact wZ)
          refine LdN.one (a := some ⟨xb, 0, none⟩) (q := 3) (.slice (at0 ob) l.length cap) rfl (fun w hw => hw.1) rfl ?_
          (first | refine wX ?_ | exact wZ)
          try rw [hw1]
          refine Nd.mk ⟨hoa, by omega, by omega⟩ ?_
          (first | refine wX ?_ | exact wZ)
          refine LdN.fld (.int .i64 tk) rfl (fun w hw => hw.2.1) (by rw [Int.toNat_natCast]; exact toksC_get l _ 0 (by decide) ht) ?_
          (first | refine wX ?_ | exact wZ)
          refine brd_eq (fun e7 => ?_) (fun e7 => ?_)
          · by_cases h46 : tt = [46]
            · subst h46
              have hd : lastDot l = true := by rw [hdt]; simp [e7]
              (first | refine wX ?_ | exact wZ)
              -- 1: the field's number, .string (bs [46]): its value
              refine LdN.one (a := some ⟨xb, 0, none⟩) (q := 3) (.slice (at0 ob) l.length cap) rfl (fun w hw => hw.1) rfl ?_
              (first | refine wX ?_ | exact wZ)
              refine LdN.one (a := some ⟨xb, 0, none⟩) (q := 3) (.slice (at0 ob) l.length cap) rfl (fun w hw => hw.1) rfl ?_
              (first | refine wX ?_ | exact wZ)
              try rw [hw1]
              refine Nd.mk ⟨hoa, by omega, by omega⟩ ?_
              (first | refine wX ?_ | exact wZ)
              refine LdN.fld (.string (bs [46])) rfl (fun w hw => hw.2.1) (by rw [Int.toNat_natCast]; exact toksC_get l _ 1 (by decide) ht) ?_
              (first | refine wX ?_ | exact wZ)
              -- it is upper; true: whether a dot is ahead
              -- 2: the kind
              rw [hwW, show wordsK s p l = (2, q) by rw [hK2]; simp [hsm, hd, *]]
              (first | refine wX ?_ | exact wZ)
              refine callG (add_c xb s q line l ob cap here sp 2 W line (by omega) hob) [0, 1] rfl ⟨rfl, rfl, trivial⟩ rfl fun ⟨b1, c1⟩ _ => ?_
              (first | refine wX ?_ | exact wZ)
              exact ⟨(b1, c1), trivial, rfl, wkE_refl _, wkE_refl _, wkE_refl _, wkH_nil _⟩
            · (first | refine wX ?_ | exact wZ)
              -- 1: the field's number, .string (bs tt): its value
              refine LdN.one (a := some ⟨xb, 0, none⟩) (q := 3) (.slice (at0 ob) l.length cap) rfl (fun w hw => hw.1) rfl ?_
              (first | refine wX ?_ | exact wZ)
              refine LdN.one (a := some ⟨xb, 0, none⟩) (q := 3) (.slice (at0 ob) l.length cap) rfl (fun w hw => hw.1) rfl ?_
              (first | refine wX ?_ | exact wZ)
              try rw [hw1]
              refine Nd.mk ⟨hoa, by omega, by omega⟩ ?_
              (first | refine wX ?_ | exact wZ)
              refine LdN.fld (.string (bs tt)) rfl (fun w hw => hw.2.1) (by rw [Int.toNat_natCast]; exact toksC_get l _ 1 (by decide) ht) ?_
              (first | refine wX ?_ | exact wZ)
              refine brd_intro (fun h => absurd (eq_of_beq (show (tt == [46]) = true from h)) h46) (fun _ => ?_)
              by_cases h38 : tt = [38, 46]
              · subst h38
                have hd : lastDot l = true := by rw [hdt]; simp [e7]
                (first | refine wX ?_ | exact wZ)
                -- 1: the field's number, .string (bs [38, 46]): its value
                refine LdN.one (a := some ⟨xb, 0, none⟩) (q := 3) (.slice (at0 ob) l.length cap) rfl (fun w hw => hw.1) rfl ?_
                (first | refine wX ?_ | exact wZ)
                refine LdN.one (a := some ⟨xb, 0, none⟩) (q := 3) (.slice (at0 ob) l.length cap) rfl (fun w hw => hw.1) rfl ?_
                (first | refine wX ?_ | exact wZ)
                try rw [hw1]
                refine Nd.mk ⟨hoa, by omega, by omega⟩ ?_
                (first | refine wX ?_ | exact wZ)
                refine LdN.fld (.string (bs [38, 46])) rfl (fun w hw => hw.2.1) (by rw [Int.toNat_natCast]; exact toksC_get l _ 1 (by decide) ht) ?_
                (first | refine wX ?_ | exact wZ)
                -- it is upper; true: whether a dot is ahead
                -- 2: the kind
                rw [hwW, show wordsK s p l = (2, q) by rw [hK2]; simp [hsm, hd, *]]
                (first | refine wX ?_ | exact wZ)
                refine callG (add_c xb s q line l ob cap here sp 2 W line (by omega) hob) [0, 1] rfl ⟨rfl, rfl, trivial⟩ rfl fun ⟨b1, c1⟩ _ => ?_
                (first | refine wX ?_ | exact wZ)
                exact ⟨(b1, c1), trivial, rfl, wkE_refl _, wkE_refl _, wkE_refl _, wkH_nil _⟩
              · have hd : lastDot l = false := by rw [hdt]; simp [h46, h38]
                (first | refine wX ?_ | exact wZ)
                -- 1: the field's number, .string (bs tt): its value
                refine LdN.one (a := some ⟨xb, 0, none⟩) (q := 3) (.slice (at0 ob) l.length cap) rfl (fun w hw => hw.1) rfl ?_
                (first | refine wX ?_ | exact wZ)
                refine LdN.one (a := some ⟨xb, 0, none⟩) (q := 3) (.slice (at0 ob) l.length cap) rfl (fun w hw => hw.1) rfl ?_
                (first | refine wX ?_ | exact wZ)
                try rw [hw1]
                refine Nd.mk ⟨hoa, by omega, by omega⟩ ?_
                (first | refine wX ?_ | exact wZ)
                refine LdN.fld (.string (bs tt)) rfl (fun w hw => hw.2.1) (by rw [Int.toNat_natCast]; exact toksC_get l _ 1 (by decide) ht) ?_
                (first | refine wX ?_ | exact wZ)
                -- it is upper; sym: whether a dot is ahead
                -- 2: the kind
                rw [hwW, show wordsK s p l = (2, q) by rw [hK2]; simp [hsm, hd, *]]
                (first | refine wX ?_ | exact wZ)
                refine callG (add_c xb s q line l ob cap here sp 2 W line (by omega) hob) [0, 1] rfl ⟨rfl, rfl, trivial⟩ rfl fun ⟨b1, c1⟩ _ => ?_
                (first | refine wX ?_ | exact wZ)
                exact ⟨(b1, c1), trivial, rfl, wkE_refl _, wkE_refl _, wkE_refl _, wkH_nil _⟩
          · have hd : lastDot l = false := by rw [hdt]; simp [e7]
            -- it is upper; false: whether a dot is ahead
            -- 2: the kind
            rw [hwW, show wordsK s p l = (2, q) by rw [hK2]; simp [hsm, hd, *]]
            (first | refine wX ?_ | exact wZ)
            refine callG (add_c xb s q line l ob cap here sp 2 W line (by omega) hob) [0, 1] rfl ⟨rfl, rfl, trivial⟩ rfl fun ⟨b1, c1⟩ _ => ?_
            (first | refine wX ?_ | exact wZ)
            exact ⟨(b1, c1), trivial, rfl, wkE_refl _, wkE_refl _, wkE_refl _, wkH_nil _⟩
      | false =>
        have hK2 : wordsK s p l = (9, q + 1) := by rw [hK]; simp [bne, e0, e1]
        have hql := pk_lt (show pk s q = 58 by simpa using e0) (by decide)
        rw [hwW, hK2]
        (first | refine wX ?_ | exact wZ)
        refine LdN.one (a := some ⟨xb, 0, none⟩) (q := 1) (.int .i64 ((q : Nat) : Int)) rfl (fun w hw => hw.1) rfl ?_
        (first | refine wX ?_ | exact wZ)
        refine EffW.appTo (i := 0) (q := 1) (ys := [_]) (scC s (q + 1) line ob l.length cap here sp) 6 rfl rfl rfl rfl rfl rfl rfl (Nat.le_of_ble_eq_true rfl) (by
          show [_, Value.int .i64 _, _, _, _, _] = [_, Value.int .i64 _, _, _, _, _]
          rw [wrap_i64 (by omega)]
          rfl) rfl ?_
        (first | refine wX ?_ | exact wZ)
        refine callG (add_c xb s (q + 1) line l ob cap here sp 9 W line (by omega) hob) [0, 1] rfl ⟨rfl, rfl, trivial⟩ rfl fun ⟨b1, c1⟩ _ => ?_
        (first | refine wX ?_ | exact wZ)
        exact ⟨(b1, c1), trivial, rfl, wkE_refl _, wkE_refl _, wkE_refl _, wkH_nil _⟩
    | false =>
      have hK2 : wordsK s p l = (if !sml c then 2 else if kwB W && !lastDot l then 8 else 1, q) := by rw [hK]; simp [e0]
      -- true: upper
      rcases Nat.eq_zero_or_pos l.length with hl0 | hl0
      · have hd : lastDot l = false := by rw [List.eq_nil_of_length_eq_zero hl0]; rfl
        (first | refine wX ?_ | exact wZ)
        refine LdN.one (a := some ⟨xb, 0, none⟩) (q := 3) (.slice (at0 ob) l.length cap) rfl (fun w hw => hw.1) rfl ?_
        (first | refine wX ?_ | exact wZ)
        refine brd_dec (fun h => absurd h (by omega)) (fun _ => ?_)
        -- it is upper; false: whether a dot is ahead
        -- 2: the kind
        rw [hwW, show wordsK s p l = (2, q) by rw [hK2]; simp [hsm, hd, *]]
        (first | refine wX ?_ | exact wZ)
        refine callG (add_c xb s q line l ob cap here sp 2 W line (by omega) hob) [0, 1] rfl ⟨rfl, rfl, trivial⟩ rfl fun ⟨b1, c1⟩ _ => ?_
        (first | refine wX ?_ | exact wZ)
        exact ⟨(b1, c1), trivial, rfl, wkE_refl _, wkE_refl _, wkE_refl _, wkH_nil _⟩
      · obtain ⟨t, ht⟩ : ∃ t, l[l.length - 1]? = some t := ⟨_, List.getElem?_eq_getElem (by omega)⟩
        have hoa : (at0 ob).isSome = true := by
          cases ob with
          | none => rw [hob rfl] at hl0; simp at hl0
          | some g => rfl
        have hw1 : IntKind.i64.wrap ((l.length : Int) - 1) = ((l.length - 1 : Nat) : Int) := by rw [wrap_i64 (by omega)]; omega
        obtain ⟨tk, tt, ts, tl2, ta, tn, tc⟩ := t
        have hdt : lastDot l = (tk == 7 && (tt == [46] || tt == [38, 46])) := by
          unfold lastDot
          rw [List.getLast?_eq_getElem?, ht]
        (first | refine wX ?_ | exact wZ)
        refine LdN.one (a := some ⟨xb, 0, none⟩) (q := 3) (.slice (at0 ob) l.length cap) rfl (fun w hw => hw.1) rfl ?_
        (first | refine wX ?_ | exact wZ)
        refine brd_dec (fun _ => ?_) (fun h => absurd h (by omega))
        (first | refine wX ?_ | exact wZ)
        -- 0: the field's number, .int .i64 tk: its value
        refine LdN.one (a := some ⟨xb, 0, none⟩) (q := 3) (.slice (at0 ob) l.length cap) rfl (fun w hw => hw.1) rfl ?_
        (first | refine wX ?_ | exact wZ)
        refine LdN.one (a := some ⟨xb, 0, none⟩) (q := 3) (.slice (at0 ob) l.length cap) rfl (fun w hw => hw.1) rfl ?_
        (first | refine wX ?_ | exact wZ)
        try rw [hw1]
        refine Nd.mk ⟨hoa, by omega, by omega⟩ ?_
        (first | refine wX ?_ | exact wZ)
        refine LdN.fld (.int .i64 tk) rfl (fun w hw => hw.2.1) (by rw [Int.toNat_natCast]; exact toksC_get l _ 0 (by decide) ht) ?_
        (first | refine wX ?_ | exact wZ)
        refine brd_eq (fun e7 => ?_) (fun e7 => ?_)
        · by_cases h46 : tt = [46]
          · subst h46
            have hd : lastDot l = true := by rw [hdt]; simp [e7]
            (first | refine wX ?_ | exact wZ)
            -- 1: the field's number, .string (bs [46]): its value
            refine LdN.one (a := some ⟨xb, 0, none⟩) (q := 3) (.slice (at0 ob) l.length cap) rfl (fun w hw => hw.1) rfl ?_
            (first | refine wX ?_ | exact wZ)
            refine LdN.one (a := some ⟨xb, 0, none⟩) (q := 3) (.slice (at0 ob) l.length cap) rfl (fun w hw => hw.1) rfl ?_
            (first | refine wX ?_ | exact wZ)
            try rw [hw1]
            refine Nd.mk ⟨hoa, by omega, by omega⟩ ?_
            (first | refine wX ?_ | exact wZ)
            refine LdN.fld (.string (bs [46])) rfl (fun w hw => hw.2.1) (by rw [Int.toNat_natCast]; exact toksC_get l _ 1 (by decide) ht) ?_
            (first | refine wX ?_ | exact wZ)
            -- it is upper; true: whether a dot is ahead
            -- 2: the kind
            rw [hwW, show wordsK s p l = (2, q) by rw [hK2]; simp [hsm, hd, *]]
            (first | refine wX ?_ | exact wZ)
            refine callG (add_c xb s q line l ob cap here sp 2 W line (by omega) hob) [0, 1] rfl ⟨rfl, rfl, trivial⟩ rfl fun ⟨b1, c1⟩ _ => ?_
            (first | refine wX ?_ | exact wZ)
            exact ⟨(b1, c1), trivial, rfl, wkE_refl _, wkE_refl _, wkE_refl _, wkH_nil _⟩
          · (first | refine wX ?_ | exact wZ)
            -- 1: the field's number, .string (bs tt): its value
            refine LdN.one (a := some ⟨xb, 0, none⟩) (q := 3) (.slice (at0 ob) l.length cap) rfl (fun w hw => hw.1) rfl ?_
            (first | refine wX ?_ | exact wZ)
            refine LdN.one (a := some ⟨xb, 0, none⟩) (q := 3) (.slice (at0 ob) l.length cap) rfl (fun w hw => hw.1) rfl ?_
            (first | refine wX ?_ | exact wZ)
            try rw [hw1]
            refine Nd.mk ⟨hoa, by omega, by omega⟩ ?_
            (first | refine wX ?_ | exact wZ)
            refine LdN.fld (.string (bs tt)) rfl (fun w hw => hw.2.1) (by rw [Int.toNat_natCast]; exact toksC_get l _ 1 (by decide) ht) ?_
            (first | refine wX ?_ | exact wZ)
            refine brd_intro (fun h => absurd (eq_of_beq (show (tt == [46]) = true from h)) h46) (fun _ => ?_)
            by_cases h38 : tt = [38, 46]
            · subst h38
              have hd : lastDot l = true := by rw [hdt]; simp [e7]
              (first | refine wX ?_ | exact wZ)
              -- 1: the field's number, .string (bs [38, 46]): its value
              refine LdN.one (a := some ⟨xb, 0, none⟩) (q := 3) (.slice (at0 ob) l.length cap) rfl (fun w hw => hw.1) rfl ?_
              (first | refine wX ?_ | exact wZ)
              refine LdN.one (a := some ⟨xb, 0, none⟩) (q := 3) (.slice (at0 ob) l.length cap) rfl (fun w hw => hw.1) rfl ?_
              (first | refine wX ?_ | exact wZ)
              try rw [hw1]
              refine Nd.mk ⟨hoa, by omega, by omega⟩ ?_
              (first | refine wX ?_ | exact wZ)
              refine LdN.fld (.string (bs [38, 46])) rfl (fun w hw => hw.2.1) (by rw [Int.toNat_natCast]; exact toksC_get l _ 1 (by decide) ht) ?_
              (first | refine wX ?_ | exact wZ)
              -- it is upper; true: whether a dot is ahead
              -- 2: the kind
              rw [hwW, show wordsK s p l = (2, q) by rw [hK2]; simp [hsm, hd, *]]
              (first | refine wX ?_ | exact wZ)
              refine callG (add_c xb s q line l ob cap here sp 2 W line (by omega) hob) [0, 1] rfl ⟨rfl, rfl, trivial⟩ rfl fun ⟨b1, c1⟩ _ => ?_
              (first | refine wX ?_ | exact wZ)
              exact ⟨(b1, c1), trivial, rfl, wkE_refl _, wkE_refl _, wkE_refl _, wkH_nil _⟩
            · have hd : lastDot l = false := by rw [hdt]; simp [h46, h38]
              (first | refine wX ?_ | exact wZ)
              -- 1: the field's number, .string (bs tt): its value
              refine LdN.one (a := some ⟨xb, 0, none⟩) (q := 3) (.slice (at0 ob) l.length cap) rfl (fun w hw => hw.1) rfl ?_
              (first | refine wX ?_ | exact wZ)
              refine LdN.one (a := some ⟨xb, 0, none⟩) (q := 3) (.slice (at0 ob) l.length cap) rfl (fun w hw => hw.1) rfl ?_
              (first | refine wX ?_ | exact wZ)
              try rw [hw1]
              refine Nd.mk ⟨hoa, by omega, by omega⟩ ?_
              (first | refine wX ?_ | exact wZ)
              refine LdN.fld (.string (bs tt)) rfl (fun w hw => hw.2.1) (by rw [Int.toNat_natCast]; exact toksC_get l _ 1 (by decide) ht) ?_
              (first | refine wX ?_ | exact wZ)
              -- it is upper; sym: whether a dot is ahead
              -- 2: the kind
              rw [hwW, show wordsK s p l = (2, q) by rw [hK2]; simp [hsm, hd, *]]
              (first | refine wX ?_ | exact wZ)
              refine callG (add_c xb s q line l ob cap here sp 2 W line (by omega) hob) [0, 1] rfl ⟨rfl, rfl, trivial⟩ rfl fun ⟨b1, c1⟩ _ => ?_
              (first | refine wX ?_ | exact wZ)
              exact ⟨(b1, c1), trivial, rfl, wkE_refl _, wkE_refl _, wkE_refl _, wkH_nil _⟩
        · have hd : lastDot l = false := by rw [hdt]; simp [e7]
          -- it is upper; false: whether a dot is ahead
          -- 2: the kind
          rw [hwW, show wordsK s p l = (2, q) by rw [hK2]; simp [hsm, hd, *]]
          (first | refine wX ?_ | exact wZ)
          refine callG (add_c xb s q line l ob cap here sp 2 W line (by omega) hob) [0, 1] rfl ⟨rfl, rfl, trivial⟩ rfl fun ⟨b1, c1⟩ _ => ?_
          (first | refine wX ?_ | exact wZ)
          exact ⟨(b1, c1), trivial, rfl, wkE_refl _, wkE_refl _, wkE_refl _, wkH_nil _⟩
end Go.Proofs.YteejemdibfbccaaDoor

/-
  Contract: signs (program).
-/
namespace Go.Proofs.YteejemdibfbccaaDoor
open Go.AX Go.RowKit Go.Scan
set_option maxRecDepth 20000

theorem Fields_c (s : List UInt8) (hs : s.length < 4294967281) (ha : ∀ c ∈ s, c.toNat < 128) : SpecF Tryd.prog 53 [.string (bs s)] ScanF fun v G => ∃ b, v = .slice (some ⟨b, 0, none⟩) (Lib.fields s).length (Lib.fields s).length ∧ ∀ w, G w → SlAt (some ⟨b, 0, none⟩) (Lib.fields s).length ((Lib.fields s).map fun l => Value.string (bs l)) w :=
  specF_new (T := 9) (callOk Tryd.func53 (by kernel_rfl) rfl) (by simp) fun w hw => (Tryd.strings_Fields (bs s) w (by rw [bs_size]; exact hs) (fun j b hj => ha b (List.mem_of_getElem? hj)) hw.2).mono fun e w' ⟨he, hw'⟩ => ⟨he, hw'⟩
def bestF (rest : List UInt8) (b f : List UInt8) : List UInt8 := if f.isPrefixOf rest && decide (b.length < f.length) then f else b
def bestS (rest : List UInt8) (fs : List (List UInt8)) : List UInt8 := fs.foldl (bestF rest) []
theorem bestS_snoc (rest : List UInt8) (fs : List (List UInt8)) (f : List UInt8) : bestS rest (fs ++ [f]) = bestF rest (bestS rest fs) f := by simp [bestS]

set_option maxHeartbeats 2000000 in
theorem signs_c (xb : Nat) (s : List UInt8) (p line : Nat) (l : List Tok) (ob : Option Nat) (cap here : Nat) (sp : Bool) (best : List UInt8) (hbest : bestS (s.drop p) (Lib.fields sgs) = best) (hne : best ≠ []) (hl : l.length ≤ 900000) (hob : ob = none → l = []) (hs : s.length ≤ 1000000) (hp : p ≤ s.length) (hbl : best.length ≤ 1000) :
    SpecH Tryd.prog 49 [.c (.v (.pointer (some ⟨xb, 0, none⟩)))] [scE xb s p line ob l.length cap here sp, toE l ob cap, .fact ScanF]
      (RetG (ι := Nat × Nat) (fun _ => True) (fun _ => .tuple #[]) fun ⟨b, c⟩ => [scE xb s (p + best.length) line (some b) (l.length + 1) c here false, toE (l ++ [⟨7, best, sp, line, none, 0, 0⟩]) (some b) c, .fact ScanF]) := by
  refine ownC hm Tryd.func49 (by kernel_rfl) rfl rfl (fun _ _ => okHB_eq rfl) (fun _ _ => Nat.le_refl _) ?_
  have hz := bs_size s
  (first | refine wX ?_ | exact wZ)
  refine SpecF.call (Fields_c sgs (by decide) (by decide +kernel)) (fun w hw => hw.1) fun v G hR => ?_
  obtain ⟨fb, rfl, hG⟩ := hR
  have hfn : (Lib.fields sgs).length ≤ 100 := by decide +kernel
  generalize Lib.fields sgs = fs at *
  (first | refine wX ?_ | exact wZ)
  refine loopS Nat (fun i => i ≤ fs.length) (fun i => mkS Tryd.f49.ntmps 0 [(0, .c (.v (.pointer (some ⟨xb, 0, none⟩)))), (2, .c (.v (.string (bs (bestS (s.drop p) (fs.take i)))))), (5, .c (.v (.slice (some ⟨fb, 0, none⟩) fs.length fs.length))), (6, .c (.v (.int .i64 (fs.length : Int)))), (7, .c (.v (.int .i64 (i : Int))))]) (fun i => fs.length - i) rfl (fun _ => rfl) 0 (Nat.zero_le _) ?_ ?_
  · (repeat' (first | exact trivial | refine And.intro (by with_reducible rfl) ?_ | (with_reducible exact wkC_refl _) | (with_reducible exact wkCs_refl _) | refine And.intro ?_ ?_))
    all_goals rfl
  intro i hi
  (first | refine wX ?_ | exact wZ)
  refine brd_dec (fun h1 => ?_) (fun h1 => ?_)
  · obtain ⟨f, hf⟩ : ∃ f, fs[i]? = some f := ⟨_, List.getElem?_eq_getElem (by omega)⟩
    (first | refine wX ?_ | exact wZ)
    try refine Nd.mk ⟨rfl, by omega, by omega⟩ ?_
    (first | refine wX ?_ | exact wZ)
    refine LdN.one (.string (bs f)) rfl (fun w hw => hG w hw.2.2.2.1) (by show (fs.map _)[Int.toNat _ * 1]? = _; rw [Int.toNat_natCast, Nat.mul_one, List.getElem?_map, hf]; rfl) ?_
    (first | refine wX ?_ | exact wZ)
    have hsn : bestS (s.drop p) (fs.take (i + 1)) = bestF (s.drop p) (bestS (s.drop p) (fs.take i)) f := by rw [List.take_add_one, hf]; exact bestS_snoc _ _ _
    have hbz := bs_size (bestS (s.drop p) (fs.take i))
    have hfz := bs_size f
    generalize bestS (s.drop p) (fs.take i) = bst at *
    refine LdN.one (a := some ⟨xb, 0, none⟩) (q := 0) (.string (bs s)) rfl (fun w hw => hw.1) rfl ?_
    (first | refine wX ?_ | exact wZ)
    refine LdN.one (a := some ⟨xb, 0, none⟩) (q := 1) (.int .i64 ((p : Nat) : Int)) rfl (fun w hw => hw.1) rfl ?_
    (first | refine wX ?_ | exact wZ)
    refine ReadW.sl_l p rfl Tryd.underlying9 rfl rfl ⟨rfl, hp⟩ ?_
    (first | refine wX ?_ | exact wZ)
    refine callQ (HasPrefix_c (s.drop p) f _) ?_
    cases hpf : f.isPrefixOf (s.drop p) with
    | false =>
      have hs2 : bestF (s.drop p) bst f = bst := by unfold bestF; rw [hpf]; rfl
      (first | refine wX ?_ | exact wZ)
      refine ⟨i + 1, by omega, by omega, ?_, by (repeat' (first | exact trivial | exact wkE_refl _ | refine And.intro ?_ ?_))⟩
      rw [hsn, hs2]
      (repeat' (first | exact trivial | refine And.intro (by with_reducible rfl) ?_ | (with_reducible exact wkC_refl _) | (with_reducible exact wkCs_refl _) | refine And.intro ?_ ?_))
      all_goals first | rfl | exact av_int (by rw [wrap_i64 (by omega)]; omega)
    | true =>
      (first | refine wX ?_ | exact wZ)
      rw [hbz, hfz]
      refine brd_dec (fun h2 => ?_) (fun h2 => ?_)
      · have hs2 : bestF (s.drop p) bst f = f := by unfold bestF; rw [hpf, decide_eq_true (by omega)]; rfl
        (first | refine wX ?_ | exact wZ)
        refine ⟨i + 1, by omega, by omega, ?_, by (repeat' (first | exact trivial | exact wkE_refl _ | refine And.intro ?_ ?_))⟩
        rw [hsn, hs2]
        (repeat' (first | exact trivial | refine And.intro (by with_reducible rfl) ?_ | (with_reducible exact wkC_refl _) | (with_reducible exact wkCs_refl _) | refine And.intro ?_ ?_))
        all_goals first | rfl | exact av_int (by rw [wrap_i64 (by omega)]; omega)
      · have hs2 : bestF (s.drop p) bst f = bst := by unfold bestF; rw [hpf, decide_eq_false (by omega)]; rfl
        (first | refine wX ?_ | exact wZ)
        refine ⟨i + 1, by omega, by omega, ?_, by (repeat' (first | exact trivial | exact wkE_refl _ | refine And.intro ?_ ?_))⟩
        rw [hsn, hs2]
        (repeat' (first | exact trivial | refine And.intro (by with_reducible rfl) ?_ | (with_reducible exact wkC_refl _) | (with_reducible exact wkCs_refl _) | refine And.intro ?_ ?_))
        all_goals first | rfl | exact av_int (by rw [wrap_i64 (by omega)]; omega)
  · have hie : i = fs.length := by omega
    subst hie
    rw [List.take_length, hbest]
    have hbz := bs_size best
    obtain ⟨c0, r0, hcr⟩ : ∃ c0 r0, best = c0 :: r0 := by
      cases best with
      | nil => exact absurd rfl hne
      | cons c r => exact ⟨c, r, rfl⟩
    subst hcr
    (first | refine wX ?_ | exact wZ)
    refine LdN.one (a := some ⟨xb, 0, none⟩) (q := 1) (.int .i64 ((p : Nat) : Int)) rfl (fun w hw => hw.1) rfl ?_
    (first | refine wX ?_ | exact wZ)
    refine EffW.appTo (i := 0) (q := 1) (ys := [_]) (scC s (p + (c0 :: r0).length) line ob l.length cap here sp) 6 rfl rfl rfl rfl rfl rfl rfl (Nat.le_of_ble_eq_true rfl) (by
      show [_, Value.int .i64 _, _, _, _, _] = [_, Value.int .i64 _, _, _, _, _]
      rw [hbz, wrap_i64 (by omega)]
      rfl) rfl ?_
    (first | refine wX ?_ | exact wZ)
    refine LdN.one (a := some ⟨xb, 0, none⟩) (q := 2) (.int .i64 ((line : Nat) : Int)) rfl (fun w hw => hw.1) rfl ?_
    (first | refine wX ?_ | exact wZ)
    refine callG (add_c xb s (p + (c0 :: r0).length) line l ob cap here sp 7 (c0 :: r0) line (by omega) hob) [0, 1] rfl ⟨rfl, rfl, trivial⟩ rfl fun ⟨b1, c1⟩ _ => ?_
    (first | refine wX ?_ | exact wZ)
    exact ⟨(b1, c1), trivial, rfl, wkE_refl _, wkE_refl _, wkE_refl _, wkH_nil _⟩
end Go.Proofs.YteejemdibfbccaaDoor

/-
  Contracts: what stands at the present place: a letter, a dot, a blank (program).
-/
namespace Go.Proofs.YteejemdibfbccaaDoor
open Go.AX Go.RowKit Go.Scan
set_option maxRecDepth 20000

set_option maxHeartbeats 1000000 in
theorem next_letter (xb : Nat) (s : List UInt8) (p line : Nat) (l : List Tok) (ob : Option Nat) (cap here : Nat) (sp : Bool) {c : UInt8} (hc : s[p]? = some c) (hlt : ltr c = true) (hl : l.length ≤ 900000) (hob : ob = none → l = []) (hs : s.length ≤ 1000000) :
    SpecH Tryd.prog 24 [.c (.v (.pointer (some ⟨xb, 0, none⟩)))] [scE xb s p line ob l.length cap here sp, toE l ob cap, .fact ScanF]
      (RetG (ι := Nat × Nat) (fun _ => True) (fun _ => .tuple #[]) fun ⟨b, c⟩ => [scE xb s (wordsK s p l).2 line (some b) (l.length + 1) c here false, toE (l ++ [⟨(wordsK s p l).1, wordW s p, sp, line, none, 0, 0⟩]) (some b) c, .fact ScanF]) := by
  have hbl : blk c = false := by
    simp [ltr, sml, grt] at hlt
    simp [blk]
    omega
  have hn : 65 ≤ c.toNat := by
    simp [ltr, sml, grt] at hlt
    omega
  refine ownC hm Tryd.func24 (by kernel_rfl) rfl rfl (fun _ _ => okHB_eq rfl) (fun _ _ => Nat.le_refl _) ?_
  have hz := bs_size s
  have hp : p < s.length := (List.getElem?_eq_some_iff.1 hc).1
  (first | refine wX ?_ | exact wZ)
  refine LdN.one (a := some ⟨xb, 0, none⟩) (q := 0) (.string (bs s)) rfl (fun w hw => hw.1) rfl ?_
  (first | refine wX ?_ | exact wZ)
  refine LdN.one (a := some ⟨xb, 0, none⟩) (q := 1) (.int .i64 ((p : Nat) : Int)) rfl (fun w hw => hw.1) rfl ?_
  (first | refine wX ?_ | exact wZ)
  rw [Int.toNat_natCast, byteAt_get hc]
  (first | refine wX ?_ | exact wZ)
  refine call1 (blk_c c _) ?_
  rw [hbl]
  (first | refine wX ?_ | exact wZ)
  refine brd_eq (fun h => absurd h (by omega)) (fun _ => ?_)
  (first | refine wX ?_ | exact wZ)
  refine brd_eq (fun h => absurd h (by omega)) (fun _ => ?_)
  (first | refine wX ?_ | exact wZ)
  refine brd_eq (fun h => absurd h (by omega)) (fun _ => ?_)
  (first | refine wX ?_ | exact wZ)
  refine call1 (ltr_c c _) ?_
  rw [hlt]
  (first | refine wX ?_ | exact wZ)
  refine callG (words_c xb s p line l ob cap here sp hl hob hs hp) [0, 1, 2] rfl ⟨rfl, rfl, rfl, trivial⟩ rfl fun ⟨b1, c1⟩ _ => ?_
  (first | refine wX ?_ | exact wZ)
  exact ⟨(b1, c1), trivial, rfl, wkE_refl _, wkE_refl _, wkE_refl _, wkH_nil _⟩
theorem next_blank (xb : Nat) (s : List UInt8) (p line : Nat) (ob : Option Nat) (n cap here : Nat) (sp : Bool) {c : UInt8} (hc : s[p]? = some c) (hbl : blk c = true) (hs : s.length ≤ 1000000) :
    SpecH Tryd.prog 24 [.c (.v (.pointer (some ⟨xb, 0, none⟩)))] [scE xb s p line ob n cap here sp]
      (RetG (ι := Unit) (fun _ => True) (fun _ => .tuple #[]) fun _ => [scE xb s (p + 1) line ob n cap here true]) := by
  refine ownC hm Tryd.func24 (by kernel_rfl) rfl rfl (fun _ _ => okHB_eq rfl) (fun _ _ => Nat.le_refl _) ?_
  have hz := bs_size s
  have hp : p < s.length := (List.getElem?_eq_some_iff.1 hc).1
  (first | refine wX ?_ | exact wZ)
  refine LdN.one (a := some ⟨xb, 0, none⟩) (q := 0) (.string (bs s)) rfl (fun w hw => hw.1) rfl ?_
  (first | refine wX ?_ | exact wZ)
  refine LdN.one (a := some ⟨xb, 0, none⟩) (q := 1) (.int .i64 ((p : Nat) : Int)) rfl (fun w hw => hw.1) rfl ?_
  (first | refine wX ?_ | exact wZ)
  rw [Int.toNat_natCast, byteAt_get hc]
  (first | refine wX ?_ | exact wZ)
  refine call1 (blk_c c _) ?_
  rw [hbl]
  (first | refine wX ?_ | exact wZ)
  refine LdN.one (a := some ⟨xb, 0, none⟩) (q := 1) (.int .i64 ((p : Nat) : Int)) rfl (fun w hw => hw.1) rfl ?_
  (first | refine wX ?_ | exact wZ)
  refine EffW.appTo (i := 0) (q := 1) (ys := [_]) (scC s (p + 1) line ob n cap here sp) 6 rfl rfl rfl rfl rfl rfl rfl (Nat.le_of_ble_eq_true rfl) (by
    show [_, Value.int .i64 _, _, _, _, _] = [_, Value.int .i64 _, _, _, _, _]
    rw [wrap_i64 (by omega)]
    rfl) rfl ?_
  (first | refine wX ?_ | exact wZ)
  refine EffW.appTo (i := 0) (q := 5) (ys := [_]) (scC s (p + 1) line ob n cap here true) 6 rfl rfl rfl rfl rfl rfl rfl (Nat.le_of_ble_eq_true rfl) rfl rfl ?_
  (first | refine wX ?_ | exact wZ)
  exact ⟨(), trivial, rfl, wkE_refl _, wkH_nil _⟩
theorem next_dot (xb : Nat) (s : List UInt8) (p line : Nat) (l : List Tok) (ob : Option Nat) (cap here : Nat) (sp : Bool) (hc : s[p]? = some 46) (best : List UInt8) (hbest : bestS (s.drop p) (Lib.fields sgs) = best) (hne : best ≠ []) (hl : l.length ≤ 900000) (hob : ob = none → l = []) (hs : s.length ≤ 1000000) (hbl : best.length ≤ 1000) :
    SpecH Tryd.prog 24 [.c (.v (.pointer (some ⟨xb, 0, none⟩)))] [scE xb s p line ob l.length cap here sp, toE l ob cap, .fact ScanF]
      (RetG (ι := Nat × Nat) (fun _ => True) (fun _ => .tuple #[]) fun ⟨b, c⟩ => [scE xb s (p + best.length) line (some b) (l.length + 1) c here false, toE (l ++ [⟨7, best, sp, line, none, 0, 0⟩]) (some b) c, .fact ScanF]) := by
  refine ownC hm Tryd.func24 (by kernel_rfl) rfl rfl (fun _ _ => okHB_eq rfl) (fun _ _ => Nat.le_refl _) ?_
  have hz := bs_size s
  have hp : p < s.length := (List.getElem?_eq_some_iff.1 hc).1
  (first | refine wX ?_ | exact wZ)
  refine LdN.one (a := some ⟨xb, 0, none⟩) (q := 0) (.string (bs s)) rfl (fun w hw => hw.1) rfl ?_
  (first | refine wX ?_ | exact wZ)
  refine LdN.one (a := some ⟨xb, 0, none⟩) (q := 1) (.int .i64 ((p : Nat) : Int)) rfl (fun w hw => hw.1) rfl ?_
  (first | refine wX ?_ | exact wZ)
  rw [Int.toNat_natCast, byteAt_get hc]
  (first | refine wX ?_ | exact wZ)
  refine call1 (blk_c 46 _) ?_
  (first | refine wX ?_ | exact wZ)
  refine call1 (ltr_c 46 _) ?_
  (first | refine wX ?_ | exact wZ)
  refine call1 (dig_c 46 _) ?_
  (first | refine wX ?_ | exact wZ)
  refine callG (signs_c xb s p line l ob cap here sp best hbest hne hl hob hs (by omega) hbl) [0, 1, 2] rfl ⟨rfl, rfl, rfl, trivial⟩ rfl fun ⟨b1, c1⟩ _ => ?_
  (first | refine wX ?_ | exact wZ)
  exact ⟨(b1, c1), trivial, rfl, wkE_refl _, wkE_refl _, wkE_refl _, wkH_nil _⟩
end Go.Proofs.YteejemdibfbccaaDoor

/-
  Contract: Scan of the chapter's example (program).
-/
namespace Go.Proofs.YteejemdibfbccaaDoor
open Go.AX Go.RowKit Go.Scan
set_option maxRecDepth 20000

/-- a.b c? -/
def exS : List UInt8 := [97, 46, 98, 32, 99, 63]
def exT : List Tok := [⟨1, [97], false, 1, none, 0, 0⟩, ⟨7, [46], false, 1, none, 0, 0⟩, ⟨1, [98], false, 1, none, 0, 0⟩, ⟨1, [99, 63], true, 1, none, 0, 0⟩]
def ExR (v : Value) (G : World → Prop) : Prop := ∃ (b cap : Nat), v = .tuple #[.slice (some ⟨b, 0, none⟩) 4 cap, .int .i64 0, .int .i64 0] ∧ ∀ w, G w → SlAt (some ⟨b, 0, none⟩) 20 (toksC exT) w
def capsOf (t : Array Value) : Array Value := #[t[2]?.getD undef, t[3]?.getD undef, t[4]?.getD undef]
theorem hD_c (id T1 : Nat) (p1 p2 : String) (g1 g2 : _) (t : Array Value) (w : World) (Q : Exit → Act → World → Prop) (ht : 12 < t.size) (h : Q .normal { tmps := t.setIfInBounds 12 (.func (.func 23) #[] (capsOf t)), defers := [⟨.fn (.func 23) (capsOf t), #[]⟩] } w) :
    (Code.region id #[{ dst := some 12, op := .makeFunc (.func 23) #[] #[.tmp 2, .tmp 3, .tmp 4], type := T1, pos := p1, after := g1, guard := none }, { dst := none, op := .defer { callee := .value (.tmp 12), args := #[], argTypes := #[] }, type := 0, pos := p2, after := g2, guard := none }] false).wp Tryd.prog Q { tmps := t, defers := [] } w := by
  refine wp_region_list ?_
  simp [wpList, go_sem, ht]
  exact .inl (.inl h)
def posJ : Nat → Nat | 0 => 0 | 1 => 1 | 2 => 2 | 3 => 3 | 4 => 4 | _ => 6
def tokJ : Nat → List Tok | 0 => [] | 1 => exT.take 1 | 2 => exT.take 2 | 3 => exT.take 3 | 4 => exT.take 3 | _ => exT
def spJ : Nat → Bool | 4 => true | _ => false
theorem ScanEx_c : SpecF Tryd.prog 11 [.string (bs exS)] ScanF ExR := by
  refine specF_of (spec_of_defer (g := 23) (d := 12) (cp := capsOf) hm Tryd.func11 (by kernel_rfl) rfl (fun t w Q ht h => hD_c _ _ _ _ _ _ t w Q ht h) (fun t w => by simp [go_sem, capsOf]) (fun t w => quiet_c _ _ _ w) rfl ?_)
  (conv => whnf)
  refine BoxN.own ?_
  (conv => whnf)
  refine BoxN.own ?_
  (conv => whnf)
  refine BoxN.own ?_
  ((conv => whnf); (repeat ((first | refine RwN.own ?_ | refine VrN.norm (wrap_i64 (by omega)) ?_ | refine VrN.keep ?_ | refine DrawN.calm (by decide +kernel) ?_ | refine Nd.mk (by decide +kernel) ?_ | refine Nd.mk (by omega) ?_ | (refine Nd.mk ?_ ?_; focus ((repeat' (first | exact trivial | exact wkE_refl _ | refine And.intro ?_ ?_)); done)) | refine RdN.intro _ rfl (by rfl) ?_); (conv => whnf))))
  refine BoxN.known [.string (bs exS), .int .i64 0, .int .i64 1, .slice none 0 0, .int .i64 0, .bool false] rfl fun xb => ?_
  (first | refine wX ?_ | exact wZ)
  refine ⟨rfl, ?_⟩
  (first | refine wX ?_ | exact wZ)
  refine LoopN.intro (Nat × Option Nat × Nat) (fun ⟨j, ob, cap⟩ => j ≤ 5 ∧ (ob = none → j = 0)) (fun ⟨_, _, _⟩ => mkS Tryd.f11.ntmps 0 [(2, .c (.lp 1 0)), (3, .c (.lp 2 0)), (4, .c (.lp 3 0)), (5, .c (.v (.pointer (some ⟨xb, 0, none⟩))))])
    (fun ⟨j, ob, cap⟩ => [.fact ScanF, .blk 24 (cellsV (.slice none 0 0)), .blk 3 (cellsV (.int .i64 0)), .blk 25 (cellsV (.int .i64 0)), scE xb exS (posJ j) 1 ob (tokJ j).length cap 0 (spJ j), toE (tokJ j) ob cap]) (fun ⟨j, _, _⟩ => 5 - j) [.app 0 0 [] none 0 0] rfl (fun _ => rfl) (fun _ => rfl) (fun _ _ => okHB_eq rfl) ⟨(0, none, 0), ⟨Nat.zero_le _, fun _ => rfl⟩, ?_, ⟨wkE_refl _, wkE_refl _, wkE_refl _, wkE_refl _, wkE_refl _, wkE_nil, wkH_nil _⟩⟩ ?_
  · (repeat' (first | exact trivial | refine And.intro (by with_reducible rfl) ?_ | (with_reducible exact wkC_refl _) | (with_reducible exact wkCs_refl _) | refine And.intro ?_ ?_))
    all_goals rfl
  rintro ⟨j, ob, cap⟩ ⟨hj, hob⟩
  have hall : j = 0 ∨ j = 1 ∨ j = 2 ∨ j = 3 ∨ j = 4 ∨ j = 5 := by omega
  rcases hall with rfl | rfl | rfl | rfl | rfl | rfl
  · (first | refine wX ?_ | exact wZ)
    refine LdN.one (a := some ⟨xb, 0, none⟩) (q := 1) (.int .i64 ((posJ 0 : Nat) : Int)) rfl (fun w hw => hw.2.1) rfl ?_
    (first | refine wX ?_ | exact wZ)
    refine LdN.one (a := some ⟨xb, 0, none⟩) (q := 0) (.string (bs exS)) rfl (fun w hw => hw.2.1) rfl ?_
    (first | refine wX ?_ | exact wZ)
    refine callG (next_letter xb exS 0 1 [] ob cap 0 false (c := 97) rfl (by decide) (by decide) (fun _ => rfl) (by decide)) [4, 5, 0] rfl ⟨rfl, rfl, rfl, trivial⟩ rfl fun ⟨b1, c1⟩ _ => ?_
    rw [show wordsK exS 0 [] = (1, 1) by decide +kernel, show wordW exS 0 = [97] by decide +kernel]
    (first | refine wX ?_ | exact wZ)
    refine ⟨(1, some b1, c1), ⟨by omega, fun h => by cases h⟩, Nat.le_of_ble_eq_true rfl, ?_, ⟨wkE_refl _, wkE_refl _, wkE_refl _, wkE_refl _, wkE_refl _, wkE_refl _, wkH_nil _⟩⟩
    (repeat' (first | exact trivial | refine And.intro (by with_reducible rfl) ?_ | (with_reducible exact wkC_refl _) | (with_reducible exact wkCs_refl _) | refine And.intro ?_ ?_))
    all_goals rfl
  · (first | refine wX ?_ | exact wZ)
    refine LdN.one (a := some ⟨xb, 0, none⟩) (q := 1) (.int .i64 ((posJ 1 : Nat) : Int)) rfl (fun w hw => hw.2.1) rfl ?_
    (first | refine wX ?_ | exact wZ)
    refine LdN.one (a := some ⟨xb, 0, none⟩) (q := 0) (.string (bs exS)) rfl (fun w hw => hw.2.1) rfl ?_
    (first | refine wX ?_ | exact wZ)
    refine callG (next_dot xb exS 1 1 (tokJ 1) ob cap 0 false rfl [46] (by decide +kernel) (by decide) (by decide) (fun h => absurd (hob h) (by decide)) (by decide) (by decide)) [4, 5, 0] rfl ⟨rfl, rfl, rfl, trivial⟩ rfl fun ⟨b1, c1⟩ _ => ?_
    (first | refine wX ?_ | exact wZ)
    refine ⟨(2, some b1, c1), ⟨by omega, fun h => by cases h⟩, Nat.le_of_ble_eq_true rfl, ?_, ⟨wkE_refl _, wkE_refl _, wkE_refl _, wkE_refl _, wkE_refl _, wkE_refl _, wkH_nil _⟩⟩
    (repeat' (first | exact trivial | refine And.intro (by with_reducible rfl) ?_ | (with_reducible exact wkC_refl _) | (with_reducible exact wkCs_refl _) | refine And.intro ?_ ?_))
    all_goals rfl
  · (first | refine wX ?_ | exact wZ)
    refine LdN.one (a := some ⟨xb, 0, none⟩) (q := 1) (.int .i64 ((posJ 2 : Nat) : Int)) rfl (fun w hw => hw.2.1) rfl ?_
    (first | refine wX ?_ | exact wZ)
    refine LdN.one (a := some ⟨xb, 0, none⟩) (q := 0) (.string (bs exS)) rfl (fun w hw => hw.2.1) rfl ?_
    (first | refine wX ?_ | exact wZ)
    refine callG (next_letter xb exS 2 1 (tokJ 2) ob cap 0 false (c := 98) rfl (by decide) (by decide) (fun h => absurd (hob h) (by decide)) (by decide)) [4, 5, 0] rfl ⟨rfl, rfl, rfl, trivial⟩ rfl fun ⟨b1, c1⟩ _ => ?_
    rw [show wordsK exS 2 (tokJ 2) = (1, 3) by decide +kernel, show wordW exS 2 = [98] by decide +kernel]
    (first | refine wX ?_ | exact wZ)
    refine ⟨(3, some b1, c1), ⟨by omega, fun h => by cases h⟩, Nat.le_of_ble_eq_true rfl, ?_, ⟨wkE_refl _, wkE_refl _, wkE_refl _, wkE_refl _, wkE_refl _, wkE_refl _, wkH_nil _⟩⟩
    (repeat' (first | exact trivial | refine And.intro (by with_reducible rfl) ?_ | (with_reducible exact wkC_refl _) | (with_reducible exact wkCs_refl _) | refine And.intro ?_ ?_))
    all_goals rfl
  · (first | refine wX ?_ | exact wZ)
    refine LdN.one (a := some ⟨xb, 0, none⟩) (q := 1) (.int .i64 ((posJ 3 : Nat) : Int)) rfl (fun w hw => hw.2.1) rfl ?_
    (first | refine wX ?_ | exact wZ)
    refine LdN.one (a := some ⟨xb, 0, none⟩) (q := 0) (.string (bs exS)) rfl (fun w hw => hw.2.1) rfl ?_
    (first | refine wX ?_ | exact wZ)
    refine callG (next_blank xb exS 3 1 ob 3 cap 0 false (c := 32) rfl (by decide) (by decide)) [4] rfl ⟨rfl, trivial⟩ rfl fun _ _ => ?_
    (first | refine wX ?_ | exact wZ)
    refine ⟨(4, ob, cap), ⟨by omega, fun h => absurd (hob h) (by decide)⟩, Nat.le_of_ble_eq_true rfl, ?_, ⟨wkE_refl _, wkE_refl _, wkE_refl _, wkE_refl _, wkE_refl _, wkE_refl _, wkH_nil _⟩⟩
    (repeat' (first | exact trivial | refine And.intro (by with_reducible rfl) ?_ | (with_reducible exact wkC_refl _) | (with_reducible exact wkCs_refl _) | refine And.intro ?_ ?_))
    all_goals rfl
  · (first | refine wX ?_ | exact wZ)
    refine LdN.one (a := some ⟨xb, 0, none⟩) (q := 1) (.int .i64 ((posJ 4 : Nat) : Int)) rfl (fun w hw => hw.2.1) rfl ?_
    (first | refine wX ?_ | exact wZ)
    refine LdN.one (a := some ⟨xb, 0, none⟩) (q := 0) (.string (bs exS)) rfl (fun w hw => hw.2.1) rfl ?_
    (first | refine wX ?_ | exact wZ)
    refine callG (next_letter xb exS 4 1 (tokJ 4) ob cap 0 true (c := 99) rfl (by decide) (by decide) (fun h => absurd (hob h) (by decide)) (by decide)) [4, 5, 0] rfl ⟨rfl, rfl, rfl, trivial⟩ rfl fun ⟨b1, c1⟩ _ => ?_
    rw [show wordsK exS 4 (tokJ 4) = (1, 6) by decide +kernel, show wordW exS 4 = [99, 63] by decide +kernel]
    (first | refine wX ?_ | exact wZ)
    refine ⟨(5, some b1, c1), ⟨by omega, fun h => by cases h⟩, Nat.le_of_ble_eq_true rfl, ?_, ⟨wkE_refl _, wkE_refl _, wkE_refl _, wkE_refl _, wkE_refl _, wkE_refl _, wkH_nil _⟩⟩
    (repeat' (first | exact trivial | refine And.intro (by with_reducible rfl) ?_ | (with_reducible exact wkC_refl _) | (with_reducible exact wkCs_refl _) | refine And.intro ?_ ?_))
    all_goals rfl
  · obtain ⟨g, rfl⟩ : ∃ g, ob = some g := by
      cases ob with
      | none => exact absurd (hob rfl) (by decide)
      | some g => exact ⟨g, rfl⟩
    (first | refine wX ?_ | exact wZ)
    refine LdN.one (a := some ⟨xb, 0, none⟩) (q := 1) (.int .i64 ((posJ 5 : Nat) : Int)) rfl (fun w hw => hw.2.1) rfl ?_
    (first | refine wX ?_ | exact wZ)
    refine LdN.one (a := some ⟨xb, 0, none⟩) (q := 0) (.string (bs exS)) rfl (fun w hw => hw.2.1) rfl ?_
    (first | refine wX ?_ | exact wZ)
    refine loopS Unit (fun _ => True) (fun _ => mkS Tryd.f11.ntmps 0 [(2, .c (.lp 1 0)), (3, .c (.lp 2 0)), (4, .c (.lp 3 0)), (5, .c (.v (.pointer (some ⟨xb, 0, none⟩))))]) (fun _ => 0) rfl (fun _ => rfl) () trivial ?_ ?_
    · (repeat' (first | exact trivial | refine And.intro (by with_reducible rfl) ?_ | (with_reducible exact wkC_refl _) | (with_reducible exact wkCs_refl _) | refine And.intro ?_ ?_))
      all_goals rfl
    intro _ _
    (first | refine wX ?_ | exact wZ)
    refine LdN.one (a := some ⟨xb, 0, none⟩) (q := 3) (.slice (some ⟨g, 0, none⟩) 4 cap) rfl (fun w hw => hw.2.1) rfl ?_
    (first | refine wX ?_ | exact wZ)
    (first | refine wX ?_ | exact wZ)
    refine LdN.one (a := some ⟨xb, 0, none⟩) (q := 3) (.slice (some ⟨g, 0, none⟩) 4 cap) rfl (fun w hw => hw.2.1) rfl ?_
    (first | refine wX ?_ | exact wZ)
    (first | refine wX ?_ | exact wZ)
    refine LdN.one (a := some ⟨xb, 0, none⟩) (q := 3) (.slice (some ⟨g, 0, none⟩) 4 cap) rfl (fun w hw => hw.2.1) rfl ?_
    (first | refine wX ?_ | exact wZ)
    rw [show IntKind.i64.wrap (((4 : Nat) : Int) - 1) = ((3 : Nat) : Int) by decide]
    refine Nd.mk ⟨rfl, by decide, by decide⟩ ?_
    (first | refine wX ?_ | exact wZ)
    refine LdN.fld (.int .i64 1) rfl (fun w hw => hw.2.2.1) (by rfl) ?_
    (first | refine wX ?_ | exact wZ)
    (first | refine wX ?_ | exact wZ)
    refine LdN.one (a := some ⟨xb, 0, none⟩) (q := 3) (.slice (some ⟨g, 0, none⟩) 4 cap) rfl (fun w hw => hw.2.1) rfl ?_
    (first | refine wX ?_ | exact wZ)
    refine fin_p (fun w => SlAt (some ⟨g, 0, none⟩) 20 (toksC exT) w) ⟨g, cap, rfl, fun w hw => hw⟩ (fun w hw => hw.2.2.1)
end Go.Proofs.YteejemdibfbccaaDoor

/-
  Contracts: the chapter's example (law); lists that have a text; Starts (program, document).
-/
namespace Go.Proofs.YteejemdibfbccaaDoor
open Go.AX Go.RowKit Go.Scan
set_option maxRecDepth 20000

theorem sane_c : ∀ H, (∀ w, Facts H w → ScanF w) → SpecH Tryd.prog 12 (pvs []) H (Ret (.bool true) H) := by
  refine factC hm Tryd.func12 (by kernel_rfl) rfl rfl ?_
  (first | refine wX ?_ | exact wZ)
  refine SpecF.call ScanEx_c (fun w hw => hw.1) fun v G hR => ?_
  obtain ⟨b, cap, rfl, hG⟩ := hR
  (first | refine wX ?_ | exact wZ)
  refine Nd.mk ⟨rfl, by decide, by decide⟩ ?_
  (first | refine wX ?_ | exact wZ)
  refine LdN.fld (.string (bs [99, 63])) rfl (fun w hw => hG w hw.2.1) (by rfl) ?_
  (first | refine wX ?_ | exact wZ)
  refine Nd.mk ⟨rfl, by decide, by decide⟩ ?_
  (first | refine wX ?_ | exact wZ)
  refine LdN.fld (.bool true) rfl (fun w hw => hG w hw.2.1) (by rfl) ?_
  (first | refine wX ?_ | exact wZ)
end Go.Proofs.YteejemdibfbccaaDoor

/-
  What the rows list, and what it gives; a token as it is read (argument).
-/
namespace Go.Proofs.YteejemdibfbccaaDoor
open Go.ChangeShapes Go.WideShapes Go.ChangeAt Go.RowKit Go.AX
set_option maxRecDepth 100000

/-- What the rows list. -/
def laid3 : List (String × DataW Unit) := [("unicode/utf8.acceptRanges", Rows.laid_unicode_utf8_acceptRanges), ("unicode.White_Space", Rows.laid_unicode_White_Space), ("strings.asciiSpace", Rows.laid_strings_asciiSpace), ("unicode/utf8.first", Rows.laid_unicode_utf8_first)]
theorem door_met (os : Os) (args : Array Value) : laidMetH Tryd.prog laid3 ((World.laidAll Tryd.prog os laid3).forCall (fun _ _ => 0) ⟨#[], args, []⟩).memory := by
  rw [MakeChecks.laidMetH_plain _ _ _ (by kernel_rfl)]; exact laidMet_laidAll _ (by kernel_rfl) (by kernel_rfl)
theorem space_of {W : World} (h : laidMetH Tryd.prog laid3 W) : Lib.TabIs Tryd.prog W "strings.asciiSpace" .u8 Lib.asciiSpaceTab := by
  rw [MakeChecks.laidMetH_plain _ _ _ (by kernel_rfl)] at h
  exact Lib.tabIs_of_head (g := 0) (t := 78) (e := 5) (n := 256) (by kernel_rfl) (by kernel_rfl) (by kernel_rfl) (by kernel_rfl) (by kernel_rfl) (by kernel_rfl) (laid_tail (laid_tail h))
theorem scan_of {W : World} (h : W.ShapedOpen Tryd.prog) (hL : laidMetH Tryd.prog laid3 W) : ScanF W := ⟨max_of h, space_of hL⟩
theorem scan_imm {W : World} (h : ScanF W) : Imm (fun b => b < W.heap.size) W ScanF := (max_imm h.1).and (tab_imm h.2)
end Go.Proofs.YteejemdibfbccaaDoor

/-
  AX, twenty-seventh text: arguments that are slices of structs.
-/
namespace Go.AX
open Go.ChangeShapes Go.WideShapes Go.ChangeAt Go.RowKit

theorem choose_list {α : Type} {R : Nat → α → Prop} : ∀ n, (∀ i, i < n → ∃ x, R i x) → ∃ l : List α, l.length = n ∧ ∀ i x, l[i]? = some x → R i x
  | 0, _ => ⟨[], rfl, fun i x h => by simp at h⟩
  | n + 1, h => by
    obtain ⟨l, hl, hR⟩ := choose_list n fun i hi => h i (by omega)
    obtain ⟨x, hx⟩ := h n (by omega)
    refine ⟨l ++ [x], by simp [hl], fun i y hy => ?_⟩
    by_cases hi : i < l.length
    · rw [List.getElem?_append_left hi] at hy
      exact hR i y hy
    · have hlt := (List.getElem?_eq_some_iff.1 hy).1
      simp only [List.length_append, List.length_cons, List.length_nil] at hlt
      have e : i = l.length := by omega
      subst e
      simp at hy
      subst hy
      rw [hl]; exact hx
section
variable {H : Type} {enc : TypeId × Value → H} {P : Program} {w : World}
theorem weights_all {e : TypeId} : ∀ {l : List (DataW H)} {d : DataW H}, d ∈ l → ∀ k ∈ d.weights P e, k ∈ DataW.weightsAll P e l
  | [], _, h, _, _ => by cases h
  | a :: l, d, h, k, hk => by
    rw [DataW.weightsAll, List.mem_append]
    rcases List.mem_cons.1 h with rfl | h
    · exact .inl hk
    · exact .inr (weights_all h k hk)
/-- A slice of structs: g lays one out, Q is what the reading says of it. -/
theorem known_rows {α : Type} {Q : α → Prop} {m : Nat} (g : α → List Value) (hg : ∀ x, (g x).length = m) {t e : TypeId} {v : Value} {d : DataW H} {ps : List MemPlace} {ts : List TypeId} {ds : List (DataW H)} {j : Nat} (ht : P.underlying t = some (.slice e)) (hc : P.cellsOf e = m) (hb : 1 ≤ P.bytesOf e)
    (hread : ∀ n cs (y : DataW H × List MemPlace), DataW.trod enc P w 0 (fun _ => true) true n e cs = some y → (∀ k ∈ y.1.weights P e, k ≤ reachBytes) → ∃ x, Q x ∧ cs = g x)
    (hsz : (DataW.weightsEach P ts ds).all (· ≤ reachBytes) = true) (hj : ts[j]? = some t) (hd : ds[j]? = some d)
    {r : Reach} {b : Nat} (hv : Value.okWide P w r b t v) (h : DataW.Trod enc P w 0 (fun _ => true) true t v d ps) : ∃ (a : Option Addr) (l : List α) (cap : Nat), v = .slice a l.length cap ∧ l.length ≤ 200000000000000 ∧ Imm (fun b => b < w.heap.size) w (SlAt a (l.length * m) (l.flatMap g)) ∧ (a = none → l = []) ∧ ∀ x ∈ l, Q x := by
  obtain ⟨a, n, c, rfl⟩ := okWide_slice ht hv
  obtain ⟨fuel, hf⟩ := h
  rcases DataW.trod_slice ht hf with ⟨h1, h2⟩ | ⟨a, len, cap, elems, rest, n, _, h1, h2, _, _, _, hlen, hel, _⟩
  · refine ⟨none, [], 0, by simpa [Value.cells] using h1, by simp, ?_, fun _ => rfl, by simp⟩
    rw [List.length_nil, Nat.zero_mul]
    exact SlAt.nil.imm
  · simp only [Prod.mk.injEq] at h2
    rw [h2.1] at hd
    have hs := sized_slice hsz hj hd ht
    have hr : reachBytes < 200000000000000 := by decide
    have hb' : len ≤ reachBytes := by
      rw [List.length_map, hlen] at hs
      exact Nat.le_trans (Nat.le_trans (Nat.le_add_right _ _) (Nat.le_mul_of_pos_right _ hb)) hs
    have hall : ∀ k ∈ (DataW.slice (elems.map (·.1)) (rest.map (·.1))).weights P t, k ≤ reachBytes := fun k hk => by
      have := List.all_eq_true.1 hsz _ (DataW.weights_mem_each hj hd k hk)
      simpa using this
    have hx : ∀ i, i < len → ∃ x, Q x ∧ ∀ q, q < m → w.cell? (a.add (i * m + q)) = (g x)[q]? := fun i hi => by
      have hi2 := hel i hi
      rw [hc, List.getElem?_eq_getElem (by omega)] at hi2
      obtain ⟨cs, hcs, hy⟩ := Option.bind_eq_some_iff.1 hi2
      obtain ⟨x, hQ, rfl⟩ := hread n cs _ hy fun k hk => by
        refine hall k ?_
        simp only [DataW.weights, ht, List.mem_cons, List.mem_append]
        exact .inr (.inl (weights_all (List.mem_map.2 ⟨_, List.getElem_mem _, rfl⟩) k hk))
      refine ⟨x, hQ, fun q hq => ?_⟩
      obtain ⟨_, _, hcell⟩ := World.cells?_some hcs
      have := hcell q hq
      rwa [Addr.add_add] at this
    obtain ⟨l, hl, hR⟩ := choose_list len hx
    refine ⟨some a, l, cap, by rw [hl]; simpa [Value.cells] using h1, by omega, ?_, (fun h => by cases h), fun x hx => ?_⟩
    · refine SlAt.imm ⟨flat_len hg l, fun _ => rfl, fun q hq => ?_⟩
      have hm : 0 < m := Nat.pos_of_ne_zero fun e => by rw [e] at hq; simp at hq
      have hq2 : q = q / m * m + q % m := by rw [Nat.mul_comm]; exact (Nat.div_add_mod q m).symm
      have hqi : q / m < l.length := Nat.div_lt_of_lt_mul (by rw [Nat.mul_comm]; exact hq)
      have hqm := Nat.mod_lt q hm
      show w.cell? (a.add q) = _
      rw [hq2, flat_get hg l _ _ hqm, List.getElem?_eq_getElem hqi]
      exact (hR _ _ (List.getElem?_eq_getElem hqi)).2 _ hqm
    · obtain ⟨i, hi⟩ := List.getElem?_of_mem hx
      exact (hR i x hi).1
end
end Go.AX

/-
  AX, thirty-seventh text: slices that stand in the cells of a slice's structs.
-/
namespace Go.AX
open Go.ChangeShapes Go.WideShapes Go.ChangeAt Go.RowKit
section
variable {H : Type} {enc : TypeId × Value → H} {P : Program} {w : World}
/-- A slice in a cell, as it is read: g lays an item out, Q is what the reading says of it. -/
theorem rows_in {α : Type} {Q : α → Prop} {m : Nat} (g : α → List Value) (hg : ∀ x, (g x).length = m) {t e : TypeId} {fuel : Nat} {cs : List Value} {y : DataW H × List MemPlace} (ht : P.underlying t = some (.slice e)) (hc : P.cellsOf e = m) (hb : 1 ≤ P.bytesOf e)
    (hread : ∀ n cs (y : DataW H × List MemPlace), DataW.trod enc P w 0 (fun _ => true) true n e cs = some y → (∀ k ∈ y.1.weights P e, k ≤ reachBytes) → ∃ x, Q x ∧ cs = g x)
    (h : DataW.trod enc P w 0 (fun _ => true) true fuel t cs = some y) (hwt : ∀ k ∈ y.1.weights P t, k ≤ reachBytes) :
    ∃ (a : Option Addr) (l : List α) (cap : Nat), cs = [.slice a l.length cap] ∧ l.length ≤ 200000000000000 ∧ SlAt a (l.length * m) (l.flatMap g) w ∧ (a = none → l = []) ∧ ∀ x ∈ l, Q x := by
  rcases DataW.trod_slice ht h with ⟨h1, h2⟩ | ⟨a, len, cap, elems, rest, n, _, h1, h2, _, _, _, hlen, hel, _⟩
  · refine ⟨none, [], 0, by simpa using h1, by simp, ?_, fun _ => rfl, by simp⟩
    rw [List.length_nil, Nat.zero_mul]
    exact SlAt.nil
  · rw [h2] at hwt
    have hall : ∀ k ∈ (DataW.slice (elems.map (·.1)) (rest.map (·.1))).weights P t, k ≤ reachBytes := hwt
    have hs : (elems.length + rest.length) * P.bytesOf e ≤ reachBytes := by
      have := hall ((elems.length + rest.length) * P.bytesOf e) (by simp [DataW.weights, ht])
      exact this
    have hr : reachBytes < 200000000000000 := by decide
    have hb' : len ≤ reachBytes := by
      rw [hlen] at hs
      exact Nat.le_trans (Nat.le_trans (Nat.le_add_right _ _) (Nat.le_mul_of_pos_right _ hb)) hs
    have hx : ∀ i, i < len → ∃ x, Q x ∧ ∀ q, q < m → w.cell? (a.add (i * m + q)) = (g x)[q]? := fun i hi => by
      have hi2 := hel i hi
      rw [hc, List.getElem?_eq_getElem (by omega)] at hi2
      obtain ⟨cs, hcs, hy⟩ := Option.bind_eq_some_iff.1 hi2
      obtain ⟨x, hQ, rfl⟩ := hread n cs _ hy fun k hk => by
        refine hall k ?_
        simp only [DataW.weights, ht, List.mem_cons, List.mem_append]
        exact .inr (.inl (weights_all (List.mem_map.2 ⟨_, List.getElem_mem _, rfl⟩) k hk))
      refine ⟨x, hQ, fun q hq => ?_⟩
      obtain ⟨_, _, hcell⟩ := World.cells?_some hcs
      have := hcell q hq
      rwa [Addr.add_add] at this
    obtain ⟨l, hl, hR⟩ := choose_list len hx
    refine ⟨some a, l, cap, by rw [hl]; exact h1, by omega, ?_, (fun h => by cases h), fun x hx => ?_⟩
    · refine ⟨flat_len hg l, fun _ => rfl, fun q hq => ?_⟩
      have hm : 0 < m := Nat.pos_of_ne_zero fun e => by rw [e] at hq; simp at hq
      have hq2 : q = q / m * m + q % m := by rw [Nat.mul_comm]; exact (Nat.div_add_mod q m).symm
      have hqi : q / m < l.length := Nat.div_lt_of_lt_mul (by rw [Nat.mul_comm]; exact hq)
      have hqm := Nat.mod_lt q hm
      show w.cell? (a.add q) = _
      rw [hq2, flat_get hg l _ _ hqm, List.getElem?_eq_getElem hqi]
      exact (hR _ _ (List.getElem?_eq_getElem hqi)).2 _ hqm
    · obtain ⟨i, hi⟩ := List.getElem?_of_mem hx
      exact (hR i x hi).1
end
/-- Facts of all of a list. -/
theorem Imm.all {α : Type} {S : Nat → Prop} {w : World} {l : List α} {F : α → World → Prop} (h : ∀ x ∈ l, Imm S w (F x)) : Imm S w fun w => ∀ x ∈ l, F x w :=
  ⟨fun x hx => (h x hx).1, fun w' hw x hx => (h x hx).2 w' hw⟩
end Go.AX

/-
  Contracts: tokens that are the same (program).
-/
namespace Go.Proofs.YteejemdibfbccaaDoor
open Go.AX Go.RowKit Go.Scan
set_option maxRecDepth 20000

/-- A token with its parts. -/
structure TokP where
  kind : Int
  text : List UInt8
  space : Bool
  line : Int
  pa : Option Addr
  parts : List (Bool × List UInt8)
  pc : Nat
def partC (p : Bool × List UInt8) : List Value := [.bool p.1, .string (bs p.2)]
def partsC (l : List (Bool × List UInt8)) : List Value := l.flatMap partC
def tokPC (t : TokP) : List Value := [.int .i64 t.kind, .string (bs t.text), .bool t.space, .int .i64 t.line, .slice t.pa t.parts.length t.pc]
def toksPC (l : List TokP) : List Value := l.flatMap tokPC
/-- What is compared. -/
def TokP.er (t : TokP) : Int × List UInt8 × Bool × Int × List (Bool × List UInt8) := (t.kind, t.text, t.space, t.line, t.parts)
def PartsF (t : TokP) (w : World) : Prop := SlAt t.pa (t.parts.length * 2) (partsC t.parts) w
def TokOk (t : TokP) : Prop := (t.pa = none → t.parts = []) ∧ t.parts.length ≤ 200000000000000
def ToksF (a : Option Addr) (l : List TokP) (w : World) : Prop := SlAt a (l.length * 5) (toksPC l) w ∧ ∀ t ∈ l, PartsF t w
theorem partsC_get (l : List (Bool × List UInt8)) (i j : Nat) (hj : j < 2) {p : Bool × List UInt8} (hp : l[i]? = some p) : (partsC l)[i * 2 + j]? = (partC p)[j]? := by
  unfold partsC
  rw [flat_get (g := partC) (m := 2) (fun _ => rfl) l i j hj, hp]
  rfl
theorem toksPC_get (l : List TokP) (i j : Nat) (hj : j < 5) {t : TokP} (ht : l[i]? = some t) : (toksPC l)[i * 5 + j]? = (tokPC t)[j]? := by
  unfold toksPC
  rw [flat_get (g := tokPC) (m := 5) (fun _ => rfl) l i j hj, ht]
  rfl
theorem isS {α : Type} {a : Option Addr} {l : List α} {i : Nat} {x : α} (h : a = none → l = []) (hx : l[i]? = some x) : a.isSome = true := by
  cases a with
  | none => rw [h rfl] at hx; cases hx
  | some b => rfl
theorem take_eq {α : Type} {l m : List α} {i : Nat} {x y : α} (h : l.take i = m.take i) (hx : l[i]? = some x) (hy : m[i]? = some y) : (x = y → l.take (i + 1) = m.take (i + 1)) ∧ (x ≠ y → l ≠ m) := by
  refine ⟨fun e => by rw [List.take_add_one, List.take_add_one, h, hx, hy, e], fun ne e => ne ?_⟩
  rw [e, hy] at hx
  exact (Option.some.inj hx).symm
theorem EqualP_c (a b : Option Addr) (l m : List (Bool × List UInt8)) (ca cb : Nat) (ha : a = none → l = []) (hb : b = none → m = []) (hl : l.length ≤ 200000000000000) (hm2 : m.length ≤ 200000000000000) :
    ∀ H, (∀ w, Facts H w → SlAt a (l.length * 2) (partsC l) w ∧ SlAt b (m.length * 2) (partsC m) w) → SpecH Tryd.prog 29 (pvs [.slice a l.length ca, .slice b m.length cb]) H (Ret (.bool (decide (l = m))) H) := by
  refine factC hm Tryd.func29 (by kernel_rfl) rfl rfl ?_
  (first | refine wX ?_ | exact wZ)
  refine brd_ne (fun h0 => ?_) (fun h0 => ?_)
  · (first | refine wX ?_ | exact wZ)
    exact ret_b (by simp; intro h; exact h0 (by rw [h]))
  have hlm : l.length = m.length := by omega
  (first | refine wX ?_ | exact wZ)
  refine loopS Nat (fun i => i ≤ l.length ∧ l.take i = m.take i) (fun i => mkS Tryd.f29.ntmps 0 [(0, .c (.v (.slice a l.length ca))), (1, .c (.v (.slice b m.length cb))), (12, .c (.v (.int .i64 (l.length : Int)))), (13, .c (.v (.int .i64 (i : Int))))]) (fun i => l.length - i) rfl (fun _ => rfl) 0 ⟨Nat.zero_le _, rfl⟩ ?_ ?_
  · (repeat' (first | exact trivial | refine And.intro (by with_reducible rfl) ?_ | (with_reducible exact wkC_refl _) | (with_reducible exact wkCs_refl _) | refine And.intro ?_ ?_))
    all_goals rfl
  intro i ⟨hi, heq⟩
  (first | refine wX ?_ | exact wZ)
  refine brd_dec (fun h1 => ?_) (fun h1 => ?_)
  · obtain ⟨p, hp⟩ : ∃ p, l[i]? = some p := ⟨_, List.getElem?_eq_getElem (by omega)⟩
    obtain ⟨q, hq⟩ : ∃ q, m[i]? = some q := ⟨_, List.getElem?_eq_getElem (by omega)⟩
    obtain ⟨ht1, ht2⟩ := take_eq heq hp hq
    have hsa := isS ha hp
    have hsb := isS hb hq
    (first | refine wX ?_ | exact wZ)
    refine Nd.mk ⟨hsa, by omega, by omega⟩ ?_
    (first | refine wX ?_ | exact wZ)
    refine LdN.agg (partC p) rfl (fun w hw => hw.1.1) rfl (fun j hj => by
      rw [Int.toNat_natCast]
      exact partsC_get l i j hj hp) ?_
    (first | refine wX ?_ | exact wZ)
    refine Nd.mk ⟨hsb, by omega, by omega⟩ ?_
    (first | refine wX ?_ | exact wZ)
    refine LdN.agg (partC q) rfl (fun w hw => hw.1.2) rfl (fun j hj => by
      rw [Int.toNat_natCast]
      exact partsC_get m i j hj hq) ?_
    (first | refine wX ?_ | exact wZ)
    refine brd_intro (fun h2 => ?_) (fun h2 => ?_)
    · have h3 : (!(p.1 == q.1 && (p.2 == q.2 && true))) = true := h2
      have h4 : p ≠ q := fun h => by subst h; simp at h3
      (first | refine wX ?_ | exact wZ)
      exact ret_b (by simp [ht2 h4])
    · have h3 : (!(p.1 == q.1 && (p.2 == q.2 && true))) = false := h2
      have h4 : p = q := by
        simp at h3
        exact Prod.ext h3.1 h3.2
      (first | refine wX ?_ | exact wZ)
      refine ⟨i + 1, ⟨by omega, ht1 h4⟩, by omega, ?_, by (repeat' (first | exact trivial | exact wkE_refl _ | refine And.intro ?_ ?_))⟩
      (repeat' (first | exact trivial | refine And.intro (by with_reducible rfl) ?_ | (with_reducible exact wkC_refl _) | (with_reducible exact wkCs_refl _) | refine And.intro ?_ ?_))
      all_goals first | rfl | exact av_int (by rw [wrap_i64 (by omega)]; omega)
  · have hie : i = l.length := by omega
    subst hie
    rw [List.take_length, hlm, List.take_length] at heq
    (first | refine wX ?_ | exact wZ)
    exact ret_b (by simp [heq])
def eqB (t u : TokP) : Bool := decide (t.er = u.er)
theorem Same1_c (t u : TokP) (ht : TokOk t) (hu : TokOk u) : ∀ H, (∀ w, Facts H w → PartsF t w ∧ PartsF u w) → SpecH Tryd.prog 28 (pvs [.agg (tokPC t).toArray, .agg (tokPC u).toArray]) H (Ret (.bool (eqB t u)) H) := by
  refine factC hm Tryd.func28 (by kernel_rfl) rfl rfl ?_
  obtain ⟨k, s, sp, ln, pa, ps, pc⟩ := t
  obtain ⟨k2, s2, sp2, ln2, pa2, ps2, pc2⟩ := u
  (first | refine wX ?_ | exact wZ)
  refine brd_eq (fun h1 => ?_) (fun h1 => ?_)
  · (first | refine wX ?_ | exact wZ)
    refine brd_intro (fun h2 => ?_) (fun h2 => ?_)
    · have h2' : s = s2 := eq_of_beq (show (s == s2) = true from h2)
      (first | refine wX ?_ | exact wZ)
      refine brd_intro (fun h3 => ?_) (fun h3 => ?_)
      · have h3' : sp = sp2 := eq_of_beq (show (sp == sp2) = true from h3)
        (first | refine wX ?_ | exact wZ)
        refine brd_eq (fun h4 => ?_) (fun h4 => ?_)
        · (first | refine wX ?_ | exact wZ)
          refine call1 (EqualP_c pa pa2 ps ps2 pc pc2 ht.1 hu.1 ht.2 hu.2 _ (fun w hw => hw.1)) ?_
          (first | refine wX ?_ | exact wZ)
          exact ret_b (by have h1' : k = k2 := h1; have h4' : ln = ln2 := h4; simp [eqB, TokP.er, h1', h2', h3', h4'])
        · (first | refine wX ?_ | exact wZ)
          exact ret_b (by have h4' : ¬ ln = ln2 := h4; simp [eqB, TokP.er, h4'])
      · have h3' : ¬ sp = sp2 := fun h => by
          have h5 : (sp == sp2) = false := h3
          rw [h] at h5
          simp at h5
        (first | refine wX ?_ | exact wZ)
        exact ret_b (by simp [eqB, TokP.er, h3'])
    · have h2' : ¬ s = s2 := fun h => by
        have h3 : (s == s2) = false := h2
        rw [h] at h3
        simp at h3
      (first | refine wX ?_ | exact wZ)
      exact ret_b (by simp [eqB, TokP.er, h2'])
  · (first | refine wX ?_ | exact wZ)
    exact ret_b (by have h1' : ¬ k = k2 := h1; simp [eqB, TokP.er, h1'])
noncomputable def sameB (l m : List TokP) : Bool := @decide _ (Classical.propDecidable (l.map TokP.er = m.map TokP.er))
theorem EqualFunc_c (a b : Option Addr) (l m : List TokP) (ca cb : Nat) (ha : a = none → l = []) (hb : b = none → m = []) (hl : l.length ≤ 200000000000000) (hm2 : m.length ≤ 200000000000000) (hol : ∀ t ∈ l, TokOk t) (hom : ∀ t ∈ m, TokOk t) :
    ∀ H, (∀ w, Facts H w → ToksF a l w ∧ ToksF b m w) → SpecH Tryd.prog 27 (pvs [.slice a l.length ca, .slice b m.length cb, .func (.func 28) #[] #[]]) H (Ret (.bool (sameB l m)) H) := by
  refine factC hm Tryd.func27 (by kernel_rfl) rfl rfl ?_
  (first | refine wX ?_ | exact wZ)
  refine brd_ne (fun h0 => ?_) (fun h0 => ?_)
  · (first | refine wX ?_ | exact wZ)
    exact ret_b (by simp [sameB]; intro h; have := congrArg List.length h; simp at this; omega)
  have hlm : l.length = m.length := by omega
  (first | refine wX ?_ | exact wZ)
  refine loopS Nat (fun i => i ≤ l.length ∧ (l.map TokP.er).take i = (m.map TokP.er).take i) (fun i => mkS Tryd.f27.ntmps 0 [(0, .c (.v (.slice a l.length ca))), (1, .c (.v (.slice b m.length cb))), (2, .c (.v (.func (.func 28) #[] #[]))), (15, .c (.v (.slice a l.length ca))), (16, .c (.v (.int .i64 (l.length : Int)))), (17, .c (.v (.int .i64 (i : Int))))]) (fun i => l.length - i) rfl (fun _ => rfl) 0 ⟨Nat.zero_le _, rfl⟩ ?_ ?_
  · (repeat' (first | exact trivial | refine And.intro (by with_reducible rfl) ?_ | (with_reducible exact wkC_refl _) | (with_reducible exact wkCs_refl _) | refine And.intro ?_ ?_))
    all_goals rfl
  intro i ⟨hi, heq⟩
  (first | refine wX ?_ | exact wZ)
  refine brd_dec (fun h1 => ?_) (fun h1 => ?_)
  · obtain ⟨t, ht⟩ : ∃ t, l[i]? = some t := ⟨_, List.getElem?_eq_getElem (by omega)⟩
    obtain ⟨u, hu⟩ : ∃ u, m[i]? = some u := ⟨_, List.getElem?_eq_getElem (by omega)⟩
    obtain ⟨ht1, ht2⟩ := take_eq (x := t.er) (y := u.er) heq (by rw [List.getElem?_map, ht]; rfl) (by rw [List.getElem?_map, hu]; rfl)
    have hsa := isS ha ht
    have hsb := isS hb hu
    (first | refine wX ?_ | exact wZ)
    refine Nd.mk ⟨hsa, by omega, by omega⟩ ?_
    (first | refine wX ?_ | exact wZ)
    refine LdN.agg (tokPC t) rfl (fun w hw => hw.1.1.1) rfl (fun j hj => by
      rw [Int.toNat_natCast]
      exact toksPC_get l i j hj ht) ?_
    (first | refine wX ?_ | exact wZ)
    refine Nd.mk ⟨hsb, by omega, by omega⟩ ?_
    (first | refine wX ?_ | exact wZ)
    refine LdN.agg (tokPC u) rfl (fun w hw => hw.1.2.1) rfl (fun j hj => by
      rw [Int.toNat_natCast]
      exact toksPC_get m i j hj hu) ?_
    (first | refine wX ?_ | exact wZ)
    have hml := List.mem_of_getElem? ht
    have hmu := List.mem_of_getElem? hu
    refine call1 (Same1_c t u (hol t hml) (hom u hmu) _ (fun w hw => ⟨hw.1.1.2 t hml, hw.1.2.2 u hmu⟩)) ?_
    cases he : eqB t u with
    | true =>
      have he2 : t.er = u.er := of_decide_eq_true he
      (first | refine wX ?_ | exact wZ)
      refine ⟨i + 1, ⟨by omega, ht1 he2⟩, by omega, ?_, by (repeat' (first | exact trivial | exact wkE_refl _ | refine And.intro ?_ ?_))⟩
      (repeat' (first | exact trivial | refine And.intro (by with_reducible rfl) ?_ | (with_reducible exact wkC_refl _) | (with_reducible exact wkCs_refl _) | refine And.intro ?_ ?_))
      all_goals first | rfl | exact av_int (by rw [wrap_i64 (by omega)]; omega)
    | false =>
      have he2 : ¬ t.er = u.er := of_decide_eq_false he
      (first | refine wX ?_ | exact wZ)
      exact ret_b (by simp [sameB, ht2 he2])
  · have hie : i = l.length := by omega
    subst hie
    (first | refine wX ?_ | exact wZ)
    exact ret_b (by simp [sameB]; rw [← List.take_length (l := l.map TokP.er), ← List.take_length (l := m.map TokP.er), List.length_map, List.length_map, ← hlm]; exact heq)
theorem Same_c (a b : Option Addr) (l m : List TokP) (ca cb : Nat) (ha : a = none → l = []) (hb : b = none → m = []) (hl : l.length ≤ 200000000000000) (hm2 : m.length ≤ 200000000000000) (hol : ∀ t ∈ l, TokOk t) (hom : ∀ t ∈ m, TokOk t) :
    ∀ H, (∀ w, Facts H w → ToksF a l w ∧ ToksF b m w) → SpecH Tryd.prog 15 (pvs [.slice a l.length ca, .slice b m.length cb]) H (Ret (.bool (sameB l m)) H) := by
  refine factC hm Tryd.func15 (by kernel_rfl) rfl rfl ?_
  (first | refine wX ?_ | exact wZ)
  refine call1 (EqualFunc_c a b l m ca cb ha hb hl hm2 hol hom _ (fun w hw => hw.1)) ?_
  (first | refine wX ?_ | exact wZ)
end Go.Proofs.YteejemdibfbccaaDoor

/-
  Contract: ScanSame (law).
-/
namespace Go.Proofs.YteejemdibfbccaaDoor
open Go.AX Go.RowKit Go.Scan
set_option maxRecDepth 20000

theorem sameB_self (l : List TokP) : sameB l l = true := by simp [sameB]
theorem sameB_iff (l m : List TokP) : sameB l m = true ↔ l.map TokP.er = m.map TokP.er := @decide_eq_true_iff _ (Classical.propDecidable _)
theorem sameB_comm (l m : List TokP) : sameB m l = sameB l m :=
  Bool.eq_iff_iff.2 ((sameB_iff m l).trans ⟨fun h => ((sameB_iff l m).2 h.symm), fun h => ((sameB_iff l m).1 h).symm⟩)
set_option maxHeartbeats 2000000 in
theorem ScanSame_c (a b : Option Addr) (l m : List TokP) (ca cb : Nat) (ha : a = none → l = []) (hb : b = none → m = []) (hl : l.length ≤ 200000000000000) (hm2 : m.length ≤ 200000000000000) (hol : ∀ t ∈ l, TokOk t) (hom : ∀ t ∈ m, TokOk t) :
    ∀ H, (∀ w, Facts H w → ScanF w ∧ ToksF a l w ∧ ToksF b m w) → SpecH Tryd.prog 6 (pvs [.slice a l.length ca, .slice b m.length cb]) H (Ret (.bool true) H) := by
  refine factC hm Tryd.func6 (by kernel_rfl) rfl rfl ?_
  (first | refine wX ?_ | exact wZ)
  refine brd_dec (fun h0 => ?_) (fun h0 => ?_)
  · (first | refine wX ?_ | exact wZ)
    refine call1 (sane_c _ (fun w hw => hw.1.1)) ?_
    (first | refine wX ?_ | exact wZ)
  (first | refine wX ?_ | exact wZ)
  refine brd_dec (fun h00 => ?_) (fun h00 => ?_)
  · (first | refine wX ?_ | exact wZ)
    refine call1 (sane_c _ (fun w hw => hw.1.1)) ?_
    (first | refine wX ?_ | exact wZ)
  (first | refine wX ?_ | exact wZ)
  refine loopS (Nat × Bool) (fun ⟨i, same⟩ => i ≤ l.length ∧ (same = true → l.length = m.length ∧ (l.map TokP.er).take i = (m.map TokP.er).take i) ∧ (same = false → l.map TokP.er ≠ m.map TokP.er))
    (fun ⟨i, same⟩ => mkS Tryd.f6.ntmps 0 [(0, .c (.v (.slice a l.length ca))), (1, .c (.v (.slice b m.length cb))), (6, .c (.v (.int .i64 (i : Int)))), (5, .c (.v (.bool same)))]) (fun ⟨i, _⟩ => l.length - i) rfl (fun _ => rfl) (0, decide (l.length = m.length)) ⟨Nat.zero_le _, fun h => ⟨of_decide_eq_true h, rfl⟩, fun h e => of_decide_eq_false h (by have := congrArg List.length e; simpa using this)⟩ ?_ ?_
  · (repeat' (first | exact trivial | refine And.intro (by with_reducible rfl) ?_ | (with_reducible exact wkC_refl _) | (with_reducible exact wkCs_refl _) | refine And.intro ?_ ?_))
    all_goals first | rfl | exact av_bool (Bool.eq_iff_iff.2 (by simp; omega))
  rintro ⟨i, same⟩ ⟨hi, hyes, hno⟩
  cases same with
  | false =>
    have hs : sameB l m = false := by simp [sameB, hno rfl]
    (first | refine wX ?_ | exact wZ)
    refine call1 (Same_c a b l m ca cb ha hb hl hm2 hol hom _ (fun w hw => hw.1.2)) ?_
    rw [hs]
    (first | refine wX ?_ | exact wZ)
    refine call1 (Same_c a a l l ca ca ha ha hl hl hol hol _ (fun w hw => ⟨hw.1.2.1, hw.1.2.1⟩)) ?_
    rw [sameB_self]
    (first | refine wX ?_ | exact wZ)
    refine call1 (Same_c b a m l cb ca hb ha hm2 hl hom hol _ (fun w hw => ⟨hw.1.2.2, hw.1.2.1⟩)) ?_
    rw [sameB_comm, hs]
    (first | refine wX ?_ | exact wZ)
    refine call1 (sane_c _ (fun w hw => hw.1.1)) ?_
    (first | refine wX ?_ | exact wZ)
  | true =>
    obtain ⟨hlm, heq⟩ := hyes rfl
    (first | refine wX ?_ | exact wZ)
    refine brd_dec (fun h1 => ?_) (fun h1 => ?_)
    · obtain ⟨t, ht⟩ : ∃ t, l[i]? = some t := ⟨_, List.getElem?_eq_getElem (by omega)⟩
      obtain ⟨u, hu⟩ : ∃ u, m[i]? = some u := ⟨_, List.getElem?_eq_getElem (by omega)⟩
      obtain ⟨ht1, ht2⟩ := take_eq (x := t.er) (y := u.er) heq (by rw [List.getElem?_map, ht]; rfl) (by rw [List.getElem?_map, hu]; rfl)
      have htn : (t.er ≠ u.er) → l.map TokP.er ≠ m.map TokP.er := ht2
      have hml := List.mem_of_getElem? ht
      have hmu := List.mem_of_getElem? hu
      have hsa := isS ha ht
      have hsb := isS hb hu
      (first | refine wX ?_ | exact wZ)
      -- 0: the field's number, .int .i64 t.kind: its name's value of t, .int .i64 u.kind: of u
      refine Nd.mk ⟨hsa, by omega, by omega⟩ ?_
      (first | refine wX ?_ | exact wZ)
      refine LdN.fld (.int .i64 t.kind) rfl (fun w hw => hw.1.2.1.1) (by rw [Int.toNat_natCast]; exact toksPC_get l i 0 (by decide) ht) ?_
      (first | refine wX ?_ | exact wZ)
      refine Nd.mk ⟨hsb, by omega, by omega⟩ ?_
      (first | refine wX ?_ | exact wZ)
      refine LdN.fld (.int .i64 u.kind) rfl (fun w hw => hw.1.2.2.1) (by rw [Int.toNat_natCast]; exact toksPC_get m i 0 (by decide) hu) ?_
      (first | refine wX ?_ | exact wZ)
      refine brd_eq (fun e1 => ?_) (fun e1 => ?_)
      · (first | refine wX ?_ | exact wZ)
        -- 1: the field's number, .string (bs t.text): its name's value of t, .string (bs u.text): of u
        refine Nd.mk ⟨hsa, by omega, by omega⟩ ?_
        (first | refine wX ?_ | exact wZ)
        refine LdN.fld (.string (bs t.text)) rfl (fun w hw => hw.1.2.1.1) (by rw [Int.toNat_natCast]; exact toksPC_get l i 1 (by decide) ht) ?_
        (first | refine wX ?_ | exact wZ)
        refine Nd.mk ⟨hsb, by omega, by omega⟩ ?_
        (first | refine wX ?_ | exact wZ)
        refine LdN.fld (.string (bs u.text)) rfl (fun w hw => hw.1.2.2.1) (by rw [Int.toNat_natCast]; exact toksPC_get m i 1 (by decide) hu) ?_
        (first | refine wX ?_ | exact wZ)
        refine brd_intro (fun h2 => ?_) (fun h2 => ?_)
        · have e2 : t.text = u.text := eq_of_beq (show (t.text == u.text) = true from h2)
          (first | refine wX ?_ | exact wZ)
          -- 2: the field's number, .bool t.space: its name's value of t, .bool u.space: of u
          refine Nd.mk ⟨hsa, by omega, by omega⟩ ?_
          (first | refine wX ?_ | exact wZ)
          refine LdN.fld (.bool t.space) rfl (fun w hw => hw.1.2.1.1) (by rw [Int.toNat_natCast]; exact toksPC_get l i 2 (by decide) ht) ?_
          (first | refine wX ?_ | exact wZ)
          refine Nd.mk ⟨hsb, by omega, by omega⟩ ?_
          (first | refine wX ?_ | exact wZ)
          refine LdN.fld (.bool u.space) rfl (fun w hw => hw.1.2.2.1) (by rw [Int.toNat_natCast]; exact toksPC_get m i 2 (by decide) hu) ?_
          (first | refine wX ?_ | exact wZ)
          refine brd_intro (fun h3 => ?_) (fun h3 => ?_)
          · have e3 : t.space = u.space := eq_of_beq (show (t.space == u.space) = true from h3)
            (first | refine wX ?_ | exact wZ)
            -- 3: the field's number, .int .i64 t.line: its name's value of t, .int .i64 u.line: of u
            refine Nd.mk ⟨hsa, by omega, by omega⟩ ?_
            (first | refine wX ?_ | exact wZ)
            refine LdN.fld (.int .i64 t.line) rfl (fun w hw => hw.1.2.1.1) (by rw [Int.toNat_natCast]; exact toksPC_get l i 3 (by decide) ht) ?_
            (first | refine wX ?_ | exact wZ)
            refine Nd.mk ⟨hsb, by omega, by omega⟩ ?_
            (first | refine wX ?_ | exact wZ)
            refine LdN.fld (.int .i64 u.line) rfl (fun w hw => hw.1.2.2.1) (by rw [Int.toNat_natCast]; exact toksPC_get m i 3 (by decide) hu) ?_
            (first | refine wX ?_ | exact wZ)
            refine brd_eq (fun e4 => ?_) (fun e4 => ?_)
            · (first | refine wX ?_ | exact wZ)
              -- 4: the field's number, .slice t.pa t.parts.length t.pc: its name's value of t, .slice u.pa u.parts.length u.pc: of u
              refine Nd.mk ⟨hsa, by omega, by omega⟩ ?_
              (first | refine wX ?_ | exact wZ)
              refine LdN.fld (.slice t.pa t.parts.length t.pc) rfl (fun w hw => hw.1.2.1.1) (by rw [Int.toNat_natCast]; exact toksPC_get l i 4 (by decide) ht) ?_
              (first | refine wX ?_ | exact wZ)
              refine Nd.mk ⟨hsb, by omega, by omega⟩ ?_
              (first | refine wX ?_ | exact wZ)
              refine LdN.fld (.slice u.pa u.parts.length u.pc) rfl (fun w hw => hw.1.2.2.1) (by rw [Int.toNat_natCast]; exact toksPC_get m i 4 (by decide) hu) ?_
              (first | refine wX ?_ | exact wZ)
              refine loopS (Nat × Bool) (fun ⟨k, sm⟩ => k ≤ t.parts.length ∧ (sm = true → t.parts.length = u.parts.length ∧ t.parts.take k = u.parts.take k) ∧ (sm = false → t.parts ≠ u.parts))
                (fun ⟨k, sm⟩ => mkS Tryd.f6.ntmps 0 [(0, .c (.v (.slice a l.length ca))), (1, .c (.v (.slice b m.length cb))), (6, .c (.v (.int .i64 (i : Int)))), (5, .c (.v (.bool sm))), (7, .c (.v (.int .i64 (k : Int))))]) (fun ⟨k, _⟩ => t.parts.length - k) rfl (fun _ => rfl) (0, decide (t.parts.length = u.parts.length)) ⟨Nat.zero_le _, fun h => ⟨of_decide_eq_true h, rfl⟩, fun h e => of_decide_eq_false h (congrArg List.length e)⟩ ?_ ?_
              · (repeat' (first | exact trivial | refine And.intro (by with_reducible rfl) ?_ | (with_reducible exact wkC_refl _) | (with_reducible exact wkCs_refl _) | refine And.intro ?_ ?_))
                all_goals first | rfl | exact av_bool (Bool.eq_iff_iff.2 (by simp; omega))
              rintro ⟨k, sm⟩ ⟨hk, kyes, kno⟩
              obtain ⟨hpn1, hpl1⟩ := hol t hml
              obtain ⟨hpn2, hpl2⟩ := hom u hmu
              cases sm with
              | false =>
                have hne := kno rfl
                (first | refine wX ?_ | exact wZ)
                refine ⟨(i + 1, false), ⟨by omega, (fun h => by cases h), fun _ => htn (fun h => hne (congrArg (·.2.2.2.2) h))⟩, by show l.length - (i + 1) < l.length - i; omega, ?_, by (repeat' (first | exact trivial | exact wkE_refl _ | refine And.intro ?_ ?_))⟩
                (repeat' (first | exact trivial | refine And.intro (by with_reducible rfl) ?_ | (with_reducible exact wkC_refl _) | (with_reducible exact wkCs_refl _) | refine And.intro ?_ ?_))
                all_goals first | rfl | exact av_int (by rw [wrap_i64 (by omega)]; omega)
              | true =>
                obtain ⟨kl, keq⟩ := kyes rfl
                (first | refine wX ?_ | exact wZ)
                refine Nd.mk ⟨hsa, by omega, by omega⟩ ?_
                (first | refine wX ?_ | exact wZ)
                refine LdN.fld (.slice t.pa t.parts.length t.pc) rfl (fun w hw => hw.1.2.1.1) (by rw [Int.toNat_natCast]; exact toksPC_get l i 4 (by decide) ht) ?_
                (first | refine wX ?_ | exact wZ)
                refine brd_dec (fun h5 => ?_) (fun h5 => ?_)
                · obtain ⟨p, hp⟩ : ∃ p, t.parts[k]? = some p := ⟨_, List.getElem?_eq_getElem (by omega)⟩
                  obtain ⟨q, hq⟩ : ∃ q, u.parts[k]? = some q := ⟨_, List.getElem?_eq_getElem (by omega)⟩
                  obtain ⟨kt1, kt2⟩ := take_eq keq hp hq
                  have hsp := isS hpn1 hp
                  have hsq := isS hpn2 hq
                  (first | refine wX ?_ | exact wZ)
                  refine Nd.mk ⟨hsa, by omega, by omega⟩ ?_
                  (first | refine wX ?_ | exact wZ)
                  refine LdN.fld (.slice t.pa t.parts.length t.pc) rfl (fun w hw => hw.1.2.1.1) (by rw [Int.toNat_natCast]; exact toksPC_get l i 4 (by decide) ht) ?_
                  (first | refine wX ?_ | exact wZ)
                  refine Nd.mk ⟨hsp, by omega, by omega⟩ ?_
                  (first | refine wX ?_ | exact wZ)
                  refine LdN.agg (partC p) rfl (fun w hw => hw.1.2.1.2 t hml) rfl (fun j hj => by
                    rw [Int.toNat_natCast]
                    exact partsC_get t.parts k j hj hp) ?_
                  (first | refine wX ?_ | exact wZ)
                  refine Nd.mk ⟨hsb, by omega, by omega⟩ ?_
                  (first | refine wX ?_ | exact wZ)
                  refine LdN.fld (.slice u.pa u.parts.length u.pc) rfl (fun w hw => hw.1.2.2.1) (by rw [Int.toNat_natCast]; exact toksPC_get m i 4 (by decide) hu) ?_
                  (first | refine wX ?_ | exact wZ)
                  refine Nd.mk ⟨hsq, by omega, by omega⟩ ?_
                  (first | refine wX ?_ | exact wZ)
                  refine LdN.agg (partC q) rfl (fun w hw => hw.1.2.2.2 u hmu) rfl (fun j hj => by
                    rw [Int.toNat_natCast]
                    exact partsC_get u.parts k j hj hq) ?_
                  (first | refine wX ?_ | exact wZ)
                  refine ⟨(k + 1, (p.1 == q.1 && (p.2 == q.2 && true))), ⟨by omega, fun h => ⟨kl, kt1 ?_⟩, fun h => kt2 ?_⟩, by show t.parts.length - (k + 1) < t.parts.length - k; omega, ?_, by (repeat' (first | exact trivial | exact wkE_refl _ | refine And.intro ?_ ?_))⟩
                  · simp at h
                    exact Prod.ext h.1 h.2
                  · intro e
                    subst e
                    simp at h
                  · (repeat' (first | exact trivial | refine And.intro (by with_reducible rfl) ?_ | (with_reducible exact wkC_refl _) | (with_reducible exact wkCs_refl _) | refine And.intro ?_ ?_))
                    all_goals first | rfl | exact av_int (by rw [wrap_i64 (by omega)]; omega)
                · have hke : k = t.parts.length := by omega
                  subst hke
                  rw [List.take_length, kl, List.take_length] at keq
                  have her : t.er = u.er := by
                    unfold TokP.er
                    rw [show t.kind = u.kind from e1, e2, e3, show t.line = u.line from e4, keq]
                  (first | refine wX ?_ | exact wZ)
                  refine ⟨(i + 1, true), ⟨by omega, fun _ => ⟨hlm, ht1 her⟩, fun h => by cases h⟩, by show l.length - (i + 1) < l.length - i; omega, ?_, by (repeat' (first | exact trivial | exact wkE_refl _ | refine And.intro ?_ ?_))⟩
                  (repeat' (first | exact trivial | refine And.intro (by with_reducible rfl) ?_ | (with_reducible exact wkC_refl _) | (with_reducible exact wkCs_refl _) | refine And.intro ?_ ?_))
                  all_goals first | rfl | exact av_int (by rw [wrap_i64 (by omega)]; omega)
            · (first | refine wX ?_ | exact wZ)
              -- fun h => e4 (congrArg (·.2.2.2.1) h): why they differ
              refine loopS Unit (fun _ => True) (fun _ => mkS Tryd.f6.ntmps 0 [(0, .c (.v (.slice a l.length ca))), (1, .c (.v (.slice b m.length cb))), (6, .c (.v (.int .i64 (i : Int)))), (5, .c (.v (.bool false))), (7, .c (.v (.int .i64 0)))]) (fun _ => 0) rfl (fun _ => rfl) () trivial ?_ ?_
              · (repeat' (first | exact trivial | refine And.intro (by with_reducible rfl) ?_ | (with_reducible exact wkC_refl _) | (with_reducible exact wkCs_refl _) | refine And.intro ?_ ?_))
                all_goals rfl
              intro _ _
              (first | refine wX ?_ | exact wZ)
              refine ⟨(i + 1, false), ⟨by omega, (fun h => by cases h), fun _ => htn (fun h => e4 (congrArg (·.2.2.2.1) h))⟩, by show l.length - (i + 1) < l.length - i; omega, ?_, by (repeat' (first | exact trivial | exact wkE_refl _ | refine And.intro ?_ ?_))⟩
              (repeat' (first | exact trivial | refine And.intro (by with_reducible rfl) ?_ | (with_reducible exact wkC_refl _) | (with_reducible exact wkCs_refl _) | refine And.intro ?_ ?_))
              all_goals first | rfl | exact av_int (by rw [wrap_i64 (by omega)]; omega)
          · have e3 : ¬ t.space = u.space := fun h => by
              have h5 : (t.space == u.space) = false := h3
              rw [h] at h5
              simp at h5
            (first | refine wX ?_ | exact wZ)
            -- fun h => e3 (congrArg (·.2.2.1) h): why they differ
            refine loopS Unit (fun _ => True) (fun _ => mkS Tryd.f6.ntmps 0 [(0, .c (.v (.slice a l.length ca))), (1, .c (.v (.slice b m.length cb))), (6, .c (.v (.int .i64 (i : Int)))), (5, .c (.v (.bool false))), (7, .c (.v (.int .i64 0)))]) (fun _ => 0) rfl (fun _ => rfl) () trivial ?_ ?_
            · (repeat' (first | exact trivial | refine And.intro (by with_reducible rfl) ?_ | (with_reducible exact wkC_refl _) | (with_reducible exact wkCs_refl _) | refine And.intro ?_ ?_))
              all_goals rfl
            intro _ _
            (first | refine wX ?_ | exact wZ)
            refine ⟨(i + 1, false), ⟨by omega, (fun h => by cases h), fun _ => htn (fun h => e3 (congrArg (·.2.2.1) h))⟩, by show l.length - (i + 1) < l.length - i; omega, ?_, by (repeat' (first | exact trivial | exact wkE_refl _ | refine And.intro ?_ ?_))⟩
            (repeat' (first | exact trivial | refine And.intro (by with_reducible rfl) ?_ | (with_reducible exact wkC_refl _) | (with_reducible exact wkCs_refl _) | refine And.intro ?_ ?_))
            all_goals first | rfl | exact av_int (by rw [wrap_i64 (by omega)]; omega)
        · have e2 : ¬ t.text = u.text := fun h => by
            have h5 : (t.text == u.text) = false := h2
            rw [h] at h5
            simp at h5
          (first | refine wX ?_ | exact wZ)
          -- fun h => e2 (congrArg (·.2.1) h): why they differ
          refine loopS Unit (fun _ => True) (fun _ => mkS Tryd.f6.ntmps 0 [(0, .c (.v (.slice a l.length ca))), (1, .c (.v (.slice b m.length cb))), (6, .c (.v (.int .i64 (i : Int)))), (5, .c (.v (.bool false))), (7, .c (.v (.int .i64 0)))]) (fun _ => 0) rfl (fun _ => rfl) () trivial ?_ ?_
          · (repeat' (first | exact trivial | refine And.intro (by with_reducible rfl) ?_ | (with_reducible exact wkC_refl _) | (with_reducible exact wkCs_refl _) | refine And.intro ?_ ?_))
            all_goals rfl
          intro _ _
          (first | refine wX ?_ | exact wZ)
          refine ⟨(i + 1, false), ⟨by omega, (fun h => by cases h), fun _ => htn (fun h => e2 (congrArg (·.2.1) h))⟩, by show l.length - (i + 1) < l.length - i; omega, ?_, by (repeat' (first | exact trivial | exact wkE_refl _ | refine And.intro ?_ ?_))⟩
          (repeat' (first | exact trivial | refine And.intro (by with_reducible rfl) ?_ | (with_reducible exact wkC_refl _) | (with_reducible exact wkCs_refl _) | refine And.intro ?_ ?_))
          all_goals first | rfl | exact av_int (by rw [wrap_i64 (by omega)]; omega)
      · (first | refine wX ?_ | exact wZ)
        -- fun h => e1 (congrArg (·.1) h): why they differ
        refine loopS Unit (fun _ => True) (fun _ => mkS Tryd.f6.ntmps 0 [(0, .c (.v (.slice a l.length ca))), (1, .c (.v (.slice b m.length cb))), (6, .c (.v (.int .i64 (i : Int)))), (5, .c (.v (.bool false))), (7, .c (.v (.int .i64 0)))]) (fun _ => 0) rfl (fun _ => rfl) () trivial ?_ ?_
        · (repeat' (first | exact trivial | refine And.intro (by with_reducible rfl) ?_ | (with_reducible exact wkC_refl _) | (with_reducible exact wkCs_refl _) | refine And.intro ?_ ?_))
          all_goals rfl
        intro _ _
        (first | refine wX ?_ | exact wZ)
        refine ⟨(i + 1, false), ⟨by omega, (fun h => by cases h), fun _ => htn (fun h => e1 (congrArg (·.1) h))⟩, by show l.length - (i + 1) < l.length - i; omega, ?_, by (repeat' (first | exact trivial | exact wkE_refl _ | refine And.intro ?_ ?_))⟩
        (repeat' (first | exact trivial | refine And.intro (by with_reducible rfl) ?_ | (with_reducible exact wkC_refl _) | (with_reducible exact wkCs_refl _) | refine And.intro ?_ ?_))
        all_goals first | rfl | exact av_int (by rw [wrap_i64 (by omega)]; omega)
    · have hie : i = l.length := by omega
      subst hie
      have hs : sameB l m = true := by
        refine (sameB_iff l m).2 ?_
        rw [← List.take_length (l := l.map TokP.er), ← List.take_length (l := m.map TokP.er), List.length_map, List.length_map, ← hlm]
        exact heq
      (first | refine wX ?_ | exact wZ)
      refine call1 (Same_c a b l m ca cb ha hb hl hm2 hol hom _ (fun w hw => hw.1.2)) ?_
      rw [hs]
      (first | refine wX ?_ | exact wZ)
      refine call1 (Same_c a a l l ca ca ha ha hl hl hol hol _ (fun w hw => ⟨hw.1.2.1, hw.1.2.1⟩)) ?_
      rw [sameB_self]
      (first | refine wX ?_ | exact wZ)
      refine call1 (Same_c b a m l cb ca hb ha hm2 hl hom hol _ (fun w hw => ⟨hw.1.2.2, hw.1.2.1⟩)) ?_
      rw [sameB_comm, hs]
      (first | refine wX ?_ | exact wZ)
      refine call1 (sane_c _ (fun w hw => hw.1.1)) ?_
      (first | refine wX ?_ | exact wZ)
end Go.Proofs.YteejemdibfbccaaDoor

/-
  ScanSameCardSaid is proved: of every two lists of tokens ScanSame returns true and leaves its arguments as they were; the listed tables are tied to the program's text.
-/
namespace Go.Proofs.YteejemdibfbccaaDoor
open Go.ChangeShapes Go.WideShapes Go.ChangeAt Go.RowKit Go.AX
set_option maxRecDepth 100000

theorem part_read {H : Type} {enc : TypeId × Value → H} {w : World} : ∀ n cs (y : DataW H × List MemPlace), DataW.trod enc Tryd.prog w 0 (fun _ => true) true n 42 cs = some y → (∀ k ∈ y.1.weights Tryd.prog 42, k ≤ reachBytes) → ∃ x : Bool × List UInt8, True ∧ cs = partC x := by
  intro n cs y h _
  have cB : Tryd.prog.cellsOf 4 = 1 := by kernel_rfl
  have cS : Tryd.prog.cellsOf 9 = 1 := by kernel_rfl
  have cP : Tryd.prog.cellsOf 42 = 2 := by kernel_rfl
  obtain ⟨xs, n', _, hx, hlen, hxl, hf⟩ := DataW.trod_struct Tryd.underlying42 h
  have h0 := hf 0 _ rfl
  have h1 := hf 1 _ rfl
  match xs, hxl with
  | [y0, y1], _ =>
    obtain ⟨b, e0, _⟩ := DataW.trod_bool Tryd.underlying4 h0
    obtain ⟨s, e1, _⟩ := DataW.trod_string Tryd.underlying9 h1
    rw [cP] at hlen
    match cs, hlen with
    | [c0, c1], _ =>
      have f0 : List.take (Tryd.prog.cellsOf 4) (List.drop 0 [c0, c1]) = [.bool b] := e0
      have f1 : List.take (Tryd.prog.cellsOf 9) (List.drop 1 [c0, c1]) = [.string s] := e1
      clear e0 e1
      rw [cB] at f0
      rw [cS] at f1
      simp at f0 f1
      subst f0 f1
      exact ⟨(b, s.data.toList), trivial, rfl⟩
theorem tok_read {H : Type} {enc : TypeId × Value → H} {w : World} : ∀ n cs (y : DataW H × List MemPlace), DataW.trod enc Tryd.prog w 0 (fun _ => true) true n 30 cs = some y → (∀ k ∈ y.1.weights Tryd.prog 30, k ≤ reachBytes) → ∃ x : TokP, (TokOk x ∧ PartsF x w) ∧ cs = tokPC x := by
  intro n cs y h hk
  have cB : Tryd.prog.cellsOf 4 = 1 := by kernel_rfl
  have cI : Tryd.prog.cellsOf 3 = 1 := by kernel_rfl
  have cS : Tryd.prog.cellsOf 9 = 1 := by kernel_rfl
  have cL : Tryd.prog.cellsOf 28 = 1 := by kernel_rfl
  have cP : Tryd.prog.cellsOf 30 = 5 := by kernel_rfl
  obtain ⟨xs, n', _, hx, hlen, hxl, hf⟩ := DataW.trod_struct Tryd.underlying30 h
  have h0 := hf 0 _ rfl
  have h1 := hf 1 _ rfl
  have h2 := hf 2 _ rfl
  have h3 := hf 3 _ rfl
  have h4 := hf 4 _ rfl
  match xs, hxl with
  | [y0, y1, y2, y3, y4], _ =>
    obtain ⟨k, e0, _⟩ := DataW.trod_int Tryd.underlying3 h0
    obtain ⟨s, e1, _⟩ := DataW.trod_string Tryd.underlying9 h1
    obtain ⟨b, e2, _⟩ := DataW.trod_bool Tryd.underlying4 h2
    obtain ⟨ln, e3, _⟩ := DataW.trod_int Tryd.underlying3 h3
    obtain ⟨pa, ps, pc, e4, hpl, hps, hpn, _⟩ := rows_in (m := 2) partC (fun _ => rfl) Tryd.underlying28 (by kernel_rfl) (by decide +kernel) part_read h4 (fun k hk2 => hk k (by
      rw [hx]
      simp only [DataW.weights, Tryd.underlying30]
      simp [DataW.weightsEach]
      exact .inr (.inr (.inr (.inr hk2)))))
    rw [cP] at hlen
    match cs, hlen with
    | [c0, c1, c2, c3, c4], _ =>
      have f0 : List.take (Tryd.prog.cellsOf 3) (List.drop 0 [c0, c1, c2, c3, c4]) = [.int .i64 k] := e0
      have f1 : List.take (Tryd.prog.cellsOf 9) (List.drop 1 [c0, c1, c2, c3, c4]) = [.string s] := e1
      have f2 : List.take (Tryd.prog.cellsOf 4) (List.drop 2 [c0, c1, c2, c3, c4]) = [.bool b] := e2
      have f3 : List.take (Tryd.prog.cellsOf 3) (List.drop 3 [c0, c1, c2, c3, c4]) = [.int .i64 ln] := e3
      have f4 : List.take (Tryd.prog.cellsOf 28) (List.drop 4 [c0, c1, c2, c3, c4]) = [.slice pa ps.length pc] := e4
      clear e0 e1 e2 e3 e4
      rw [cI] at f0 f3
      rw [cS] at f1
      rw [cB] at f2
      rw [cL] at f4
      simp at f0 f1 f2 f3 f4
      subst f0 f1 f2 f3 f4
      exact ⟨⟨k, s.data.toList, b, ln, pa, ps, pc⟩, ⟨⟨hpn, hpl⟩, hps⟩, rfl⟩
namespace ScanSame
theorem own : ownKnob Tryd.prog.godebug = none := own0
theorem walk {H : Type} {enc : TypeId × Value → H} (W : World) (base : Nat) (args : Array Value) (ds : List (DataW H)) (p : List MemPlace) (k : Known enc Tryd.prog Tryd.f6 W base args ds p) (_hL : laidMetH Tryd.prog laid3 W) : Walk Tryd.prog 6 args W := by
  obtain ⟨u, v, rfl⟩ := arr2 (trodAll_len k.trod).2
  obtain ⟨d, q, hd, h⟩ := trodAll_get k.trod 0 _ u rfl rfl
  obtain ⟨d2, q2, hd2, h2⟩ := trodAll_get k.trod 1 _ v rfl rfl
  obtain ⟨a, l, cap, rfl, hl, hsl, ha, hQ⟩ := known_rows (e := 30) (m := 5) tokPC (fun _ => rfl) Tryd.underlying24 (by kernel_rfl) (by decide +kernel) tok_read k.weights rfl hd (k.val 0 _ u rfl rfl) h
  obtain ⟨a2, l2, cap2, rfl, hl2, hsl2, ha2, hQ2⟩ := known_rows (e := 30) (m := 5) tokPC (fun _ => rfl) Tryd.underlying24 (by kernel_rfl) (by decide +kernel) tok_read k.weights rfl hd2 (k.val 1 _ v rfl rfl) h2
  exact walkH [.fact fun w => ScanF w ∧ ToksF a l w ∧ ToksF a2 l2 w] (fun _ he => ⟨_, List.mem_singleton.1 he, (scan_imm (scan_of k.shaped _hL)).and ((hsl.and (Imm.all fun x hx => SlAt.imm (hQ x hx).2)).and (hsl2.and (Imm.all fun x hx => SlAt.imm (hQ2 x hx).2)))⟩)
    (ScanSame_c a a2 l l2 cap cap2 ha ha2 hl hl2 (fun x hx => (hQ x hx).1) (fun x hx => (hQ2 x hx).1) _ fun w hw => hw.1)

theorem lifted (os : Os) (started : os.Started) (H : Type) (enc : TypeId × Value → H) :
    ReturnsInHanded {} Tryd.checked os 6 .any (fun w args => (Rows.scanSameSpec.pre enc Tryd.prog Tryd.f6 [] false w args ∧ laidMetH Tryd.prog laid3 w) ∧ sizedMet enc Tryd.prog Tryd.f6 (OpenSpec.ofChange Rows.scanSameSpec) false w args) (Rows.scanSameSpec.post enc Tryd.prog Tryd.f6 false true false false) := by
  refine liftS (C := Tryd.checked) own started (by kernel_rfl) Tryd.func6
    (ChangeSpec.witness_shaped (enc := enc) (C := Tryd.checked) (os := os) (X := fun w _ => laidMetH Tryd.prog laid3 w) false (World.laidAll Tryd.prog os laid3) #[.slice none 0 0, .slice none 0 0] 8 (World.laidAll_os _ _ _) (World.shaped_of_ZipB (by kernel_rfl) (by kernel_rfl)) (by kernel_rfl) (by kernel_rfl) (by kernel_rfl) (door_met os _))
    laidOut rfl (t := _) rfl (by kernel_rfl) (by kernel_rfl) ?_ walk
  intro ds hd
  match ds, hd with
  | [d0, d1], _ => rfl

theorem over : Rows.scanSameRow.holds Tryd.pinned (OpenSpec.ofChange Rows.scanSameSpec) :=
  OpenClaim.holds_of_wide 6 Tryd.f6 rfl rfl rfl rfl rfl rfl rfl ⟨rfl, rfl, rfl, rfl, rfl⟩ rfl rfl rfl rfl rfl (by kernel_rfl) Tryd.func6 (by kernel_rfl)
    (of_decide_eq_true (by kernel_rfl)) (by unfold Func.isWrapper; first | (rw [if_pos (by decide +kernel)]; kernel_rfl) | (rw [if_neg (by decide +kernel)]; exact ⟨rfl, rfl⟩))
    (fun os started H enc _ => lifted os started H enc)

theorem proved : Rows.ScanSameCardSaid :=
  Claim7.holds_tied_plain_at .later [] [.data, .listed, .data, .pinned] true (true, "29d5a38514b6d36cd327fbc0288b099aab2f6e94237d213b480f59913676cde1") true
    over (fun _ h => by cases h) (by kernel_rfl) (fun _ h => by cases h) scanSame_row_tie rfl ⟨rfl, rfl⟩ (by kernel_rfl) rfl
    (fun f fn hf hfn => by
      obtain rfl : f = 6 := Option.some.inj ((show Tryd.prog.funcNamed "cabochon/cabochonlaw14.ScanSame" = some 6 by kernel_rfl).symm.trans hf) |>.symm
      obtain rfl : fn = Tryd.f6 := (Option.some.inj (Tryd.func6.symm.trans hfn)).symm
      exact ⟨by kernel_rfl, fun j t ht => by
        have hm : t ∈ Tryd.f6.params.toList := by simpa using Array.mem_of_getElem? ht
        have hall : (Tryd.f6.params.toList.all fun u => !Tryd.prog.wantsStandIn u) = true := by kernel_rfl
        exact (show Tryd.prog.wantsStandIn t = false by simpa using List.all_eq_true.1 hall t hm)⟩)
    (by kernel_rfl)
#print axioms proved
end ScanSame
end Go.Proofs.YteejemdibfbccaaDoor
