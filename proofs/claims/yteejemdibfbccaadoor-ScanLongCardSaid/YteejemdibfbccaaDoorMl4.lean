/-
  ScanLongCardSaid is proved: of every number ScanLong returns true and leaves its argument as it was; the listed tables are tied to the program's text.
-/
import Derived.Lay
import Derived.Lib.LaidU8
import Derived.PinnedBridge
import Derived.Lib.IndexAny
import Derived.Lib.IndexMore
import Derived.Test.YteejemdibfbccaaDoorCards
import Derived.Test.YteejemdibfbccaaDoorTie
import Derived.Test.YteejemdibfbccaaDoorMl3
/-
  Contract: names, constants, keywords, labels (program).
-/
namespace Go.Proofs.YteejemdibfbccaaDoor
open Go.AX Go.RowKit Go.Scan
set_option maxRecDepth 20000

def lastDot (l : List Tok) : Bool := match l.getLast? with | some t => t.kind == 7 && (t.text == [46] || t.text == [38, 46]) | none => false
theorem fullS_le (s : List UInt8) (p : Nat) (h : p ≤ s.length) : p + (fullS s p).length ≤ s.length := by
  have hw := wordS_le s p h
  unfold fullS
  simp only
  split
  · rename_i h1
    rw [Bool.and_eq_true, Bool.or_eq_true, beq_iff_eq, beq_iff_eq] at h1
    rw [List.length_append]
    show p + ((wordS s p).length + 1) ≤ s.length
    rcases h1.1 with h2 | h2
    · have := pk_lt h2 (by decide)
      omega
    · have := pk_lt h2 (by decide)
      omega
  · exact hw
/-- The word at a place, and the place behind it. -/
def wordW (s : List UInt8) (p : Nat) : List UInt8 := if sml (pk s p) then fullS s p else wordS s p
def wordsK (s : List UInt8) (p : Nat) (l : List Tok) : Int × Nat :=
  let w := wordW s p
  let q := p + w.length
  if pk s q == 58 && pk s (q + 1) != 58 then (9, q + 1) else (if !sml (pk s p) then 2 else if kwB w && !lastDot l then 8 else 1, q)
set_option maxHeartbeats 2000000 in
theorem words_c (xb : Nat) (s : List UInt8) (p line : Nat) (l : List Tok) (ob : Option Nat) (cap here : Nat) (sp : Bool) (hl : l.length ≤ 900000) (hob : ob = none → l = []) (hs : s.length ≤ 1000000) (hp : p < s.length) :
    SpecH Tryd.prog 40 [.c (.v (.pointer (some ⟨xb, 0, none⟩)))] [scE xb s p line ob l.length cap here sp, toE l ob cap, .fact ScanF]
      (RetG (ι := Nat × Nat) (fun _ => True) (fun _ => .tuple #[]) fun ⟨b, c⟩ => [scE xb s (wordsK s p l).2 line (some b) (l.length + 1) c here false, toE (l ++ [⟨(wordsK s p l).1, wordW s p, sp, line, none, 0, 0⟩]) (some b) c, .fact ScanF]) := by
  refine ownC hm Tryd.func40 (by kernel_rfl) rfl rfl (fun _ _ => okHB_eq rfl) (fun _ _ => Nat.le_refl _) ?_
  have hz := bs_size s
  obtain ⟨c, hc⟩ : ∃ c, s[p]? = some c := ⟨_, List.getElem?_eq_getElem hp⟩
  have hcp : pk s p = c := by unfold pk; rw [hc]; rfl
  (first | refine wX ?_ | exact wZ)
  refine LdN.one (a := some ⟨xb, 0, none⟩) (q := 2) (.int .i64 ((line : Nat) : Int)) rfl (fun w hw => hw.1) rfl ?_
  (first | refine wX ?_ | exact wZ)
  refine LdN.one (a := some ⟨xb, 0, none⟩) (q := 0) (.string (bs s)) rfl (fun w hw => hw.1) rfl ?_
  (first | refine wX ?_ | exact wZ)
  refine LdN.one (a := some ⟨xb, 0, none⟩) (q := 1) (.int .i64 ((p : Nat) : Int)) rfl (fun w hw => hw.1) rfl ?_
  (first | refine wX ?_ | exact wZ)
  rw [Int.toNat_natCast, byteAt_get hc]
  refine callQ (sml_c c _) ?_
  cases hsm : sml c with
  | true =>
    have hwl := fullS_le s p (by omega)
    (first | refine wX ?_ | exact wZ)
    refine callG (full_c xb s p line ob l.length cap here sp hs (by omega)) [0] rfl ⟨rfl, trivial⟩ rfl fun _ _ => ?_
    generalize hq : p + (fullS s p).length = q at *
    -- false: upper, fullS s p: the word
    have hwW : wordW s p = fullS s p := by unfold wordW; rw [hcp]; simp [hsm]
    have hK : wordsK s p l = if pk s q == 58 && pk s (q + 1) != 58 then (9, q + 1) else (if !sml c then 2 else if kwB (fullS s p) && !lastDot l then 8 else 1, q) := by
      unfold wordsK
      simp only [hwW, hq, hcp]
    generalize hW : fullS s p = W at *
    (first | refine wX ?_ | exact wZ)
    refine call1 (peek_c xb s q line ob l.length cap here sp 0 (by omega) (by decide) _ (fun w hw => hw.1)) ?_
    rw [Nat.add_zero]
    have hb0 : (((pk s q).toNat : Int) == 58) = (pk s q == 58) := u8_eq (n := 58) (by decide)
    have hb1 : (((pk s (q + 1)).toNat : Int) == 58) = (pk s (q + 1) == 58) := u8_eq (n := 58) (by decide)
    (first | refine wX ?_ | exact wZ)
    rw [hb0]
    cases e0 : pk s q == 58 with
    | true =>
      (first | refine wX ?_ | exact wZ)
      refine call1 (peek_c xb s q line ob l.length cap here sp 1 (by omega) (by decide) _ (fun w hw => hw.1)) ?_
      (first | refine wX ?_ | exact wZ)
      rw [bne, hb1]
      cases e1 : pk s (q + 1) == 58 with
      | true =>
        have hK2 : wordsK s p l = (if !sml c then 2 else if kwB W && !lastDot l then 8 else 1, q) := by rw [hK]; simp [bne, e1]
        -- false: upper
        rcases Nat.eq_zero_or_pos l.length with hl0 | hl0
        · have hd : lastDot l = false := by rw [List.eq_nil_of_length_eq_zero hl0]; rfl
          (first | refine wX ?_ | exact wZ)
          refine LdN.one (a := some ⟨xb, 0, none⟩) (q := 3) (.slice (at0 ob) l.length cap) rfl (fun w hw => hw.1) rfl ?_
          (first | refine wX ?_ | exact wZ)
          refine brd_dec (fun h => absurd h (by omega)) (fun _ => ?_)
          (first | refine wX ?_ | exact wZ)
          refine call1 (IsKeyword_c W (by omega) _ (fun w hw => hw.2.2.1.1)) ?_
          cases hkw : kwB W with
          | true =>
            -- 8: the kind
            rw [hwW, show wordsK s p l = (8, q) by rw [hK2]; simp [hsm, hd, *]]
            (first | refine wX ?_ | exact wZ)
            refine callG (add_c xb s q line l ob cap here sp 8 W line (by omega) hob) [0, 1] rfl ⟨rfl, rfl, trivial⟩ rfl fun ⟨b1, c1⟩ _ => ?_
            (first | refine wX ?_ | exact wZ)
            exact ⟨(b1, c1), trivial, rfl, wkE_refl _, wkE_refl _, wkE_refl _, wkH_nil _⟩
          | false =>
            -- 1: the kind
            rw [hwW, show wordsK s p l = (1, q) by rw [hK2]; simp [hsm, hd, *]]
            (first | refine wX ?_ | exact wZ)
            refine callG (add_c xb s q line l ob cap here sp 1 W line (by omega) hob) [0, 1] rfl ⟨rfl, rfl, trivial⟩ rfl fun ⟨b1, c1⟩ _ => ?_
            (first | refine wX ?_ | exact wZ)
            exact ⟨(b1, c1), trivial, rfl, wkE_refl _, wkE_refl _, wkE_refl _, wkH_nil _⟩
        · obtain ⟨t, ht⟩ : ∃ t, l[l.length - 1]? = some t := ⟨_, List.getElem?_eq_getElem (by omega)⟩
          have hoa : (at0 ob).isSome = true := by
            cases ob with
            | none => rw [hob rfl] at hl0; simp at hl0
            | some g => rfl
          have hw1 : IntKind.i64.wrap ((l.length : Int) - 1) = ((l.length - 1 : Nat) : Int) := by rw [wrap_i64 (by omega)]; omega
          obtain ⟨tk, tt, ts, tl2, ta, tn, tc⟩ := t
          have hdt : lastDot l = (tk == 7 && (tt == [46] || tt == [38, 46])) := by
            unfold lastDot
            rw [List.getLast?_eq_getElem?, ht]
          (first | refine wX ?_ | exact wZ)
          refine LdN.one (a := some ⟨xb, 0, none⟩) (q := 3) (.slice (at0 ob) l.length cap) rfl (fun w hw => hw.1) rfl ?_
          (first | refine wX ?_ | exact wZ)
          refine brd_dec (fun _ => ?_) (fun h => absurd h (by omega))
          (first | refine wX ?_ | exact wZ)
          -- 0: the field's number, .int .i64 tk: its value
          refine LdN.one (a := some ⟨xb, 0, none⟩) (q := 3) (.slice (at0 ob) l.length cap) rfl (fun w hw => hw.1) rfl ?_
          (first | refine wX ?_ | exact wZ)
          refine LdN.one (a := some ⟨xb, 0, none⟩) (q := 3) (.slice (at0 ob) l.length cap) rfl (fun w hw => hw.1) rfl ?_
          (first | refine wX ?_ | exact wZ)
          try rw [hw1]
          refine Nd.mk ⟨hoa, by omega, by omega⟩ ?_
          (first | refine wX ?_ | exact wZ)
          refine LdN.fld (.int .i64 tk) rfl (fun w hw => hw.2.1) (by rw [Int.toNat_natCast]; exact toksC_get l _ 0 (by decide) ht) ?_
          (first | refine wX ?_ | exact wZ)
          refine brd_eq (fun e7 => ?_) (fun e7 => ?_)
          · by_cases h46 : tt = [46]
            · subst h46
              have hd : lastDot l = true := by rw [hdt]; simp [e7]
              (first | refine wX ?_ | exact wZ)
              -- 1: the field's number, .string (bs [46]): its value
              refine LdN.one (a := some ⟨xb, 0, none⟩) (q := 3) (.slice (at0 ob) l.length cap) rfl (fun w hw => hw.1) rfl ?_
              (first | refine wX ?_ | exact wZ)
              refine LdN.one (a := some ⟨xb, 0, none⟩) (q := 3) (.slice (at0 ob) l.length cap) rfl (fun w hw => hw.1) rfl ?_
              (first | refine wX ?_ | exact wZ)
              try rw [hw1]
              refine Nd.mk ⟨hoa, by omega, by omega⟩ ?_
              (first | refine wX ?_ | exact wZ)
              refine LdN.fld (.string (bs [46])) rfl (fun w hw => hw.2.1) (by rw [Int.toNat_natCast]; exact toksC_get l _ 1 (by decide) ht) ?_
              (first | refine wX ?_ | exact wZ)
              (first | refine wX ?_ | exact wZ)
              refine call1 (IsKeyword_c W (by omega) _ (fun w hw => hw.2.2.1.1)) ?_
              cases hkw : kwB W with
              | true =>
                -- 1: the kind
                rw [hwW, show wordsK s p l = (1, q) by rw [hK2]; simp [hsm, hd, *]]
                (first | refine wX ?_ | exact wZ)
                refine callG (add_c xb s q line l ob cap here sp 1 W line (by omega) hob) [0, 1] rfl ⟨rfl, rfl, trivial⟩ rfl fun ⟨b1, c1⟩ _ => ?_
                (first | refine wX ?_ | exact wZ)
                exact ⟨(b1, c1), trivial, rfl, wkE_refl _, wkE_refl _, wkE_refl _, wkH_nil _⟩
              | false =>
                -- 1: the kind
                rw [hwW, show wordsK s p l = (1, q) by rw [hK2]; simp [hsm, hd, *]]
                (first | refine wX ?_ | exact wZ)
                refine callG (add_c xb s q line l ob cap here sp 1 W line (by omega) hob) [0, 1] rfl ⟨rfl, rfl, trivial⟩ rfl fun ⟨b1, c1⟩ _ => ?_
                (first | refine wX ?_ | exact wZ)
                exact ⟨(b1, c1), trivial, rfl, wkE_refl _, wkE_refl _, wkE_refl _, wkH_nil _⟩
            · (first | refine wX ?_ | exact wZ)
              -- 1: the field's number, .string (bs tt): its value
              refine LdN.one (a := some ⟨xb, 0, none⟩) (q := 3) (.slice (at0 ob) l.length cap) rfl (fun w hw => hw.1) rfl ?_
              (first | refine wX ?_ | exact wZ)
              refine LdN.one (a := some ⟨xb, 0, none⟩) (q := 3) (.slice (at0 ob) l.length cap) rfl (fun w hw => hw.1) rfl ?_
              (first | refine wX ?_ | exact wZ)
              try rw [hw1]
              refine Nd.mk ⟨hoa, by omega, by omega⟩ ?_
              (first | refine wX ?_ | exact wZ)
              refine LdN.fld (.string (bs tt)) rfl (fun w hw => hw.2.1) (by rw [Int.toNat_natCast]; exact toksC_get l _ 1 (by decide) ht) ?_
              (first | refine wX ?_ | exact wZ)
              refine brd_intro (fun h => absurd (eq_of_beq (show (tt == [46]) = true from h)) h46) (fun _ => ?_)
              by_cases h38 : tt = [38, 46]
              · subst h38
                have hd : lastDot l = true := by rw [hdt]; simp [e7]
                (first | refine wX ?_ | exact wZ)
                -- 1: the field's number, .string (bs [38, 46]): its value
                refine LdN.one (a := some ⟨xb, 0, none⟩) (q := 3) (.slice (at0 ob) l.length cap) rfl (fun w hw => hw.1) rfl ?_
                (first | refine wX ?_ | exact wZ)
                refine LdN.one (a := some ⟨xb, 0, none⟩) (q := 3) (.slice (at0 ob) l.length cap) rfl (fun w hw => hw.1) rfl ?_
                (first | refine wX ?_ | exact wZ)
                try rw [hw1]
                refine Nd.mk ⟨hoa, by omega, by omega⟩ ?_
                (first | refine wX ?_ | exact wZ)
                refine LdN.fld (.string (bs [38, 46])) rfl (fun w hw => hw.2.1) (by rw [Int.toNat_natCast]; exact toksC_get l _ 1 (by decide) ht) ?_
                (first | refine wX ?_ | exact wZ)
                (first | refine wX ?_ | exact wZ)
                refine call1 (IsKeyword_c W (by omega) _ (fun w hw => hw.2.2.1.1)) ?_
                cases hkw : kwB W with
                | true =>
                  -- 1: the kind
                  rw [hwW, show wordsK s p l = (1, q) by rw [hK2]; simp [hsm, hd, *]]
                  (first | refine wX ?_ | exact wZ)
                  refine callG (add_c xb s q line l ob cap here sp 1 W line (by omega) hob) [0, 1] rfl ⟨rfl, rfl, trivial⟩ rfl fun ⟨b1, c1⟩ _ => ?_
                  (first | refine wX ?_ | exact wZ)
                  exact ⟨(b1, c1), trivial, rfl, wkE_refl _, wkE_refl _, wkE_refl _, wkH_nil _⟩
                | false =>
                  -- 1: the kind
                  rw [hwW, show wordsK s p l = (1, q) by rw [hK2]; simp [hsm, hd, *]]
                  (first | refine wX ?_ | exact wZ)
                  refine callG (add_c xb s q line l ob cap here sp 1 W line (by omega) hob) [0, 1] rfl ⟨rfl, rfl, trivial⟩ rfl fun ⟨b1, c1⟩ _ => ?_
                  (first | refine wX ?_ | exact wZ)
                  exact ⟨(b1, c1), trivial, rfl, wkE_refl _, wkE_refl _, wkE_refl _, wkH_nil _⟩
              · have hd : lastDot l = false := by rw [hdt]; simp [h46, h38]
                (first | refine wX ?_ | exact wZ)
                -- 1: the field's number, .string (bs tt): its value
                refine LdN.one (a := some ⟨xb, 0, none⟩) (q := 3) (.slice (at0 ob) l.length cap) rfl (fun w hw => hw.1) rfl ?_
                (first | refine wX ?_ | exact wZ)
                refine LdN.one (a := some ⟨xb, 0, none⟩) (q := 3) (.slice (at0 ob) l.length cap) rfl (fun w hw => hw.1) rfl ?_
                (first | refine wX ?_ | exact wZ)
                try rw [hw1]
                refine Nd.mk ⟨hoa, by omega, by omega⟩ ?_
                (first | refine wX ?_ | exact wZ)
                refine LdN.fld (.string (bs tt)) rfl (fun w hw => hw.2.1) (by rw [Int.toNat_natCast]; exact toksC_get l _ 1 (by decide) ht) ?_
                (first | refine wX ?_ | exact wZ)
                (first | refine wX ?_ | exact wZ)
                refine call1 (IsKeyword_c W (by omega) _ (fun w hw => hw.2.2.1.1)) ?_
                cases hkw : kwB W with
                | true =>
                  (first | refine wX ?_ | exact wZ)
                  refine brdT (show (!(tt == [38, 46])) = true by simp [h38]) ?_
                  -- 8: the kind
                  rw [hwW, show wordsK s p l = (8, q) by rw [hK2]; simp [hsm, hd, *]]
                  (first | refine wX ?_ | exact wZ)
                  refine callG (add_c xb s q line l ob cap here sp 8 W line (by omega) hob) [0, 1] rfl ⟨rfl, rfl, trivial⟩ rfl fun ⟨b1, c1⟩ _ => ?_
                  (first | refine wX ?_ | exact wZ)
                  exact ⟨(b1, c1), trivial, rfl, wkE_refl _, wkE_refl _, wkE_refl _, wkH_nil _⟩
                | false =>
                  -- 1: the kind
                  rw [hwW, show wordsK s p l = (1, q) by rw [hK2]; simp [hsm, hd, *]]
                  (first | refine wX ?_ | exact wZ)
                  refine callG (add_c xb s q line l ob cap here sp 1 W line (by omega) hob) [0, 1] rfl ⟨rfl, rfl, trivial⟩ rfl fun ⟨b1, c1⟩ _ => ?_
                  (first | refine wX ?_ | exact wZ)
                  exact ⟨(b1, c1), trivial, rfl, wkE_refl _, wkE_refl _, wkE_refl _, wkH_nil _⟩
          · have hd : lastDot l = false := by rw [hdt]; simp [e7]
            (first | refine wX ?_ | exact wZ)
            refine call1 (IsKeyword_c W (by omega) _ (fun w hw => hw.2.2.1.1)) ?_
            cases hkw : kwB W with
            | true =>
              -- 8: the kind
              rw [hwW, show wordsK s p l = (8, q) by rw [hK2]; simp [hsm, hd, *]]
              (first | refine wX ?_ | exact wZ)
              refine callG (add_c xb s q line l ob cap here sp 8 W line (by omega) hob) [0, 1] rfl ⟨rfl, rfl, trivial⟩ rfl fun ⟨b1, c1⟩ _ => ?_
              (first | refine wX ?_ | exact wZ)
              exact ⟨(b1, c1), trivial, rfl, wkE_refl _, wkE_refl _, wkE_refl _, wkH_nil _⟩
            | false =>
              -- 1: the kind
              rw [hwW, show wordsK s p l = (1, q) by rw [hK2]; simp [hsm, hd, *]]
              (first | refine wX ?_ | exact wZ)
              refine callG (add_c xb s q line l ob cap here sp 1 W line (by omega) hob) [0, 1] rfl ⟨rfl, rfl, trivial⟩ rfl fun ⟨b1, c1⟩ _ => ?_
              (first | refine wX ?_ | exact wZ)
              exact ⟨(b1, c1), trivial, rfl, wkE_refl _, wkE_refl _, wkE_refl _, wkH_nil _⟩
      | false =>
        have hK2 : wordsK s p l = (9, q + 1) := by rw [hK]; simp [bne, e0, e1]
        have hql := pk_lt (show pk s q = 58 by simpa using e0) (by decide)
        rw [hwW, hK2]
        (first | refine wX ?_ | exact wZ)
        refine LdN.one (a := some ⟨xb, 0, none⟩) (q := 1) (.int .i64 ((q : Nat) : Int)) rfl (fun w hw => hw.1) rfl ?_
        (first | refine wX ?_ | exact wZ)
        refine EffW.appTo (i := 0) (q := 1) (ys := [_]) (scC s (q + 1) line ob l.length cap here sp) 6 rfl rfl rfl rfl rfl rfl rfl (Nat.le_of_ble_eq_true rfl) (by
          show [_, Value.int .i64 _, _, _, _, _] = [_, Value.int .i64 _, _, _, _, _]
          rw [wrap_i64 (by omega)]
          rfl) rfl ?_
        (first | refine wX ?_ | exact wZ)
        refine callG (add_c xb s (q + 1) line l ob cap here sp 9 W line (by omega) hob) [0, 1] rfl ⟨rfl, rfl, trivial⟩ rfl fun ⟨b1, c1⟩ _ => ?_
        (first | refine wX ?_ | exact wZ)
        exact ⟨(b1, c1), trivial, rfl, wkE_refl _, wkE_refl _, wkE_refl _, wkH_nil _⟩
    | false =>
      have hK2 : wordsK s p l = (if !sml c then 2 else if kwB W && !lastDot l then 8 else 1, q) := by rw [hK]; simp [e0]
      -- false: upper
      rcases Nat.eq_zero_or_pos l.length with hl0 | hl0
      · have hd : lastDot l = false := by rw [List.eq_nil_of_length_eq_zero hl0]; rfl
        (first | refine wX ?_ | exact wZ)
        refine LdN.one (a := some ⟨xb, 0, none⟩) (q := 3) (.slice (at0 ob) l.length cap) rfl (fun w hw => hw.1) rfl ?_
        (first | refine wX ?_ | exact wZ)
        refine brd_dec (fun h => absurd h (by omega)) (fun _ => ?_)
        (first | refine wX ?_ | exact wZ)
        refine call1 (IsKeyword_c W (by omega) _ (fun w hw => hw.2.2.1.1)) ?_
        cases hkw : kwB W with
        | true =>
          -- 8: the kind
          rw [hwW, show wordsK s p l = (8, q) by rw [hK2]; simp [hsm, hd, *]]
          (first | refine wX ?_ | exact wZ)
          refine callG (add_c xb s q line l ob cap here sp 8 W line (by omega) hob) [0, 1] rfl ⟨rfl, rfl, trivial⟩ rfl fun ⟨b1, c1⟩ _ => ?_
          (first | refine wX ?_ | exact wZ)
          exact ⟨(b1, c1), trivial, rfl, wkE_refl _, wkE_refl _, wkE_refl _, wkH_nil _⟩
        | false =>
          -- 1: the kind
          rw [hwW, show wordsK s p l = (1, q) by rw [hK2]; simp [hsm, hd, *]]
          (first | refine wX ?_ | exact wZ)
          refine callG (add_c xb s q line l ob cap here sp 1 W line (by omega) hob) [0, 1] rfl ⟨rfl, rfl, trivial⟩ rfl fun ⟨b1, c1⟩ _ => ?_
          (first | refine wX ?_ | exact wZ)
          exact ⟨(b1, c1), trivial, rfl, wkE_refl _, wkE_refl _, wkE_refl _, wkH_nil _⟩
      · obtain ⟨t, ht⟩ : ∃ t, l[l.length - 1]? = some t := ⟨_, List.getElem?_eq_getElem (by omega)⟩
        have hoa : (at0 ob).isSome = true := by
          cases ob with
          | none => rw [hob rfl] at hl0; simp at hl0
          | some g => rfl
        have hw1 : IntKind.i64.wrap ((l.length : Int) - 1) = ((l.length - 1 : Nat) : Int) := by rw [wrap_i64 (by omega)]; omega
        obtain ⟨tk, tt, ts, tl2, ta, tn, tc⟩ := t
        have hdt : lastDot l = (tk == 7 && (tt == [46] || tt == [38, 46])) := by
          unfold lastDot
          rw [List.getLast?_eq_getElem?, ht]
        (first | refine wX ?_ | exact wZ)
        refine LdN.one (a := some ⟨xb, 0, none⟩) (q := 3) (.slice (at0 ob) l.length cap) rfl (fun w hw => hw.1) rfl ?_
        (first | refine wX ?_ | exact wZ)
        refine brd_dec (fun _ => ?_) (fun h => absurd h (by omega))
        (first | refine wX ?_ | exact wZ)
        -- 0: the field's number, .int .i64 tk: its value
        refine LdN.one (a := some ⟨xb, 0, none⟩) (q := 3) (.slice (at0 ob) l.length cap) rfl (fun w hw => hw.1) rfl ?_
        (first | refine wX ?_ | exact wZ)
        refine LdN.one (a := some ⟨xb, 0, none⟩) (q := 3) (.slice (at0 ob) l.length cap) rfl (fun w hw => hw.1) rfl ?_
        (first | refine wX ?_ | exact wZ)
        try rw [hw1]
        refine Nd.mk ⟨hoa, by omega, by omega⟩ ?_
        (first | refine wX ?_ | exact wZ)
        refine LdN.fld (.int .i64 tk) rfl (fun w hw => hw.2.1) (by rw [Int.toNat_natCast]; exact toksC_get l _ 0 (by decide) ht) ?_
        (first | refine wX ?_ | exact wZ)
        refine brd_eq (fun e7 => ?_) (fun e7 => ?_)
        · by_cases h46 : tt = [46]
          · subst h46
            have hd : lastDot l = true := by rw [hdt]; simp [e7]
            (first | refine wX ?_ | exact wZ)
            -- 1: the field's number, .string (bs [46]): its value
            refine LdN.one (a := some ⟨xb, 0, none⟩) (q := 3) (.slice (at0 ob) l.length cap) rfl (fun w hw => hw.1) rfl ?_
            (first | refine wX ?_ | exact wZ)
            refine LdN.one (a := some ⟨xb, 0, none⟩) (q := 3) (.slice (at0 ob) l.length cap) rfl (fun w hw => hw.1) rfl ?_
            (first | refine wX ?_ | exact wZ)
            try rw [hw1]
            refine Nd.mk ⟨hoa, by omega, by omega⟩ ?_
            (first | refine wX ?_ | exact wZ)
            refine LdN.fld (.string (bs [46])) rfl (fun w hw => hw.2.1) (by rw [Int.toNat_natCast]; exact toksC_get l _ 1 (by decide) ht) ?_
            (first | refine wX ?_ | exact wZ)
            (first | refine wX ?_ | exact wZ)
            refine call1 (IsKeyword_c W (by omega) _ (fun w hw => hw.2.2.1.1)) ?_
            cases hkw : kwB W with
            | true =>
              -- 1: the kind
              rw [hwW, show wordsK s p l = (1, q) by rw [hK2]; simp [hsm, hd, *]]
              (first | refine wX ?_ | exact wZ)
              refine callG (add_c xb s q line l ob cap here sp 1 W line (by omega) hob) [0, 1] rfl ⟨rfl, rfl, trivial⟩ rfl fun ⟨b1, c1⟩ _ => ?_
              (first | refine wX ?_ | exact wZ)
              exact ⟨(b1, c1), trivial, rfl, wkE_refl _, wkE_refl _, wkE_refl _, wkH_nil _⟩
            | false =>
              -- 1: the kind
              rw [hwW, show wordsK s p l = (1, q) by rw [hK2]; simp [hsm, hd, *]]
              (first | refine wX ?_ | exact wZ)
              refine callG (add_c xb s q line l ob cap here sp 1 W line (by omega) hob) [0, 1] rfl ⟨rfl, rfl, trivial⟩ rfl fun ⟨b1, c1⟩ _ => ?_
              (first | refine wX ?_ | exact wZ)
              exact ⟨(b1, c1), trivial, rfl, wkE_refl _, wkE_refl _, wkE_refl _, wkH_nil _⟩
          · (first | refine wX ?_ | exact wZ)
            -- 1: the field's number, .string (bs tt): its value
            refine LdN.one (a := some ⟨xb, 0, none⟩) (q := 3) (.slice (at0 ob) l.length cap) rfl (fun w hw => hw.1) rfl ?_
            (first | refine wX ?_ | exact wZ)
            refine LdN.one (a := some ⟨xb, 0, none⟩) (q := 3) (.slice (at0 ob) l.length cap) rfl (fun w hw => hw.1) rfl ?_
            (first | refine wX ?_ | exact wZ)
            try rw [hw1]
            refine Nd.mk ⟨hoa, by omega, by omega⟩ ?_
            (first | refine wX ?_ | exact wZ)
            refine LdN.fld (.string (bs tt)) rfl (fun w hw => hw.2.1) (by rw [Int.toNat_natCast]; exact toksC_get l _ 1 (by decide) ht) ?_
            (first | refine wX ?_ | exact wZ)
            refine brd_intro (fun h => absurd (eq_of_beq (show (tt == [46]) = true from h)) h46) (fun _ => ?_)
            by_cases h38 : tt = [38, 46]
            · subst h38
              have hd : lastDot l = true := by rw [hdt]; simp [e7]
              (first | refine wX ?_ | exact wZ)
              -- 1: the field's number, .string (bs [38, 46]): its value
              refine LdN.one (a := some ⟨xb, 0, none⟩) (q := 3) (.slice (at0 ob) l.length cap) rfl (fun w hw => hw.1) rfl ?_
              (first | refine wX ?_ | exact wZ)
              refine LdN.one (a := some ⟨xb, 0, none⟩) (q := 3) (.slice (at0 ob) l.length cap) rfl (fun w hw => hw.1) rfl ?_
              (first | refine wX ?_ | exact wZ)
              try rw [hw1]
              refine Nd.mk ⟨hoa, by omega, by omega⟩ ?_
              (first | refine wX ?_ | exact wZ)
              refine LdN.fld (.string (bs [38, 46])) rfl (fun w hw => hw.2.1) (by rw [Int.toNat_natCast]; exact toksC_get l _ 1 (by decide) ht) ?_
              (first | refine wX ?_ | exact wZ)
              (first | refine wX ?_ | exact wZ)
              refine call1 (IsKeyword_c W (by omega) _ (fun w hw => hw.2.2.1.1)) ?_
              cases hkw : kwB W with
              | true =>
                -- 1: the kind
                rw [hwW, show wordsK s p l = (1, q) by rw [hK2]; simp [hsm, hd, *]]
                (first | refine wX ?_ | exact wZ)
                refine callG (add_c xb s q line l ob cap here sp 1 W line (by omega) hob) [0, 1] rfl ⟨rfl, rfl, trivial⟩ rfl fun ⟨b1, c1⟩ _ => ?_
                (first | refine wX ?_ | exact wZ)
                exact ⟨(b1, c1), trivial, rfl, wkE_refl _, wkE_refl _, wkE_refl _, wkH_nil _⟩
              | false =>
                -- 1: the kind
                rw [hwW, show wordsK s p l = (1, q) by rw [hK2]; simp [hsm, hd, *]]
                (first | refine wX ?_ | exact wZ)
                refine callG (add_c xb s q line l ob cap here sp 1 W line (by omega) hob) [0, 1] rfl ⟨rfl, rfl, trivial⟩ rfl fun ⟨b1, c1⟩ _ => ?_
                (first | refine wX ?_ | exact wZ)
                exact ⟨(b1, c1), trivial, rfl, wkE_refl _, wkE_refl _, wkE_refl _, wkH_nil _⟩
            · have hd : lastDot l = false := by rw [hdt]; simp [h46, h38]
              (first | refine wX ?_ | exact wZ)
              -- 1: the field's number, .string (bs tt): its value
              refine LdN.one (a := some ⟨xb, 0, none⟩) (q := 3) (.slice (at0 ob) l.length cap) rfl (fun w hw => hw.1) rfl ?_
              (first | refine wX ?_ | exact wZ)
              refine LdN.one (a := some ⟨xb, 0, none⟩) (q := 3) (.slice (at0 ob) l.length cap) rfl (fun w hw => hw.1) rfl ?_
              (first | refine wX ?_ | exact wZ)
              try rw [hw1]
              refine Nd.mk ⟨hoa, by omega, by omega⟩ ?_
              (first | refine wX ?_ | exact wZ)
              refine LdN.fld (.string (bs tt)) rfl (fun w hw => hw.2.1) (by rw [Int.toNat_natCast]; exact toksC_get l _ 1 (by decide) ht) ?_
              (first | refine wX ?_ | exact wZ)
              (first | refine wX ?_ | exact wZ)
              refine call1 (IsKeyword_c W (by omega) _ (fun w hw => hw.2.2.1.1)) ?_
              cases hkw : kwB W with
              | true =>
                (first | refine wX ?_ | exact wZ)
                refine brdT (show (!(tt == [38, 46])) = true by simp [h38]) ?_
                -- 8: the kind
                rw [hwW, show wordsK s p l = (8, q) by rw [hK2]; simp [hsm, hd, *]]
                (first | refine wX ?_ | exact wZ)
                refine callG (add_c xb s q line l ob cap here sp 8 W line (by omega) hob) [0, 1] rfl ⟨rfl, rfl, trivial⟩ rfl fun ⟨b1, c1⟩ _ => ?_
                (first | refine wX ?_ | exact wZ)
                exact ⟨(b1, c1), trivial, rfl, wkE_refl _, wkE_refl _, wkE_refl _, wkH_nil _⟩
              | false =>
                -- 1: the kind
                rw [hwW, show wordsK s p l = (1, q) by rw [hK2]; simp [hsm, hd, *]]
                (first | refine wX ?_ | exact wZ)
                refine callG (add_c xb s q line l ob cap here sp 1 W line (by omega) hob) [0, 1] rfl ⟨rfl, rfl, trivial⟩ rfl fun ⟨b1, c1⟩ _ => ?_
                (first | refine wX ?_ | exact wZ)
                exact ⟨(b1, c1), trivial, rfl, wkE_refl _, wkE_refl _, wkE_refl _, wkH_nil _⟩
        · have hd : lastDot l = false := by rw [hdt]; simp [e7]
          (first | refine wX ?_ | exact wZ)
          refine call1 (IsKeyword_c W (by omega) _ (fun w hw => hw.2.2.1.1)) ?_
          cases hkw : kwB W with
          | true =>
            -- 8: the kind
            rw [hwW, show wordsK s p l = (8, q) by rw [hK2]; simp [hsm, hd, *]]
            (first | refine wX ?_ | exact wZ)
            refine callG (add_c xb s q line l ob cap here sp 8 W line (by omega) hob) [0, 1] rfl ⟨rfl, rfl, trivial⟩ rfl fun ⟨b1, c1⟩ _ => ?_
            (first | refine wX ?_ | exact wZ)
            exact ⟨(b1, c1), trivial, rfl, wkE_refl _, wkE_refl _, wkE_refl _, wkH_nil _⟩
          | false =>
            -- 1: the kind
            rw [hwW, show wordsK s p l = (1, q) by rw [hK2]; simp [hsm, hd, *]]
            (first | refine wX ?_ | exact wZ)
            refine callG (add_c xb s q line l ob cap here sp 1 W line (by omega) hob) [0, 1] rfl ⟨rfl, rfl, trivial⟩ rfl fun ⟨b1, c1⟩ _ => ?_
            (first | refine wX ?_ | exact wZ)
            exact ⟨(b1, c1), trivial, rfl, wkE_refl _, wkE_refl _, wkE_refl _, wkH_nil _⟩
  | false =>
    have hwl := wordS_le s p (by omega)
    (first | refine wX ?_ | exact wZ)
    refine callG (word_c xb s p line ob l.length cap here sp hs (by omega)) [0] rfl ⟨rfl, trivial⟩ rfl fun _ _ => ?_
    generalize hq : p + (wordS s p).length = q at *
    -- true: upper, wordS s p: the word
    have hwW : wordW s p = wordS s p := by unfold wordW; rw [hcp]; simp [hsm]
    have hK : wordsK s p l = if pk s q == 58 && pk s (q + 1) != 58 then (9, q + 1) else (if !sml c then 2 else if kwB (wordS s p) && !lastDot l then 8 else 1, q) := by
      unfold wordsK
      simp only [hwW, hq, hcp]
    generalize hW : wordS s p = W at *
    (first | refine wX ?_ | exact wZ)
    refine call1 (peek_c xb s q line ob l.length cap here sp 0 (by omega) (by decide) _ (fun w hw => hw.1)) ?_
    rw [Nat.add_zero]
    have hb0 : (((pk s q).toNat : Int) == 58) = (pk s q == 58) := u8_eq (n := 58) (by decide)
    have hb1 : (((pk s (q + 1)).toNat : Int) == 58) = (pk s (q + 1) == 58) := u8_eq (n := 58) (by decide)
    (first | refine wX ?_ | exact wZ)
    rw [hb0]
    cases e0 : pk s q == 58 with
    | true =>
      (first | refine wX ?_ | exact wZ)
      refine call1 (peek_c xb s q line ob l.length cap here sp 1 (by omega) (by decide) _ (fun w hw => hw.1)) ?_
      (first | refine wX ?_ | exact wZ)
      rw [bne, hb1]
      cases e1 : pk s (q + 1) == 58 with
      | true =>
        have hK2 : wordsK s p l = (if !sml c then 2 else if kwB W && !lastDot l then 8 else 1, q) := by rw [hK]; simp [bne, e1]
        -- true: upper
        rcases Nat.eq_zero_or_pos l.length with hl0 | hl0
        · have hd : lastDot l = false := by rw [List.eq_nil_of_length_eq_zero hl0]; rfl
          (first | refine wX ?_ | exact wZ)
          refine LdN.one (a := some ⟨xb, 0, none⟩) (q := 3) (.slice (at0 ob) l.length cap) rfl (fun w hw => hw.1) rfl ?_
          (first | refine wX ?_ | exact wZ)
          refine brd_dec (fun h => absurd h (by omega)) (fun _ => ?_)
          -- it is upper; false: whether a dot is ahead
          -- 2: the kind
          rw [hwW, show wordsK s p l = (2, q) by rw [hK2]; simp [hsm, hd, *]]
          (first | refine wX ?_ | exact wZ)
          refine callG (add_c xb s q line l ob cap here sp 2 W line (by omega) hob) [0, 1] rfl ⟨rfl, rfl, trivial⟩ rfl fun ⟨b1, c1⟩ _ => ?_
          (first | refine wX ?_ | exact wZ)
          exact ⟨(b1, c1), trivial, rfl, wkE_refl _, wkE_refl _, wkE_refl _, wkH_nil _⟩
        · obtain ⟨t, ht⟩ : ∃ t, l[l.length - 1]? = some t := ⟨_, List.getElem?_eq_getElem (by omega)⟩
          have hoa : (at0 ob).isSome = true := by
            cases ob with
            | none => rw [hob rfl] at hl0; simp at hl0
            | some g => rfl
          have hw1 : IntKind.i64.wrap ((l.length : Int) - 1) = ((l.length - 1 : Nat) : Int) := by rw [wrap_i64 (by omega)]; omega
          obtain ⟨tk, tt, ts, tl2, ta, tn, tc⟩ := t
          have hdt : lastDot l = (tk == 7 && (tt == [46] || tt == [38, 46])) := by
            unfold lastDot
            rw [List.getLast?_eq_getElem?, ht]
          (first | refine wX ?_ | exact wZ)
          refine LdN.one (a := some ⟨xb, 0, none⟩) (q := 3) (.slice (at0 ob) l.length cap) rfl (fun w hw => hw.1) rfl ?_
          (first | refine wX ?_ | exact wZ)
          refine brd_dec (fun _ => ?_) (fun h => absurd h (by omega))
          (first | refine wX ?_ | exact wZ)
          -- 0: the field's number, .int .i64 tk: its value
          refine LdN.one (a := some ⟨xb, 0, none⟩) (q := 3) (.slice (at0 ob) l.length cap) rfl (fun w hw => hw.1) rfl ?_
          (first | refine wX ?_ | exact wZ)
          refine LdN.one (a := some ⟨xb, 0, none⟩) (q := 3) (.slice (at0 ob) l.length cap) rfl (fun w hw => hw.1) rfl ?_
          (first | refine wX ?_ | exact wZ)
          try rw [hw1]
          refine Nd.mk ⟨hoa, by omega, by omega⟩ ?_
          (first | refine wX ?_ | exact wZ)
          refine LdN.fld (.int .i64 tk) rfl (fun w hw => hw.2.1) (by rw [Int.toNat_natCast]; exact toksC_get l _ 0 (by decide) ht) ?_
          (first | refine wX ?_ | exact wZ)
          refine brd_eq (fun e7 => ?_) (fun e7 => ?_)
          · by_cases h46 : tt = [46]
            · subst h46
              have hd : lastDot l = true := by rw [hdt]; simp [e7]
              (first | refine wX ?_ | exact wZ)
              -- 1: the field's number, .string (bs [46]): its value
              refine LdN.one (a := some ⟨xb, 0, none⟩) (q := 3) (.slice (at0 ob) l.length cap) rfl (fun w hw => hw.1) rfl ?_
              (first | refine wX ?_ | exact wZ)
              refine LdN.one (a := some ⟨xb, 0, none⟩) (q := 3) (.slice (at0 ob) l.length cap) rfl (fun w hw => hw.1) rfl ?_
              (first | refine wX ?_ | exact wZ)
              try rw [hw1]
              refine Nd.mk ⟨hoa, by omega, by omega⟩ ?_
              (first | refine wX ?_ | exact wZ)
              refine LdN.fld (.string (bs [46])) rfl (fun w hw => hw.2.1) (by rw [Int.toNat_natCast]; exact toksC_get l _ 1 (by decide) ht) ?_
              (first | refine wX ?_ | exact wZ)
              -- it is upper; true: whether a dot is ahead
              -- 2: the kind
              rw [hwW, show wordsK s p l = (2, q) by rw [hK2]; simp [hsm, hd, *]]
              (first | refine wX ?_ | exact wZ)
              refine callG (add_c xb s q line l ob cap here sp 2 W line (by omega) hob) [0, 1] rfl ⟨rfl, rfl, trivial⟩ rfl fun ⟨b1, c1⟩ _ => ?_
              (first | refine wX ?_ | exact wZ)
              exact ⟨(b1, c1), trivial, rfl, wkE_refl _, wkE_refl _, wkE_refl _, wkH_nil _⟩
            · (first | refine wX ?_ | exact wZ)
              -- 1: the field's number, .string (bs tt): its value
              refine LdN.one (a := some ⟨xb, 0, none⟩) (q := 3) (.slice (at0 ob) l.length cap) rfl (fun w hw => hw.1) rfl ?_
              (first | refine wX ?_ | exact wZ)
              refine LdN.one (a := some ⟨xb, 0, none⟩) (q := 3) (.slice (at0 ob) l.length cap) rfl (fun w hw => hw.1) rfl ?_
              (first | refine wX ?_ | exact wZ)
              try rw [hw1]
              refine Nd.mk ⟨hoa, by omega, by omega⟩ ?_
              (first | refine wX ?_ | exact wZ)
              refine LdN.fld (.string (bs tt)) rfl (fun w hw => hw.2.1) (by rw [Int.toNat_natCast]; exact toksC_get l _ 1 (by decide) ht) ?_
              (first | refine wX ?_ | exact wZ)
              refine brd_intro (fun h => absurd (eq_of_beq (show (tt == [46]) = true from h)) h46) (fun _ => ?_)
              by_cases h38 : tt = [38, 46]
              · subst h38
                have hd : lastDot l = true := by rw [hdt]; simp [e7]
                (first | refine wX ?_ | exact wZ)
                -- 1: the field's number, .string (bs [38, 46]): its value
                refine LdN.one (a := some ⟨xb, 0, none⟩) (q := 3) (.slice (at0 ob) l.length cap) rfl (fun w hw => hw.1) rfl ?_
                (first | refine wX ?_ | exact wZ)
                refine LdN.one (a := some ⟨xb, 0, none⟩) (q := 3) (.slice (at0 ob) l.length cap) rfl (fun w hw => hw.1) rfl ?_
                (first | refine wX ?_ | exact wZ)
                try rw [hw1]
                refine Nd.mk ⟨hoa, by omega, by omega⟩ ?_
                (first | refine wX ?_ | exact wZ)
                refine LdN.fld (.string (bs [38, 46])) rfl (fun w hw => hw.2.1) (by rw [Int.toNat_natCast]; exact toksC_get l _ 1 (by decide) ht) ?_
                (first | refine wX ?_ | exact wZ)
                -- it is upper; true: whether a dot is ahead
                -- 2: the kind
                rw [hwW, show wordsK s p l = (2, q) by rw [hK2]; simp [hsm, hd, *]]
                (first | refine wX ?_ | exact wZ)
                refine callG (add_c xb s q line l ob cap here sp 2 W line (by omega) hob) [0, 1] rfl ⟨rfl, rfl, trivial⟩ rfl fun ⟨b1, c1⟩ _ => ?_
                (first | refine wX ?_ | exact wZ)
                exact ⟨(b1, c1), trivial, rfl, wkE_refl _, wkE_refl _, wkE_refl _, wkH_nil _⟩
              · have hd : lastDot l = false := by rw [hdt]; simp [h46, h38]
                (first | refine wX ?_ | exact wZ)
                -- 1: the field's number, .string (bs tt): its value
                refine LdN.one (a := some ⟨xb, 0, none⟩) (q := 3) (.slice (at0 ob) l.length cap) rfl (fun w hw => hw.1) rfl ?_
                (first | refine wX ?_ | exact wZ)
                refine LdN.one (a := some ⟨xb, 0, none⟩) (q := 3) (.slice (at0 ob) l.length cap) rfl (fun w hw => hw.1) rfl ?_
                (first | refine wX ?_ | exact wZ)
                try rw [hw1]
                refine Nd.mk ⟨hoa, by omega, by omega⟩ ?_
                (first | refine wX ?_ | exact wZ)
                refine LdN.fld (.string (bs tt)) rfl (fun w hw => hw.2.1) (by rw [Int.toNat_natCast]; exact toksC_get l _ 1 (by decide) ht) ?_
                (first | refine wX ?_ | exact wZ)
                -- it is upper; sym: whether a dot is ahead
                -- 2: the kind
                rw [hwW, show wordsK s p l = (2, q) by rw [hK2]; simp [hsm, hd, *]]
                (first | refine wX ?_ | exact wZ)
                refine callG (add_c xb s q line l ob cap here sp 2 W line (by omega) hob) [0, 1] rfl ⟨rfl, rfl, trivial⟩ rfl fun ⟨b1, c1⟩ _ => ?_
                (first | refine wX ?_ | exact wZ)
                exact ⟨(b1, c1), trivial, rfl, wkE_refl _, wkE_refl _, wkE_refl _, wkH_nil _⟩
          · have hd : lastDot l = false := by rw [hdt]; simp [e7]
            -- it is upper; false: whether a dot is ahead
            -- 2: the kind
            rw [hwW, show wordsK s p l = (2, q) by rw [hK2]; simp [hsm, hd, *]]
            (first | refine wX ?_ | exact wZ)
            refine callG (add_c xb s q line l ob cap here sp 2 W line (by omega) hob) [0, 1] rfl ⟨rfl, rfl, trivial⟩ rfl fun ⟨b1, c1⟩ _ => ?_
            (first | refine wX ?_ | exact wZ)
            exact ⟨(b1, c1), trivial, rfl, wkE_refl _, wkE_refl _, wkE_refl _, wkH_nil _⟩
      | false =>
        have hK2 : wordsK s p l = (9, q + 1) := by rw [hK]; simp [bne, e0, e1]
        have hql := pk_lt (show pk s q = 58 by simpa using e0) (by decide)
        rw [hwW, hK2]
        (first | refine wX ?_ | exact wZ)
        refine LdN.one (a := some ⟨xb, 0, none⟩) (q := 1) (.int .i64 ((q : Nat) : Int)) rfl (fun w hw => hw.1) rfl ?_
        (first | refine wX ?_ | exact wZ)
        refine EffW.appTo (i := 0) (q := 1) (ys := [_]) (scC s (q + 1) line ob l.length cap here sp) 6 rfl rfl rfl rfl rfl rfl rfl (Nat.le_of_ble_eq_true rfl) (by
          show [_, Value.int .i64 _, _, _, _, _] = [_, Value.int .i64 _, _, _, _, _]
          rw [wrap_i64 (by omega)]
          rfl) rfl ?_
        (first | refine wX ?_ | exact wZ)
        refine callG (add_c xb s (q + 1) line l ob cap here sp 9 W line (by omega) hob) [0, 1] rfl ⟨rfl, rfl, trivial⟩ rfl fun ⟨b1, c1⟩ _ => ?_
        (first | refine wX ?_ | exact wZ)
        exact ⟨(b1, c1), trivial, rfl, wkE_refl _, wkE_refl _, wkE_refl _, wkH_nil _⟩
    | false =>
      have hK2 : wordsK s p l = (if !sml c then 2 else if kwB W && !lastDot l then 8 else 1, q) := by rw [hK]; simp [e0]
      -- true: upper
      rcases Nat.eq_zero_or_pos l.length with hl0 | hl0
      · have hd : lastDot l = false := by rw [List.eq_nil_of_length_eq_zero hl0]; rfl
        (first | refine wX ?_ | exact wZ)
        refine LdN.one (a := some ⟨xb, 0, none⟩) (q := 3) (.slice (at0 ob) l.length cap) rfl (fun w hw => hw.1) rfl ?_
        (first | refine wX ?_ | exact wZ)
        refine brd_dec (fun h => absurd h (by omega)) (fun _ => ?_)
        -- it is upper; false: whether a dot is ahead
        -- 2: the kind
        rw [hwW, show wordsK s p l = (2, q) by rw [hK2]; simp [hsm, hd, *]]
        (first | refine wX ?_ | exact wZ)
        refine callG (add_c xb s q line l ob cap here sp 2 W line (by omega) hob) [0, 1] rfl ⟨rfl, rfl, trivial⟩ rfl fun ⟨b1, c1⟩ _ => ?_
        (first | refine wX ?_ | exact wZ)
        exact ⟨(b1, c1), trivial, rfl, wkE_refl _, wkE_refl _, wkE_refl _, wkH_nil _⟩
      · obtain ⟨t, ht⟩ : ∃ t, l[l.length - 1]? = some t := ⟨_, List.getElem?_eq_getElem (by omega)⟩
        have hoa : (at0 ob).isSome = true := by
          cases ob with
          | none => rw [hob rfl] at hl0; simp at hl0
          | some g => rfl
        have hw1 : IntKind.i64.wrap ((l.length : Int) - 1) = ((l.length - 1 : Nat) : Int) := by rw [wrap_i64 (by omega)]; omega
        obtain ⟨tk, tt, ts, tl2, ta, tn, tc⟩ := t
        have hdt : lastDot l = (tk == 7 && (tt == [46] || tt == [38, 46])) := by
          unfold lastDot
          rw [List.getLast?_eq_getElem?, ht]
        (first | refine wX ?_ | exact wZ)
        refine LdN.one (a := some ⟨xb, 0, none⟩) (q := 3) (.slice (at0 ob) l.length cap) rfl (fun w hw => hw.1) rfl ?_
        (first | refine wX ?_ | exact wZ)
        refine brd_dec (fun _ => ?_) (fun h => absurd h (by omega))
        (first | refine wX ?_ | exact wZ)
        -- 0: the field's number, .int .i64 tk: its value
        refine LdN.one (a := some ⟨xb, 0, none⟩) (q := 3) (.slice (at0 ob) l.length cap) rfl (fun w hw => hw.1) rfl ?_
        (first | refine wX ?_ | exact wZ)
        refine LdN.one (a := some ⟨xb, 0, none⟩) (q := 3) (.slice (at0 ob) l.length cap) rfl (fun w hw => hw.1) rfl ?_
        (first | refine wX ?_ | exact wZ)
        try rw [hw1]
        refine Nd.mk ⟨hoa, by omega, by omega⟩ ?_
        (first | refine wX ?_ | exact wZ)
        refine LdN.fld (.int .i64 tk) rfl (fun w hw => hw.2.1) (by rw [Int.toNat_natCast]; exact toksC_get l _ 0 (by decide) ht) ?_
        (first | refine wX ?_ | exact wZ)
        refine brd_eq (fun e7 => ?_) (fun e7 => ?_)
        · by_cases h46 : tt = [46]
          · subst h46
            have hd : lastDot l = true := by rw [hdt]; simp [e7]
            (first | refine wX ?_ | exact wZ)
            -- 1: the field's number, .string (bs [46]): its value
            refine LdN.one (a := some ⟨xb, 0, none⟩) (q := 3) (.slice (at0 ob) l.length cap) rfl (fun w hw => hw.1) rfl ?_
            (first | refine wX ?_ | exact wZ)
            refine LdN.one (a := some ⟨xb, 0, none⟩) (q := 3) (.slice (at0 ob) l.length cap) rfl (fun w hw => hw.1) rfl ?_
            (first | refine wX ?_ | exact wZ)
            try rw [hw1]
            refine Nd.mk ⟨hoa, by omega, by omega⟩ ?_
            (first | refine wX ?_ | exact wZ)
            refine LdN.fld (.string (bs [46])) rfl (fun w hw => hw.2.1) (by rw [Int.toNat_natCast]; exact toksC_get l _ 1 (by decide) ht) ?_
            (first | refine wX ?_ | exact wZ)
            -- it is upper; true: whether a dot is ahead
            -- 2: the kind
            rw [hwW, show wordsK s p l = (2, q) by rw [hK2]; simp [hsm, hd, *]]
            (first | refine wX ?_ | exact wZ)
            refine callG (add_c xb s q line l ob cap here sp 2 W line (by omega) hob) [0, 1] rfl ⟨rfl, rfl, trivial⟩ rfl fun ⟨b1, c1⟩ _ => ?_
            (first | refine wX ?_ | exact wZ)
            exact ⟨(b1, c1), trivial, rfl, wkE_refl _, wkE_refl _, wkE_refl _, wkH_nil _⟩
          · (first | refine wX ?_ | exact wZ)
            -- 1: the field's number, .string (bs tt): its value
            refine LdN.one (a := some ⟨xb, 0, none⟩) (q := 3) (.slice (at0 ob) l.length cap) rfl (fun w hw => hw.1) rfl ?_
            (first | refine wX ?_ | exact wZ)
            refine LdN.one (a := some ⟨xb, 0, none⟩) (q := 3) (.slice (at0 ob) l.length cap) rfl (fun w hw => hw.1) rfl ?_
            (first | refine wX ?_ | exact wZ)
            try rw [hw1]
            refine Nd.mk ⟨hoa, by omega, by omega⟩ ?_
            (first | refine wX ?_ | exact wZ)
            refine LdN.fld (.string (bs tt)) rfl (fun w hw => hw.2.1) (by rw [Int.toNat_natCast]; exact toksC_get l _ 1 (by decide) ht) ?_
            (first | refine wX ?_ | exact wZ)
            refine brd_intro (fun h => absurd (eq_of_beq (show (tt == [46]) = true from h)) h46) (fun _ => ?_)
            by_cases h38 : tt = [38, 46]
            · subst h38
              have hd : lastDot l = true := by rw [hdt]; simp [e7]
              (first | refine wX ?_ | exact wZ)
              -- 1: the field's number, .string (bs [38, 46]): its value
              refine LdN.one (a := some ⟨xb, 0, none⟩) (q := 3) (.slice (at0 ob) l.length cap) rfl (fun w hw => hw.1) rfl ?_
              (first | refine wX ?_ | exact wZ)
              refine LdN.one (a := some ⟨xb, 0, none⟩) (q := 3) (.slice (at0 ob) l.length cap) rfl (fun w hw => hw.1) rfl ?_
              (first | refine wX ?_ | exact wZ)
              try rw [hw1]
              refine Nd.mk ⟨hoa, by omega, by omega⟩ ?_
              (first | refine wX ?_ | exact wZ)
              refine LdN.fld (.string (bs [38, 46])) rfl (fun w hw => hw.2.1) (by rw [Int.toNat_natCast]; exact toksC_get l _ 1 (by decide) ht) ?_
              (first | refine wX ?_ | exact wZ)
              -- it is upper; true: whether a dot is ahead
              -- 2: the kind
              rw [hwW, show wordsK s p l = (2, q) by rw [hK2]; simp [hsm, hd, *]]
              (first | refine wX ?_ | exact wZ)
              refine callG (add_c xb s q line l ob cap here sp 2 W line (by omega) hob) [0, 1] rfl ⟨rfl, rfl, trivial⟩ rfl fun ⟨b1, c1⟩ _ => ?_
              (first | refine wX ?_ | exact wZ)
              exact ⟨(b1, c1), trivial, rfl, wkE_refl _, wkE_refl _, wkE_refl _, wkH_nil _⟩
            · have hd : lastDot l = false := by rw [hdt]; simp [h46, h38]
              (first | refine wX ?_ | exact wZ)
              -- 1: the field's number, .string (bs tt): its value
              refine LdN.one (a := some ⟨xb, 0, none⟩) (q := 3) (.slice (at0 ob) l.length cap) rfl (fun w hw => hw.1) rfl ?_
              (first | refine wX ?_ | exact wZ)
              refine LdN.one (a := some ⟨xb, 0, none⟩) (q := 3) (.slice (at0 ob) l.length cap) rfl (fun w hw => hw.1) rfl ?_
              (first | refine wX ?_ | exact wZ)
              try rw [hw1]
              refine Nd.mk ⟨hoa, by omega, by omega⟩ ?_
              (first | refine wX ?_ | exact wZ)
              refine LdN.fld (.string (bs tt)) rfl (fun w hw => hw.2.1) (by rw [Int.toNat_natCast]; exact toksC_get l _ 1 (by decide) ht) ?_
              (first | refine wX ?_ | exact wZ)
              -- it is upper; sym: whether a dot is ahead
              -- 2: the kind
              rw [hwW, show wordsK s p l = (2, q) by rw [hK2]; simp [hsm, hd, *]]
              (first | refine wX ?_ | exact wZ)
              refine callG (add_c xb s q line l ob cap here sp 2 W line (by omega) hob) [0, 1] rfl ⟨rfl, rfl, trivial⟩ rfl fun ⟨b1, c1⟩ _ => ?_
              (first | refine wX ?_ | exact wZ)
              exact ⟨(b1, c1), trivial, rfl, wkE_refl _, wkE_refl _, wkE_refl _, wkH_nil _⟩
        · have hd : lastDot l = false := by rw [hdt]; simp [e7]
          -- it is upper; false: whether a dot is ahead
          -- 2: the kind
          rw [hwW, show wordsK s p l = (2, q) by rw [hK2]; simp [hsm, hd, *]]
          (first | refine wX ?_ | exact wZ)
          refine callG (add_c xb s q line l ob cap here sp 2 W line (by omega) hob) [0, 1] rfl ⟨rfl, rfl, trivial⟩ rfl fun ⟨b1, c1⟩ _ => ?_
          (first | refine wX ?_ | exact wZ)
          exact ⟨(b1, c1), trivial, rfl, wkE_refl _, wkE_refl _, wkE_refl _, wkH_nil _⟩
end Go.Proofs.YteejemdibfbccaaDoor

/-
  Contract: signs (program).
-/
namespace Go.Proofs.YteejemdibfbccaaDoor
open Go.AX Go.RowKit Go.Scan
set_option maxRecDepth 20000

theorem Fields_c (s : List UInt8) (hs : s.length < 4294967281) (ha : ∀ c ∈ s, c.toNat < 128) : SpecF Tryd.prog 53 [.string (bs s)] ScanF fun v G => ∃ b, v = .slice (some ⟨b, 0, none⟩) (Lib.fields s).length (Lib.fields s).length ∧ ∀ w, G w → SlAt (some ⟨b, 0, none⟩) (Lib.fields s).length ((Lib.fields s).map fun l => Value.string (bs l)) w :=
  specF_new (T := 9) (callOk Tryd.func53 (by kernel_rfl) rfl) (by simp) fun w hw => (Tryd.strings_Fields (bs s) w (by rw [bs_size]; exact hs) (fun j b hj => ha b (List.mem_of_getElem? hj)) hw.2).mono fun e w' ⟨he, hw'⟩ => ⟨he, hw'⟩
def bestF (rest : List UInt8) (b f : List UInt8) : List UInt8 := if f.isPrefixOf rest && decide (b.length < f.length) then f else b
def bestS (rest : List UInt8) (fs : List (List UInt8)) : List UInt8 := fs.foldl (bestF rest) []
theorem bestS_snoc (rest : List UInt8) (fs : List (List UInt8)) (f : List UInt8) : bestS rest (fs ++ [f]) = bestF rest (bestS rest fs) f := by simp [bestS]

set_option maxHeartbeats 2000000 in
theorem signs_c (xb : Nat) (s : List UInt8) (p line : Nat) (l : List Tok) (ob : Option Nat) (cap here : Nat) (sp : Bool) (best : List UInt8) (hbest : bestS (s.drop p) (Lib.fields sgs) = best) (hne : best ≠ []) (hl : l.length ≤ 900000) (hob : ob = none → l = []) (hs : s.length ≤ 1000000) (hp : p ≤ s.length) (hbl : best.length ≤ 1000) :
    SpecH Tryd.prog 49 [.c (.v (.pointer (some ⟨xb, 0, none⟩)))] [scE xb s p line ob l.length cap here sp, toE l ob cap, .fact ScanF]
      (RetG (ι := Nat × Nat) (fun _ => True) (fun _ => .tuple #[]) fun ⟨b, c⟩ => [scE xb s (p + best.length) line (some b) (l.length + 1) c here false, toE (l ++ [⟨7, best, sp, line, none, 0, 0⟩]) (some b) c, .fact ScanF]) := by
  refine ownC hm Tryd.func49 (by kernel_rfl) rfl rfl (fun _ _ => okHB_eq rfl) (fun _ _ => Nat.le_refl _) ?_
  have hz := bs_size s
  (first | refine wX ?_ | exact wZ)
  refine SpecF.call (Fields_c sgs (by decide) (by decide +kernel)) (fun w hw => hw.1) fun v G hR => ?_
  obtain ⟨fb, rfl, hG⟩ := hR
  have hfn : (Lib.fields sgs).length ≤ 100 := by decide +kernel
  generalize Lib.fields sgs = fs at *
  (first | refine wX ?_ | exact wZ)
  refine loopS Nat (fun i => i ≤ fs.length) (fun i => mkS Tryd.f49.ntmps 0 [(0, .c (.v (.pointer (some ⟨xb, 0, none⟩)))), (2, .c (.v (.string (bs (bestS (s.drop p) (fs.take i)))))), (5, .c (.v (.slice (some ⟨fb, 0, none⟩) fs.length fs.length))), (6, .c (.v (.int .i64 (fs.length : Int)))), (7, .c (.v (.int .i64 (i : Int))))]) (fun i => fs.length - i) rfl (fun _ => rfl) 0 (Nat.zero_le _) ?_ ?_
  · (repeat' (first | exact trivial | refine And.intro (by with_reducible rfl) ?_ | (with_reducible exact wkC_refl _) | (with_reducible exact wkCs_refl _) | refine And.intro ?_ ?_))
    all_goals rfl
  intro i hi
  (first | refine wX ?_ | exact wZ)
  refine brd_dec (fun h1 => ?_) (fun h1 => ?_)
  · obtain ⟨f, hf⟩ : ∃ f, fs[i]? = some f := ⟨_, List.getElem?_eq_getElem (by omega)⟩
    (first | refine wX ?_ | exact wZ)
    try refine Nd.mk ⟨rfl, by omega, by omega⟩ ?_
    (first | refine wX ?_ | exact wZ)
    refine LdN.one (.string (bs f)) rfl (fun w hw => hG w hw.2.2.2.1) (by show (fs.map _)[Int.toNat _ * 1]? = _; rw [Int.toNat_natCast, Nat.mul_one, List.getElem?_map, hf]; rfl) ?_
    (first | refine wX ?_ | exact wZ)
    have hsn : bestS (s.drop p) (fs.take (i + 1)) = bestF (s.drop p) (bestS (s.drop p) (fs.take i)) f := by rw [List.take_add_one, hf]; exact bestS_snoc _ _ _
    have hbz := bs_size (bestS (s.drop p) (fs.take i))
    have hfz := bs_size f
    generalize bestS (s.drop p) (fs.take i) = bst at *
    refine LdN.one (a := some ⟨xb, 0, none⟩) (q := 0) (.string (bs s)) rfl (fun w hw => hw.1) rfl ?_
    (first | refine wX ?_ | exact wZ)
    refine LdN.one (a := some ⟨xb, 0, none⟩) (q := 1) (.int .i64 ((p : Nat) : Int)) rfl (fun w hw => hw.1) rfl ?_
    (first | refine wX ?_ | exact wZ)
    refine ReadW.sl_l p rfl Tryd.underlying9 rfl rfl ⟨rfl, hp⟩ ?_
    (first | refine wX ?_ | exact wZ)
    refine callQ (HasPrefix_c (s.drop p) f _) ?_
    cases hpf : f.isPrefixOf (s.drop p) with
    | false =>
      have hs2 : bestF (s.drop p) bst f = bst := by unfold bestF; rw [hpf]; rfl
      (first | refine wX ?_ | exact wZ)
      refine ⟨i + 1, by omega, by omega, ?_, by (repeat' (first | exact trivial | exact wkE_refl _ | refine And.intro ?_ ?_))⟩
      rw [hsn, hs2]
      (repeat' (first | exact trivial | refine And.intro (by with_reducible rfl) ?_ | (with_reducible exact wkC_refl _) | (with_reducible exact wkCs_refl _) | refine And.intro ?_ ?_))
      all_goals first | rfl | exact av_int (by rw [wrap_i64 (by omega)]; omega)
    | true =>
      (first | refine wX ?_ | exact wZ)
      rw [hbz, hfz]
      refine brd_dec (fun h2 => ?_) (fun h2 => ?_)
      · have hs2 : bestF (s.drop p) bst f = f := by unfold bestF; rw [hpf, decide_eq_true (by omega)]; rfl
        (first | refine wX ?_ | exact wZ)
        refine ⟨i + 1, by omega, by omega, ?_, by (repeat' (first | exact trivial | exact wkE_refl _ | refine And.intro ?_ ?_))⟩
        rw [hsn, hs2]
        (repeat' (first | exact trivial | refine And.intro (by with_reducible rfl) ?_ | (with_reducible exact wkC_refl _) | (with_reducible exact wkCs_refl _) | refine And.intro ?_ ?_))
        all_goals first | rfl | exact av_int (by rw [wrap_i64 (by omega)]; omega)
      · have hs2 : bestF (s.drop p) bst f = bst := by unfold bestF; rw [hpf, decide_eq_false (by omega)]; rfl
        (first | refine wX ?_ | exact wZ)
        refine ⟨i + 1, by omega, by omega, ?_, by (repeat' (first | exact trivial | exact wkE_refl _ | refine And.intro ?_ ?_))⟩
        rw [hsn, hs2]
        (repeat' (first | exact trivial | refine And.intro (by with_reducible rfl) ?_ | (with_reducible exact wkC_refl _) | (with_reducible exact wkCs_refl _) | refine And.intro ?_ ?_))
        all_goals first | rfl | exact av_int (by rw [wrap_i64 (by omega)]; omega)
  · have hie : i = fs.length := by omega
    subst hie
    rw [List.take_length, hbest]
    have hbz := bs_size best
    obtain ⟨c0, r0, hcr⟩ : ∃ c0 r0, best = c0 :: r0 := by
      cases best with
      | nil => exact absurd rfl hne
      | cons c r => exact ⟨c, r, rfl⟩
    subst hcr
    (first | refine wX ?_ | exact wZ)
    refine LdN.one (a := some ⟨xb, 0, none⟩) (q := 1) (.int .i64 ((p : Nat) : Int)) rfl (fun w hw => hw.1) rfl ?_
    (first | refine wX ?_ | exact wZ)
    refine EffW.appTo (i := 0) (q := 1) (ys := [_]) (scC s (p + (c0 :: r0).length) line ob l.length cap here sp) 6 rfl rfl rfl rfl rfl rfl rfl (Nat.le_of_ble_eq_true rfl) (by
      show [_, Value.int .i64 _, _, _, _, _] = [_, Value.int .i64 _, _, _, _, _]
      rw [hbz, wrap_i64 (by omega)]
      rfl) rfl ?_
    (first | refine wX ?_ | exact wZ)
    refine LdN.one (a := some ⟨xb, 0, none⟩) (q := 2) (.int .i64 ((line : Nat) : Int)) rfl (fun w hw => hw.1) rfl ?_
    (first | refine wX ?_ | exact wZ)
    refine callG (add_c xb s (p + (c0 :: r0).length) line l ob cap here sp 7 (c0 :: r0) line (by omega) hob) [0, 1] rfl ⟨rfl, rfl, trivial⟩ rfl fun ⟨b1, c1⟩ _ => ?_
    (first | refine wX ?_ | exact wZ)
    exact ⟨(b1, c1), trivial, rfl, wkE_refl _, wkE_refl _, wkE_refl _, wkH_nil _⟩
end Go.Proofs.YteejemdibfbccaaDoor

/-
  Contracts: what stands at the present place: a letter, a dot, a blank (program).
-/
namespace Go.Proofs.YteejemdibfbccaaDoor
open Go.AX Go.RowKit Go.Scan
set_option maxRecDepth 20000

set_option maxHeartbeats 1000000 in
theorem next_letter (xb : Nat) (s : List UInt8) (p line : Nat) (l : List Tok) (ob : Option Nat) (cap here : Nat) (sp : Bool) {c : UInt8} (hc : s[p]? = some c) (hlt : ltr c = true) (hl : l.length ≤ 900000) (hob : ob = none → l = []) (hs : s.length ≤ 1000000) :
    SpecH Tryd.prog 24 [.c (.v (.pointer (some ⟨xb, 0, none⟩)))] [scE xb s p line ob l.length cap here sp, toE l ob cap, .fact ScanF]
      (RetG (ι := Nat × Nat) (fun _ => True) (fun _ => .tuple #[]) fun ⟨b, c⟩ => [scE xb s (wordsK s p l).2 line (some b) (l.length + 1) c here false, toE (l ++ [⟨(wordsK s p l).1, wordW s p, sp, line, none, 0, 0⟩]) (some b) c, .fact ScanF]) := by
  have hbl : blk c = false := by
    simp [ltr, sml, grt] at hlt
    simp [blk]
    omega
  have hn : 65 ≤ c.toNat := by
    simp [ltr, sml, grt] at hlt
    omega
  refine ownC hm Tryd.func24 (by kernel_rfl) rfl rfl (fun _ _ => okHB_eq rfl) (fun _ _ => Nat.le_refl _) ?_
  have hz := bs_size s
  have hp : p < s.length := (List.getElem?_eq_some_iff.1 hc).1
  (first | refine wX ?_ | exact wZ)
  refine LdN.one (a := some ⟨xb, 0, none⟩) (q := 0) (.string (bs s)) rfl (fun w hw => hw.1) rfl ?_
  (first | refine wX ?_ | exact wZ)
  refine LdN.one (a := some ⟨xb, 0, none⟩) (q := 1) (.int .i64 ((p : Nat) : Int)) rfl (fun w hw => hw.1) rfl ?_
  (first | refine wX ?_ | exact wZ)
  rw [Int.toNat_natCast, byteAt_get hc]
  (first | refine wX ?_ | exact wZ)
  refine call1 (blk_c c _) ?_
  rw [hbl]
  (first | refine wX ?_ | exact wZ)
  refine brd_eq (fun h => absurd h (by omega)) (fun _ => ?_)
  (first | refine wX ?_ | exact wZ)
  refine brd_eq (fun h => absurd h (by omega)) (fun _ => ?_)
  (first | refine wX ?_ | exact wZ)
  refine brd_eq (fun h => absurd h (by omega)) (fun _ => ?_)
  (first | refine wX ?_ | exact wZ)
  refine call1 (ltr_c c _) ?_
  rw [hlt]
  (first | refine wX ?_ | exact wZ)
  refine callG (words_c xb s p line l ob cap here sp hl hob hs hp) [0, 1, 2] rfl ⟨rfl, rfl, rfl, trivial⟩ rfl fun ⟨b1, c1⟩ _ => ?_
  (first | refine wX ?_ | exact wZ)
  exact ⟨(b1, c1), trivial, rfl, wkE_refl _, wkE_refl _, wkE_refl _, wkH_nil _⟩
theorem next_blank (xb : Nat) (s : List UInt8) (p line : Nat) (ob : Option Nat) (n cap here : Nat) (sp : Bool) {c : UInt8} (hc : s[p]? = some c) (hbl : blk c = true) (hs : s.length ≤ 1000000) :
    SpecH Tryd.prog 24 [.c (.v (.pointer (some ⟨xb, 0, none⟩)))] [scE xb s p line ob n cap here sp]
      (RetG (ι := Unit) (fun _ => True) (fun _ => .tuple #[]) fun _ => [scE xb s (p + 1) line ob n cap here true]) := by
  refine ownC hm Tryd.func24 (by kernel_rfl) rfl rfl (fun _ _ => okHB_eq rfl) (fun _ _ => Nat.le_refl _) ?_
  have hz := bs_size s
  have hp : p < s.length := (List.getElem?_eq_some_iff.1 hc).1
  (first | refine wX ?_ | exact wZ)
  refine LdN.one (a := some ⟨xb, 0, none⟩) (q := 0) (.string (bs s)) rfl (fun w hw => hw.1) rfl ?_
  (first | refine wX ?_ | exact wZ)
  refine LdN.one (a := some ⟨xb, 0, none⟩) (q := 1) (.int .i64 ((p : Nat) : Int)) rfl (fun w hw => hw.1) rfl ?_
  (first | refine wX ?_ | exact wZ)
  rw [Int.toNat_natCast, byteAt_get hc]
  (first | refine wX ?_ | exact wZ)
  refine call1 (blk_c c _) ?_
  rw [hbl]
  (first | refine wX ?_ | exact wZ)
  refine LdN.one (a := some ⟨xb, 0, none⟩) (q := 1) (.int .i64 ((p : Nat) : Int)) rfl (fun w hw => hw.1) rfl ?_
  (first | refine wX ?_ | exact wZ)
  refine EffW.appTo (i := 0) (q := 1) (ys := [_]) (scC s (p + 1) line ob n cap here sp) 6 rfl rfl rfl rfl rfl rfl rfl (Nat.le_of_ble_eq_true rfl) (by
    show [_, Value.int .i64 _, _, _, _, _] = [_, Value.int .i64 _, _, _, _, _]
    rw [wrap_i64 (by omega)]
    rfl) rfl ?_
  (first | refine wX ?_ | exact wZ)
  refine EffW.appTo (i := 0) (q := 5) (ys := [_]) (scC s (p + 1) line ob n cap here true) 6 rfl rfl rfl rfl rfl rfl rfl (Nat.le_of_ble_eq_true rfl) rfl rfl ?_
  (first | refine wX ?_ | exact wZ)
  exact ⟨(), trivial, rfl, wkE_refl _, wkH_nil _⟩
theorem next_dot (xb : Nat) (s : List UInt8) (p line : Nat) (l : List Tok) (ob : Option Nat) (cap here : Nat) (sp : Bool) (hc : s[p]? = some 46) (best : List UInt8) (hbest : bestS (s.drop p) (Lib.fields sgs) = best) (hne : best ≠ []) (hl : l.length ≤ 900000) (hob : ob = none → l = []) (hs : s.length ≤ 1000000) (hbl : best.length ≤ 1000) :
    SpecH Tryd.prog 24 [.c (.v (.pointer (some ⟨xb, 0, none⟩)))] [scE xb s p line ob l.length cap here sp, toE l ob cap, .fact ScanF]
      (RetG (ι := Nat × Nat) (fun _ => True) (fun _ => .tuple #[]) fun ⟨b, c⟩ => [scE xb s (p + best.length) line (some b) (l.length + 1) c here false, toE (l ++ [⟨7, best, sp, line, none, 0, 0⟩]) (some b) c, .fact ScanF]) := by
  refine ownC hm Tryd.func24 (by kernel_rfl) rfl rfl (fun _ _ => okHB_eq rfl) (fun _ _ => Nat.le_refl _) ?_
  have hz := bs_size s
  have hp : p < s.length := (List.getElem?_eq_some_iff.1 hc).1
  (first | refine wX ?_ | exact wZ)
  refine LdN.one (a := some ⟨xb, 0, none⟩) (q := 0) (.string (bs s)) rfl (fun w hw => hw.1) rfl ?_
  (first | refine wX ?_ | exact wZ)
  refine LdN.one (a := some ⟨xb, 0, none⟩) (q := 1) (.int .i64 ((p : Nat) : Int)) rfl (fun w hw => hw.1) rfl ?_
  (first | refine wX ?_ | exact wZ)
  rw [Int.toNat_natCast, byteAt_get hc]
  (first | refine wX ?_ | exact wZ)
  refine call1 (blk_c 46 _) ?_
  (first | refine wX ?_ | exact wZ)
  refine call1 (ltr_c 46 _) ?_
  (first | refine wX ?_ | exact wZ)
  refine call1 (dig_c 46 _) ?_
  (first | refine wX ?_ | exact wZ)
  refine callG (signs_c xb s p line l ob cap here sp best hbest hne hl hob hs (by omega) hbl) [0, 1, 2] rfl ⟨rfl, rfl, rfl, trivial⟩ rfl fun ⟨b1, c1⟩ _ => ?_
  (first | refine wX ?_ | exact wZ)
  exact ⟨(b1, c1), trivial, rfl, wkE_refl _, wkE_refl _, wkE_refl _, wkH_nil _⟩
end Go.Proofs.YteejemdibfbccaaDoor

/-
  Contract: Scan of the chapter's example (program).
-/
namespace Go.Proofs.YteejemdibfbccaaDoor
open Go.AX Go.RowKit Go.Scan
set_option maxRecDepth 20000

/-- a.b c? -/
def exS : List UInt8 := [97, 46, 98, 32, 99, 63]
def exT : List Tok := [⟨1, [97], false, 1, none, 0, 0⟩, ⟨7, [46], false, 1, none, 0, 0⟩, ⟨1, [98], false, 1, none, 0, 0⟩, ⟨1, [99, 63], true, 1, none, 0, 0⟩]
def ExR (v : Value) (G : World → Prop) : Prop := ∃ (b cap : Nat), v = .tuple #[.slice (some ⟨b, 0, none⟩) 4 cap, .int .i64 0, .int .i64 0] ∧ ∀ w, G w → SlAt (some ⟨b, 0, none⟩) 20 (toksC exT) w
def capsOf (t : Array Value) : Array Value := #[t[2]?.getD undef, t[3]?.getD undef, t[4]?.getD undef]
theorem hD_c (id T1 : Nat) (p1 p2 : String) (g1 g2 : _) (t : Array Value) (w : World) (Q : Exit → Act → World → Prop) (ht : 12 < t.size) (h : Q .normal { tmps := t.setIfInBounds 12 (.func (.func 23) #[] (capsOf t)), defers := [⟨.fn (.func 23) (capsOf t), #[]⟩] } w) :
    (Code.region id #[{ dst := some 12, op := .makeFunc (.func 23) #[] #[.tmp 2, .tmp 3, .tmp 4], type := T1, pos := p1, after := g1, guard := none }, { dst := none, op := .defer { callee := .value (.tmp 12), args := #[], argTypes := #[] }, type := 0, pos := p2, after := g2, guard := none }] false).wp Tryd.prog Q { tmps := t, defers := [] } w := by
  refine wp_region_list ?_
  simp [wpList, go_sem, ht]
  exact .inl (.inl h)
def posJ : Nat → Nat | 0 => 0 | 1 => 1 | 2 => 2 | 3 => 3 | 4 => 4 | _ => 6
def tokJ : Nat → List Tok | 0 => [] | 1 => exT.take 1 | 2 => exT.take 2 | 3 => exT.take 3 | 4 => exT.take 3 | _ => exT
def spJ : Nat → Bool | 4 => true | _ => false
theorem ScanEx_c : SpecF Tryd.prog 11 [.string (bs exS)] ScanF ExR := by
  refine specF_of (spec_of_defer (g := 23) (d := 12) (cp := capsOf) hm Tryd.func11 (by kernel_rfl) rfl (fun t w Q ht h => hD_c _ _ _ _ _ _ t w Q ht h) (fun t w => by simp [go_sem, capsOf]) (fun t w => quiet_c _ _ _ w) rfl ?_)
  (conv => whnf)
  refine BoxN.own ?_
  (conv => whnf)
  refine BoxN.own ?_
  (conv => whnf)
  refine BoxN.own ?_
  ((conv => whnf); (repeat ((first | refine RwN.own ?_ | refine VrN.norm (wrap_i64 (by omega)) ?_ | refine VrN.keep ?_ | refine DrawN.calm (by decide +kernel) ?_ | refine Nd.mk (by decide +kernel) ?_ | refine Nd.mk (by omega) ?_ | (refine Nd.mk ?_ ?_; focus ((repeat' (first | exact trivial | exact wkE_refl _ | refine And.intro ?_ ?_)); done)) | refine RdN.intro _ rfl (by rfl) ?_); (conv => whnf))))
  refine BoxN.known [.string (bs exS), .int .i64 0, .int .i64 1, .slice none 0 0, .int .i64 0, .bool false] rfl fun xb => ?_
  (first | refine wX ?_ | exact wZ)
  refine ⟨rfl, ?_⟩
  (first | refine wX ?_ | exact wZ)
  refine LoopN.intro (Nat × Option Nat × Nat) (fun ⟨j, ob, cap⟩ => j ≤ 5 ∧ (ob = none → j = 0)) (fun ⟨_, _, _⟩ => mkS Tryd.f11.ntmps 0 [(2, .c (.lp 1 0)), (3, .c (.lp 2 0)), (4, .c (.lp 3 0)), (5, .c (.v (.pointer (some ⟨xb, 0, none⟩))))])
    (fun ⟨j, ob, cap⟩ => [.fact ScanF, .blk 24 (cellsV (.slice none 0 0)), .blk 3 (cellsV (.int .i64 0)), .blk 25 (cellsV (.int .i64 0)), scE xb exS (posJ j) 1 ob (tokJ j).length cap 0 (spJ j), toE (tokJ j) ob cap]) (fun ⟨j, _, _⟩ => 5 - j) [.app 0 0 [] none 0 0] rfl (fun _ => rfl) (fun _ => rfl) (fun _ _ => okHB_eq rfl) ⟨(0, none, 0), ⟨Nat.zero_le _, fun _ => rfl⟩, ?_, ⟨wkE_refl _, wkE_refl _, wkE_refl _, wkE_refl _, wkE_refl _, wkE_nil, wkH_nil _⟩⟩ ?_
  · (repeat' (first | exact trivial | refine And.intro (by with_reducible rfl) ?_ | (with_reducible exact wkC_refl _) | (with_reducible exact wkCs_refl _) | refine And.intro ?_ ?_))
    all_goals rfl
  rintro ⟨j, ob, cap⟩ ⟨hj, hob⟩
  have hall : j = 0 ∨ j = 1 ∨ j = 2 ∨ j = 3 ∨ j = 4 ∨ j = 5 := by omega
  rcases hall with rfl | rfl | rfl | rfl | rfl | rfl
  · (first | refine wX ?_ | exact wZ)
    refine LdN.one (a := some ⟨xb, 0, none⟩) (q := 1) (.int .i64 ((posJ 0 : Nat) : Int)) rfl (fun w hw => hw.2.1) rfl ?_
    (first | refine wX ?_ | exact wZ)
    refine LdN.one (a := some ⟨xb, 0, none⟩) (q := 0) (.string (bs exS)) rfl (fun w hw => hw.2.1) rfl ?_
    (first | refine wX ?_ | exact wZ)
    refine callG (next_letter xb exS 0 1 [] ob cap 0 false (c := 97) rfl (by decide) (by decide) (fun _ => rfl) (by decide)) [4, 5, 0] rfl ⟨rfl, rfl, rfl, trivial⟩ rfl fun ⟨b1, c1⟩ _ => ?_
    rw [show wordsK exS 0 [] = (1, 1) by decide +kernel, show wordW exS 0 = [97] by decide +kernel]
    (first | refine wX ?_ | exact wZ)
    refine ⟨(1, some b1, c1), ⟨by omega, fun h => by cases h⟩, Nat.le_of_ble_eq_true rfl, ?_, ⟨wkE_refl _, wkE_refl _, wkE_refl _, wkE_refl _, wkE_refl _, wkE_refl _, wkH_nil _⟩⟩
    (repeat' (first | exact trivial | refine And.intro (by with_reducible rfl) ?_ | (with_reducible exact wkC_refl _) | (with_reducible exact wkCs_refl _) | refine And.intro ?_ ?_))
    all_goals rfl
  · (first | refine wX ?_ | exact wZ)
    refine LdN.one (a := some ⟨xb, 0, none⟩) (q := 1) (.int .i64 ((posJ 1 : Nat) : Int)) rfl (fun w hw => hw.2.1) rfl ?_
    (first | refine wX ?_ | exact wZ)
    refine LdN.one (a := some ⟨xb, 0, none⟩) (q := 0) (.string (bs exS)) rfl (fun w hw => hw.2.1) rfl ?_
    (first | refine wX ?_ | exact wZ)
    refine callG (next_dot xb exS 1 1 (tokJ 1) ob cap 0 false rfl [46] (by decide +kernel) (by decide) (by decide) (fun h => absurd (hob h) (by decide)) (by decide) (by decide)) [4, 5, 0] rfl ⟨rfl, rfl, rfl, trivial⟩ rfl fun ⟨b1, c1⟩ _ => ?_
    (first | refine wX ?_ | exact wZ)
    refine ⟨(2, some b1, c1), ⟨by omega, fun h => by cases h⟩, Nat.le_of_ble_eq_true rfl, ?_, ⟨wkE_refl _, wkE_refl _, wkE_refl _, wkE_refl _, wkE_refl _, wkE_refl _, wkH_nil _⟩⟩
    (repeat' (first | exact trivial | refine And.intro (by with_reducible rfl) ?_ | (with_reducible exact wkC_refl _) | (with_reducible exact wkCs_refl _) | refine And.intro ?_ ?_))
    all_goals rfl
  · (first | refine wX ?_ | exact wZ)
    refine LdN.one (a := some ⟨xb, 0, none⟩) (q := 1) (.int .i64 ((posJ 2 : Nat) : Int)) rfl (fun w hw => hw.2.1) rfl ?_
    (first | refine wX ?_ | exact wZ)
    refine LdN.one (a := some ⟨xb, 0, none⟩) (q := 0) (.string (bs exS)) rfl (fun w hw => hw.2.1) rfl ?_
    (first | refine wX ?_ | exact wZ)
    refine callG (next_letter xb exS 2 1 (tokJ 2) ob cap 0 false (c := 98) rfl (by decide) (by decide) (fun h => absurd (hob h) (by decide)) (by decide)) [4, 5, 0] rfl ⟨rfl, rfl, rfl, trivial⟩ rfl fun ⟨b1, c1⟩ _ => ?_
    rw [show wordsK exS 2 (tokJ 2) = (1, 3) by decide +kernel, show wordW exS 2 = [98] by decide +kernel]
    (first | refine wX ?_ | exact wZ)
    refine ⟨(3, some b1, c1), ⟨by omega, fun h => by cases h⟩, Nat.le_of_ble_eq_true rfl, ?_, ⟨wkE_refl _, wkE_refl _, wkE_refl _, wkE_refl _, wkE_refl _, wkE_refl _, wkH_nil _⟩⟩
    (repeat' (first | exact trivial | refine And.intro (by with_reducible rfl) ?_ | (with_reducible exact wkC_refl _) | (with_reducible exact wkCs_refl _) | refine And.intro ?_ ?_))
    all_goals rfl
  · (first | refine wX ?_ | exact wZ)
    refine LdN.one (a := some ⟨xb, 0, none⟩) (q := 1) (.int .i64 ((posJ 3 : Nat) : Int)) rfl (fun w hw => hw.2.1) rfl ?_
    (first | refine wX ?_ | exact wZ)
    refine LdN.one (a := some ⟨xb, 0, none⟩) (q := 0) (.string (bs exS)) rfl (fun w hw => hw.2.1) rfl ?_
    (first | refine wX ?_ | exact wZ)
    refine callG (next_blank xb exS 3 1 ob 3 cap 0 false (c := 32) rfl (by decide) (by decide)) [4] rfl ⟨rfl, trivial⟩ rfl fun _ _ => ?_
    (first | refine wX ?_ | exact wZ)
    refine ⟨(4, ob, cap), ⟨by omega, fun h => absurd (hob h) (by decide)⟩, Nat.le_of_ble_eq_true rfl, ?_, ⟨wkE_refl _, wkE_refl _, wkE_refl _, wkE_refl _, wkE_refl _, wkE_refl _, wkH_nil _⟩⟩
    (repeat' (first | exact trivial | refine And.intro (by with_reducible rfl) ?_ | (with_reducible exact wkC_refl _) | (with_reducible exact wkCs_refl _) | refine And.intro ?_ ?_))
    all_goals rfl
  · (first | refine wX ?_ | exact wZ)
    refine LdN.one (a := some ⟨xb, 0, none⟩) (q := 1) (.int .i64 ((posJ 4 : Nat) : Int)) rfl (fun w hw => hw.2.1) rfl ?_
    (first | refine wX ?_ | exact wZ)
    refine LdN.one (a := some ⟨xb, 0, none⟩) (q := 0) (.string (bs exS)) rfl (fun w hw => hw.2.1) rfl ?_
    (first | refine wX ?_ | exact wZ)
    refine callG (next_letter xb exS 4 1 (tokJ 4) ob cap 0 true (c := 99) rfl (by decide) (by decide) (fun h => absurd (hob h) (by decide)) (by decide)) [4, 5, 0] rfl ⟨rfl, rfl, rfl, trivial⟩ rfl fun ⟨b1, c1⟩ _ => ?_
    rw [show wordsK exS 4 (tokJ 4) = (1, 6) by decide +kernel, show wordW exS 4 = [99, 63] by decide +kernel]
    (first | refine wX ?_ | exact wZ)
    refine ⟨(5, some b1, c1), ⟨by omega, fun h => by cases h⟩, Nat.le_of_ble_eq_true rfl, ?_, ⟨wkE_refl _, wkE_refl _, wkE_refl _, wkE_refl _, wkE_refl _, wkE_refl _, wkH_nil _⟩⟩
    (repeat' (first | exact trivial | refine And.intro (by with_reducible rfl) ?_ | (with_reducible exact wkC_refl _) | (with_reducible exact wkCs_refl _) | refine And.intro ?_ ?_))
    all_goals rfl
  · obtain ⟨g, rfl⟩ : ∃ g, ob = some g := by
      cases ob with
      | none => exact absurd (hob rfl) (by decide)
      | some g => exact ⟨g, rfl⟩
    (first | refine wX ?_ | exact wZ)
    refine LdN.one (a := some ⟨xb, 0, none⟩) (q := 1) (.int .i64 ((posJ 5 : Nat) : Int)) rfl (fun w hw => hw.2.1) rfl ?_
    (first | refine wX ?_ | exact wZ)
    refine LdN.one (a := some ⟨xb, 0, none⟩) (q := 0) (.string (bs exS)) rfl (fun w hw => hw.2.1) rfl ?_
    (first | refine wX ?_ | exact wZ)
    refine loopS Unit (fun _ => True) (fun _ => mkS Tryd.f11.ntmps 0 [(2, .c (.lp 1 0)), (3, .c (.lp 2 0)), (4, .c (.lp 3 0)), (5, .c (.v (.pointer (some ⟨xb, 0, none⟩))))]) (fun _ => 0) rfl (fun _ => rfl) () trivial ?_ ?_
    · (repeat' (first | exact trivial | refine And.intro (by with_reducible rfl) ?_ | (with_reducible exact wkC_refl _) | (with_reducible exact wkCs_refl _) | refine And.intro ?_ ?_))
      all_goals rfl
    intro _ _
    (first | refine wX ?_ | exact wZ)
    refine LdN.one (a := some ⟨xb, 0, none⟩) (q := 3) (.slice (some ⟨g, 0, none⟩) 4 cap) rfl (fun w hw => hw.2.1) rfl ?_
    (first | refine wX ?_ | exact wZ)
    (first | refine wX ?_ | exact wZ)
    refine LdN.one (a := some ⟨xb, 0, none⟩) (q := 3) (.slice (some ⟨g, 0, none⟩) 4 cap) rfl (fun w hw => hw.2.1) rfl ?_
    (first | refine wX ?_ | exact wZ)
    (first | refine wX ?_ | exact wZ)
    refine LdN.one (a := some ⟨xb, 0, none⟩) (q := 3) (.slice (some ⟨g, 0, none⟩) 4 cap) rfl (fun w hw => hw.2.1) rfl ?_
    (first | refine wX ?_ | exact wZ)
    rw [show IntKind.i64.wrap (((4 : Nat) : Int) - 1) = ((3 : Nat) : Int) by decide]
    refine Nd.mk ⟨rfl, by decide, by decide⟩ ?_
    (first | refine wX ?_ | exact wZ)
    refine LdN.fld (.int .i64 1) rfl (fun w hw => hw.2.2.1) (by rfl) ?_
    (first | refine wX ?_ | exact wZ)
    (first | refine wX ?_ | exact wZ)
    refine LdN.one (a := some ⟨xb, 0, none⟩) (q := 3) (.slice (some ⟨g, 0, none⟩) 4 cap) rfl (fun w hw => hw.2.1) rfl ?_
    (first | refine wX ?_ | exact wZ)
    refine fin_p (fun w => SlAt (some ⟨g, 0, none⟩) 20 (toksC exT) w) ⟨g, cap, rfl, fun w hw => hw⟩ (fun w hw => hw.2.2.1)
end Go.Proofs.YteejemdibfbccaaDoor

/-
  Contracts: the chapter's example (law); lists that have a text; Starts (program, document).
-/
namespace Go.Proofs.YteejemdibfbccaaDoor
open Go.AX Go.RowKit Go.Scan
set_option maxRecDepth 20000

theorem sane_c : ∀ H, (∀ w, Facts H w → ScanF w) → SpecH Tryd.prog 12 (pvs []) H (Ret (.bool true) H) := by
  refine factC hm Tryd.func12 (by kernel_rfl) rfl rfl ?_
  (first | refine wX ?_ | exact wZ)
  refine SpecF.call ScanEx_c (fun w hw => hw.1) fun v G hR => ?_
  obtain ⟨b, cap, rfl, hG⟩ := hR
  (first | refine wX ?_ | exact wZ)
  refine Nd.mk ⟨rfl, by decide, by decide⟩ ?_
  (first | refine wX ?_ | exact wZ)
  refine LdN.fld (.string (bs [99, 63])) rfl (fun w hw => hG w hw.2.1) (by rfl) ?_
  (first | refine wX ?_ | exact wZ)
  refine Nd.mk ⟨rfl, by decide, by decide⟩ ?_
  (first | refine wX ?_ | exact wZ)
  refine LdN.fld (.bool true) rfl (fun w hw => hG w hw.2.1) (by rfl) ?_
  (first | refine wX ?_ | exact wZ)
end Go.Proofs.YteejemdibfbccaaDoor

/-
  What the rows list, and what it gives; a token as it is read (argument).
-/
namespace Go.Proofs.YteejemdibfbccaaDoor
open Go.ChangeShapes Go.WideShapes Go.ChangeAt Go.RowKit Go.AX
set_option maxRecDepth 100000

/-- What the rows list. -/
def laid3 : List (String × DataW Unit) := [("unicode/utf8.acceptRanges", Rows.laid_unicode_utf8_acceptRanges), ("unicode.White_Space", Rows.laid_unicode_White_Space), ("strings.asciiSpace", Rows.laid_strings_asciiSpace), ("unicode/utf8.first", Rows.laid_unicode_utf8_first)]
theorem door_met (os : Os) (args : Array Value) : laidMetH Tryd.prog laid3 ((World.laidAll Tryd.prog os laid3).forCall (fun _ _ => 0) ⟨#[], args, []⟩).memory := by
  rw [MakeChecks.laidMetH_plain _ _ _ (by kernel_rfl)]; exact laidMet_laidAll _ (by kernel_rfl) (by kernel_rfl)
theorem space_of {W : World} (h : laidMetH Tryd.prog laid3 W) : Lib.TabIs Tryd.prog W "strings.asciiSpace" .u8 Lib.asciiSpaceTab := by
  rw [MakeChecks.laidMetH_plain _ _ _ (by kernel_rfl)] at h
  exact Lib.tabIs_of_head (g := 0) (t := 78) (e := 5) (n := 256) (by kernel_rfl) (by kernel_rfl) (by kernel_rfl) (by kernel_rfl) (by kernel_rfl) (by kernel_rfl) (laid_tail (laid_tail h))
theorem scan_of {W : World} (h : W.ShapedOpen Tryd.prog) (hL : laidMetH Tryd.prog laid3 W) : ScanF W := ⟨max_of h, space_of hL⟩
theorem scan_imm {W : World} (h : ScanF W) : Imm (fun b => b < W.heap.size) W ScanF := (max_imm h.1).and (tab_imm h.2)
theorem known_scan {W : World} (h : W.ShapedOpen Tryd.prog) (hL : laidMetH Tryd.prog laid3 W) : ∀ e ∈ [Ent.fact ScanF], ∃ F, e = .fact F ∧ Imm (fun b => b < W.heap.size) W F := fun _ he => ⟨_, List.mem_singleton.1 he, scan_imm (scan_of h hL)⟩
end Go.Proofs.YteejemdibfbccaaDoor

/-
  Contract: Scan of a text that is one token (program).
-/
namespace Go.Proofs.YteejemdibfbccaaDoor
open Go.AX Go.RowKit Go.Scan
set_option maxRecDepth 20000

/-- One token, and no more. -/
def OneR (T : Tok) (v : Value) (G : World → Prop) : Prop := ∃ (b cap : Nat), v = .tuple #[.slice (some ⟨b, 0, none⟩) 1 cap, .int .i64 0, .int .i64 0] ∧ ∀ w, G w → SlAt (some ⟨b, 0, none⟩) 5 (toksC [T]) w
def posN (s : List UInt8) : Nat → Nat | 0 => 0 | _ => s.length
def tokN (T : Tok) : Nat → List Tok | 0 => [] | _ => [T]
/-- What next does where the text is one token. -/
def NextOne (s : List UInt8) (T : Tok) : Prop := ∀ (xb cap : Nat) (ob : Option Nat), SpecH Tryd.prog 24 [.c (.v (.pointer (some ⟨xb, 0, none⟩)))] [scE xb s 0 1 ob 0 cap 0 false, toE [] ob cap, .fact ScanF]
  (RetG (ι := Nat × Nat) (fun _ => True) (fun _ => .tuple #[]) fun ⟨b, c⟩ => [scE xb s s.length 1 (some b) 1 c 0 false, toE [T] (some b) c, .fact ScanF])
theorem ScanOne_c (s : List UInt8) (T : Tok) (h0 : 1 ≤ s.length) (hs : s.length ≤ 20000) (hk : ¬ T.kind = 0) (hn : NextOne s T) : SpecF Tryd.prog 11 [.string (bs s)] ScanF (OneR T) := by
  refine specF_of (spec_of_defer (g := 23) (d := 12) (cp := capsOf) hm Tryd.func11 (by kernel_rfl) rfl (fun t w Q ht h => hD_c _ _ _ _ _ _ t w Q ht h) (fun t w => by simp [go_sem, capsOf]) (fun t w => quiet_c _ _ _ w) rfl ?_)
  have hz := bs_size s
  (conv => whnf)
  refine BoxN.own ?_
  (conv => whnf)
  refine BoxN.own ?_
  (conv => whnf)
  refine BoxN.own ?_
  ((conv => whnf); (repeat ((first | refine RwN.own ?_ | refine VrN.norm (wrap_i64 (by omega)) ?_ | refine VrN.keep ?_ | refine DrawN.calm (by decide +kernel) ?_ | refine Nd.mk (by decide +kernel) ?_ | refine Nd.mk (by omega) ?_ | (refine Nd.mk ?_ ?_; focus ((repeat' (first | exact trivial | exact wkE_refl _ | refine And.intro ?_ ?_)); done)) | refine RdN.intro _ rfl (by rfl) ?_); (conv => whnf))))
  rw [hz]
  refine brd_dec (fun h => absurd h (by omega)) (fun _ => ?_)
  ((conv => whnf); (repeat ((first | refine RwN.own ?_ | refine VrN.norm (wrap_i64 (by omega)) ?_ | refine VrN.keep ?_ | refine DrawN.calm (by decide +kernel) ?_ | refine Nd.mk (by decide +kernel) ?_ | refine Nd.mk (by omega) ?_ | (refine Nd.mk ?_ ?_; focus ((repeat' (first | exact trivial | exact wkE_refl _ | refine And.intro ?_ ?_)); done)) | refine RdN.intro _ rfl (by rfl) ?_); (conv => whnf))))
  refine BoxN.known [.string (bs s), .int .i64 0, .int .i64 1, .slice none 0 0, .int .i64 0, .bool false] rfl fun xb => ?_
  (first | refine wX ?_ | exact wZ)
  refine ⟨rfl, ?_⟩
  (first | refine wX ?_ | exact wZ)
  refine LoopN.intro (Nat × Option Nat × Nat) (fun ⟨j, ob, cap⟩ => j ≤ 1 ∧ (ob = none → j = 0)) (fun ⟨_, _, _⟩ => mkS Tryd.f11.ntmps 0 [(2, .c (.lp 1 0)), (3, .c (.lp 2 0)), (4, .c (.lp 3 0)), (5, .c (.v (.pointer (some ⟨xb, 0, none⟩))))])
    (fun ⟨j, ob, cap⟩ => [.fact ScanF, .blk 24 (cellsV (.slice none 0 0)), .blk 3 (cellsV (.int .i64 0)), .blk 25 (cellsV (.int .i64 0)), scE xb s (posN s j) 1 ob (tokN T j).length cap 0 false, toE (tokN T j) ob cap]) (fun ⟨j, _, _⟩ => 1 - j) [.app 0 0 [] none 0 0] rfl (fun _ => rfl) (fun _ => rfl) (fun _ _ => okHB_eq rfl) ⟨(0, none, 0), ⟨Nat.zero_le _, fun _ => rfl⟩, ?_, ⟨wkE_refl _, wkE_refl _, wkE_refl _, wkE_refl _, wkE_refl _, wkE_nil, wkH_nil _⟩⟩ ?_
  · (repeat' (first | exact trivial | refine And.intro (by with_reducible rfl) ?_ | (with_reducible exact wkC_refl _) | (with_reducible exact wkCs_refl _) | refine And.intro ?_ ?_))
    all_goals rfl
  rintro ⟨j, ob, cap⟩ ⟨hj, hob⟩
  have hall : j = 0 ∨ j = 1 := by omega
  rcases hall with rfl | rfl
  · (first | refine wX ?_ | exact wZ)
    refine LdN.one (a := some ⟨xb, 0, none⟩) (q := 1) (.int .i64 ((posN s 0 : Nat) : Int)) rfl (fun w hw => hw.2.1) rfl ?_
    (first | refine wX ?_ | exact wZ)
    refine LdN.one (a := some ⟨xb, 0, none⟩) (q := 0) (.string (bs s)) rfl (fun w hw => hw.2.1) rfl ?_
    (first | refine wX ?_ | exact wZ)
    rw [hz]
    refine brd_dec (fun _ => ?_) (fun h => absurd (show (0 : Int) < (s.length : Int) by omega) h)
    (first | refine wX ?_ | exact wZ)
    refine callG (hn xb cap ob) [4, 5, 0] rfl ⟨rfl, rfl, rfl, trivial⟩ rfl fun ⟨b1, c1⟩ _ => ?_
    (first | refine wX ?_ | exact wZ)
    refine ⟨(1, some b1, c1), ⟨by omega, fun h => by cases h⟩, Nat.le_of_ble_eq_true rfl, ?_, ⟨wkE_refl _, wkE_refl _, wkE_refl _, wkE_refl _, wkE_refl _, wkE_refl _, wkH_nil _⟩⟩
    (repeat' (first | exact trivial | refine And.intro (by with_reducible rfl) ?_ | (with_reducible exact wkC_refl _) | (with_reducible exact wkCs_refl _) | refine And.intro ?_ ?_))
    all_goals rfl
  · obtain ⟨g, rfl⟩ : ∃ g, ob = some g := by
      cases ob with
      | none => exact absurd (hob rfl) (by decide)
      | some g => exact ⟨g, rfl⟩
    (first | refine wX ?_ | exact wZ)
    refine LdN.one (a := some ⟨xb, 0, none⟩) (q := 1) (.int .i64 ((posN s 1 : Nat) : Int)) rfl (fun w hw => hw.2.1) rfl ?_
    (first | refine wX ?_ | exact wZ)
    refine LdN.one (a := some ⟨xb, 0, none⟩) (q := 0) (.string (bs s)) rfl (fun w hw => hw.2.1) rfl ?_
    (first | refine wX ?_ | exact wZ)
    rw [hz]
    refine brd_dec (fun h => absurd (show (s.length : Int) < (s.length : Int) from h) (by omega)) (fun _ => ?_)
    (first | refine wX ?_ | exact wZ)
    refine loopS Unit (fun _ => True) (fun _ => mkS Tryd.f11.ntmps 0 [(2, .c (.lp 1 0)), (3, .c (.lp 2 0)), (4, .c (.lp 3 0)), (5, .c (.v (.pointer (some ⟨xb, 0, none⟩))))]) (fun _ => 0) rfl (fun _ => rfl) () trivial ?_ ?_
    · (repeat' (first | exact trivial | refine And.intro (by with_reducible rfl) ?_ | (with_reducible exact wkC_refl _) | (with_reducible exact wkCs_refl _) | refine And.intro ?_ ?_))
      all_goals rfl
    intro _ _
    (first | refine wX ?_ | exact wZ)
    refine LdN.one (a := some ⟨xb, 0, none⟩) (q := 3) (.slice (some ⟨g, 0, none⟩) 1 cap) rfl (fun w hw => hw.2.1) rfl ?_
    (first | refine wX ?_ | exact wZ)
    (first | refine wX ?_ | exact wZ)
    refine LdN.one (a := some ⟨xb, 0, none⟩) (q := 3) (.slice (some ⟨g, 0, none⟩) 1 cap) rfl (fun w hw => hw.2.1) rfl ?_
    (first | refine wX ?_ | exact wZ)
    (first | refine wX ?_ | exact wZ)
    refine LdN.one (a := some ⟨xb, 0, none⟩) (q := 3) (.slice (some ⟨g, 0, none⟩) 1 cap) rfl (fun w hw => hw.2.1) rfl ?_
    (first | refine wX ?_ | exact wZ)
    rw [show IntKind.i64.wrap (((1 : Nat) : Int) - 1) = ((0 : Nat) : Int) by decide]
    refine Nd.mk ⟨rfl, by decide, by decide⟩ ?_
    (first | refine wX ?_ | exact wZ)
    refine LdN.fld (.int .i64 T.kind) rfl (fun w hw => hw.2.2.1) (by rfl) ?_
    (first | refine wX ?_ | exact wZ)
    refine brd_eq (fun h => absurd h hk) (fun _ => ?_)
    (first | refine wX ?_ | exact wZ)
    (first | refine wX ?_ | exact wZ)
    refine LdN.one (a := some ⟨xb, 0, none⟩) (q := 3) (.slice (some ⟨g, 0, none⟩) 1 cap) rfl (fun w hw => hw.2.1) rfl ?_
    (first | refine wX ?_ | exact wZ)
    refine fin_p (fun w => SlAt (some ⟨g, 0, none⟩) 5 (toksC [T]) w) ⟨g, cap, rfl, fun w hw => hw⟩ (fun w hw => hw.2.2.1)
end Go.Proofs.YteejemdibfbccaaDoor

/-
  Plain Lean: keywords, names, constants: what the program tells is what the document tells.
-/
namespace Go.Scan
set_option maxRecDepth 20000

def kwL : List (List UInt8) := [[97, 108, 105, 97, 115], [98, 101, 103, 105, 110], [98, 114, 101, 97, 107], [99, 97, 115, 101], [99, 108, 97, 115, 115], [100, 101, 102], [100, 111], [101, 108, 115, 101], [101, 108, 115, 105, 102], [101, 110, 100], [101, 110, 115, 117, 114, 101], [102, 97, 108, 115, 101], [105, 102], [105, 110], [109, 111, 100, 117, 108, 101], [110, 101, 120, 116], [110, 105, 108], [114, 101, 115, 99, 117, 101], [114, 101, 116, 114, 121], [114, 101, 116, 117, 114, 110], [115, 101, 108, 102], [115, 117, 112, 101, 114], [116, 104, 101, 110], [116, 114, 117, 101], [117, 110, 100, 101, 102], [117, 110, 108, 101, 115, 115], [117, 110, 116, 105, 108], [117, 115, 105, 110, 103], [119, 104, 101, 110], [119, 104, 105, 108, 101], [121, 105, 101, 108, 100]]
def ops : List UInt8 := [43, 32, 45, 32, 42, 32, 47, 32, 37, 32, 61, 61, 32, 60, 32, 60, 61, 32, 62, 32, 62, 61, 32, 60, 61, 62, 32, 61, 61, 61, 32, 60, 60, 32, 91, 93, 32, 91, 93, 61, 32, 46, 46]
/-- Words with blanks between. -/
def joinW : List (List UInt8) → List UInt8
  | [] => [32]
  | w :: l => 32 :: (w ++ joinW l)
theorem joinW_head : ∀ l, ∃ r, joinW l = 32 :: r
  | [] => ⟨[], rfl⟩
  | w :: l => ⟨w ++ joinW l, rfl⟩
theorem tw_32 {s r : List UInt8} (h : ∀ c ∈ s, c ≠ 32) : (s ++ 32 :: r).takeWhile (fun c => c != 32) = s := by
  rw [List.takeWhile_append_of_pos (fun c hc => by simpa using h c hc)]
  simp
theorem occ_word {l : List (List UInt8)} (hl : ∀ w ∈ l, ∀ c ∈ w, c ≠ 32) {s : List UInt8} (hs : ∀ c ∈ s, c ≠ 32) : ∀ i, (32 :: (s ++ [32])) <+: (joinW l).drop i → s ∈ l := by
  induction l with
  | nil =>
    intro i h
    have := h.length_le
    simp [joinW] at this
    omega
  | cons w l ih =>
    intro i h
    cases i with
    | zero =>
      obtain ⟨t, ht⟩ := h
      obtain ⟨r, hr⟩ := joinW_head l
      rw [List.drop_zero, joinW, hr, List.cons_append, List.cons.injEq, List.append_assoc] at ht
      have h1 : (s ++ 32 :: t).takeWhile (fun c => c != 32) = s := tw_32 hs
      have h2 : (w ++ 32 :: r).takeWhile (fun c => c != 32) = w := tw_32 (hl w (List.mem_cons_self ..))
      have h3 : s ++ 32 :: t = w ++ 32 :: r := by simpa using ht.2
      rw [h3, h2] at h1
      rw [h1]
      exact List.mem_cons_self ..
    | succ i =>
      rw [joinW, List.drop_succ_cons, List.drop_append] at h
      by_cases hi : i < w.length
      · obtain ⟨t, ht⟩ := h
        rw [List.drop_eq_getElem_cons hi, List.cons_append, List.cons_append, List.cons.injEq] at ht
        exact absurd ht.1.symm (hl w (List.mem_cons_self ..) _ (List.getElem_mem hi))
      · rw [List.drop_of_length_le (by omega), List.nil_append] at h
        exact List.mem_cons_of_mem _ (ih (fun w hw => hl w (List.mem_cons_of_mem _ hw)) _ h)
theorem kw_join : kws = joinW kwL := by decide +kernel
theorem kw_all : ∀ s ∈ kwL, kwB s = true := by decide +kernel
theorem kw_free : ∀ w ∈ kwL, ∀ c ∈ w, c ≠ 32 := by decide +kernel
theorem kw_eq (s : List UInt8) : kwB s = kwL.contains s := by
  refine Bool.eq_iff_iff.2 ⟨fun h => ?_, fun h => kw_all s (by simpa using h)⟩
  unfold kwB at h
  rw [Bool.and_eq_true, Bool.and_eq_true, ← Lib.contains_iff_indexByte] at h
  obtain ⟨⟨_, h2⟩, h3⟩ := h
  have hs : ∀ c ∈ s, c ≠ 32 := fun c hc e => by
    subst e
    simp [hc] at h2
  unfold Lib.contains at h3
  have h4 := of_decide_eq_true h3
  rcases Lib.index_spec kws (32 :: s ++ [32]) with ⟨h5, _⟩ | ⟨i, _, _, h5, _⟩
  · omega
  · have h6 : (32 :: (s ++ [32])) <+: kws.drop i := by
      unfold Lib.occAt at h5
      simpa using List.isPrefixOf_iff_prefix.1 h5
    rw [kw_join] at h6
    simpa using occ_word kw_free hs i h6
end Go.Scan

/-
  Contract: ScanLong (law): texts of one letter, of just the limit and more.
-/
namespace Go.Proofs.YteejemdibfbccaaDoor
open Go.AX Go.RowKit Go.Scan
set_option maxRecDepth 20000

theorem next_one {s : List UInt8} {k : Int} {c : UInt8} (hc : s[0]? = some c) (hl : ltr c = true) (hs : s.length ≤ 20000) (hW : wordW s 0 = s) (hK : wordsK s 0 [] = (k, s.length)) : NextOne s ⟨k, s, false, 1, none, 0, 0⟩ := fun xb cap ob => by
  have := next_letter xb s 0 1 [] ob cap 0 false hc hl (by decide) (fun _ => rfl) (by omega)
  rw [hW, hK] at this
  exact this
theorem ScanBig_c (s : List UInt8) (hs : 20000 < s.length) (hs2 : s.length ≤ 1000000) : ∀ H, SpecH Tryd.prog 11 (pvs [.string (bs s)]) H (Ret (.tuple #[.slice none 0 0, .int .i64 0, .int .i64 2]) H) := fun H => by
  refine (SpecH.frame (R := fun x => x = .tuple #[.slice none 0 0, .int .i64 0, .int .i64 2]) ?_ H).mono fun _ _ ⟨x, ho, hx, hH⟩ => ⟨by rw [ho, hx], hH⟩
  refine spec_of_defer (g := 23) (d := 12) (cp := capsOf) hm Tryd.func11 (by kernel_rfl) rfl (fun t w Q ht h => hD_c _ _ _ _ _ _ t w Q ht h) (fun t w => by simp [go_sem, capsOf]) (fun t w => quiet_c _ _ _ w) rfl ?_
  have hz := bs_size s
  (first | refine wX ?_ | exact wZ)
  rw [hz]
  refine brd_dec (fun _ => ?_) (fun h => absurd (show (s.length : Int) > 20000 by omega) h)
  (first | refine wX ?_ | exact wZ)
  exact ⟨_, rfl, rfl⟩
theorem rep_all (m : Nat) : (List.replicate m (97 : UInt8)).all wrd = true := by
  rw [List.all_eq_true]
  intro x hx
  rw [List.eq_of_mem_replicate hx]
  rfl
theorem rep_one {m : Nat} (h1 : 19980 ≤ m) (h2 : m ≤ 20000) : NextOne (List.replicate m 97) ⟨1, List.replicate m 97, false, 1, none, 0, 0⟩ := by
  have hlen : (List.replicate m (97 : UInt8)).length = m := List.length_replicate
  have hpe : ∀ i, m ≤ i → pk (List.replicate m 97) i = 0 := fun i hi => by
    unfold pk
    rw [List.getElem?_eq_none (by rw [hlen]; exact hi)]
    rfl
  have h0 : (List.replicate m (97 : UInt8))[0]? = some 97 := by
    rw [List.getElem?_replicate, if_pos (by omega)]
  have hp0 : pk (List.replicate m 97) 0 = 97 := by unfold pk; rw [h0]; rfl
  have htw : (List.replicate m (97 : UInt8)).takeWhile wrd = List.replicate m 97 := by
    have := List.takeWhile_append_of_pos (l₂ := []) (fun x hx => List.all_eq_true.1 (rep_all m) x hx)
    simpa using this
  have hw : wordS (List.replicate m 97) 0 = List.replicate m 97 := by
    unfold wordS
    rw [List.drop_zero, htw]
  have hf : fullS (List.replicate m 97) 0 = List.replicate m 97 := by
    unfold fullS
    simp only [hw, hlen, Nat.zero_add]
    rw [hpe m (Nat.le_refl _), if_neg (by simp)]
  have hW : wordW (List.replicate m 97) 0 = List.replicate m 97 := by
    unfold wordW
    rw [hp0, if_pos (by rfl), hf]
  have hkw : kwB (List.replicate m 97) = false := by
    rw [kw_eq, Bool.eq_false_iff]
    intro h
    have h2 := (show ∀ t ∈ kwL, t.length ≤ 10 by decide +kernel) _ (List.contains_iff_mem.1 h)
    rw [hlen] at h2
    omega
  refine next_one h0 (by rfl) (by rw [hlen]; exact h2) hW ?_
  unfold wordsK
  simp only [hW, hlen, Nat.zero_add, hp0, hkw]
  rw [hpe m (Nat.le_refl _)]
  rfl
def fillC (N i : Nat) : List Value := List.replicate i (.int .u8 97) ++ List.replicate (N - i) (.int .u8 0)
theorem fillC_len {N i : Nat} (h : i ≤ N) : (fillC N i).length = N := by
  unfold fillC
  rw [List.length_append, List.length_replicate, List.length_replicate]
  omega
theorem fillC_step {N i : Nat} (h : i < N) : (fillC N i).take i ++ [Value.int .u8 97] ++ (fillC N i).drop (i + 1) = fillC N (i + 1) := by
  unfold fillC
  rw [List.take_append_of_le_length (by simp), List.take_of_length_le (by simp), List.drop_append, List.drop_of_length_le (by simp), List.nil_append, List.length_replicate, List.drop_replicate, List.replicate_succ']
  congr 2
  omega
theorem ScanLong_c (n : Int) : ∀ H, (∀ w, Facts H w → ScanF w) → SpecH Tryd.prog 4 (pvs [.int .i64 n]) H (Ret (.bool true) H) := by
  refine factC hm Tryd.func4 (by kernel_rfl) rfl rfl ?_
  obtain ⟨U, hU⟩ : ∃ U : Nat, IntKind.u64.wrap n = (U : Int) := ⟨(n % 18446744073709551616).toNat, by
    have : IntKind.u64.wrap n = n % 18446744073709551616 := by simp [IntKind.wrap, IntKind.bits, IntKind.signed]
    rw [this]; omega⟩
  have hU40 : (U : Int).tmod 40 = ((U % 40 : Nat) : Int) := (Int.ofNat_tmod U 40).symm
  have hk40 : U % 40 < 40 := Nat.mod_lt _ (by decide)
  obtain ⟨k, hk⟩ : ∃ k, U % 40 = k := ⟨_, rfl⟩
  rw [hk] at hU40 hk40
  (first | refine wX ?_ | exact wZ)
  rw [hU, hU40]
  try rw [wrap_i64 (x := (k : Int)) (by omega)]
  obtain ⟨N, hN⟩ : ∃ N : Nat, 19980 + k = N := ⟨_, rfl⟩
  rw [show IntKind.i64.wrap (19980 + (k : Int)) = (N : Int) by rw [wrap_i64 (by omega)]; omega]
  refine EffW.mkBytes (e := 5) N rfl (by kernel_rfl) (by kernel_rfl) rfl rfl (by omega) fun b => ?_
  (first | refine wX ?_ | exact wZ)
  refine LoopN.intro Nat (fun i => i ≤ N) (fun i => mkS Tryd.f4.ntmps 0 [(3, .c (.v (.int .i64 (k : Int)))), (4, .c (.v (.slice (some ⟨b, 0, none⟩) N N))), (5, .c (.v (.int .i64 (i : Int))))])
    (fun i => [.fact ScanF, .app 5 1 (fillC N i) (some ⟨b, 0, none⟩) N N]) (fun i => N - i) [] rfl (fun _ => rfl) (fun _ => rfl) (fun _ _ => okHB_eq rfl) ⟨0, Nat.zero_le _, ?_, ⟨wkE_refl _, .inl ⟨rfl, rfl, by unfold fillC; simp, rfl, rfl, rfl⟩, wkH_nil _⟩⟩ ?_
  · (repeat' (first | exact trivial | refine And.intro (by with_reducible rfl) ?_ | (with_reducible exact wkC_refl _) | (with_reducible exact wkCs_refl _) | refine And.intro ?_ ?_))
    all_goals rfl
  intro i hi
  (first | refine wX ?_ | exact wZ)
  refine brd_dec (fun h1 => ?_) (fun h1 => ?_)
  · (first | refine wX ?_ | exact wZ)
    try refine Nd.mk ⟨rfl, by omega, by omega⟩ ?_
    (first | refine wX ?_ | exact wZ)
    refine EffW.app (i := 1) (q := i) (ys := [.int .u8 97]) rfl (by rw [Int.toNat_natCast]; show AV.c (CV.v (Value.pointer (some ((⟨b, 0, none⟩ : Addr).add (i * 1))))) = _; rw [add_lit0, Nat.mul_one]) rfl rfl rfl rfl rfl (by simp; omega) ?_
    (first | refine wX ?_ | exact wZ)
    refine ⟨i + 1, by omega, by show N - (i + 1) < N - i; omega, ?_, ⟨wkE_refl _, .inl ⟨rfl, rfl, fillC_step (by omega), rfl, rfl, rfl⟩, wkH_nil _⟩⟩
    (repeat' (first | exact trivial | refine And.intro (by with_reducible rfl) ?_ | (with_reducible exact wkC_refl _) | (with_reducible exact wkCs_refl _) | refine And.intro ?_ ?_))
    all_goals first | rfl | exact av_int (by rw [wrap_i64 (by omega)]; omega)
  · have hie : i = N := by omega
    subst hie
    have hZ : ∀ w, SlAt (some ⟨b, 0, none⟩) (i * 1) (fillC i i) w → SlAt (some ⟨b, 0, none⟩) i (u8s (List.replicate i 97)) w := fun w h => by
      rw [Nat.mul_one] at h
      have e : fillC i i = u8s (List.replicate i 97) := by simp [fillC, u8s]
      rw [← e]
      exact h
    have hlen : (List.replicate i (97 : UInt8)).length = i := List.length_replicate
    (first | refine wX ?_ | exact wZ)
    refine ReadW.bytes (e := 5) (List.replicate i 97) (by simp) rfl (by kernel_rfl) (by kernel_rfl) (by kernel_rfl) rfl (fun w hw => hZ w hw.2.1) ?_
    (first | refine wX ?_ | exact wZ)
    by_cases hk2 : k > 20
    · refine call1 (ScanBig_c (List.replicate i 97) (by rw [hlen]; omega) (by rw [hlen]; omega) _) ?_
      (first | refine wX ?_ | exact wZ)
      refine brd_dec (fun _ => ?_) (fun h => absurd (show (k : Int) > 20 by omega) h)
      (first | refine wX ?_ | exact wZ)
      refine call1 (sane_c _ (fun w hw => hw.1)) ?_
      (first | refine wX ?_ | exact wZ)
    · refine SpecF.call (ScanOne_c (List.replicate i 97) _ (by rw [hlen]; omega) (by rw [hlen]; omega) (show ¬ (1 : Int) = 0 by decide) (rep_one (by omega) (by omega))) (fun w hw => hw.1) fun v G hR => ?_
      obtain ⟨g, c, rfl, hG⟩ := hR
      (first | refine wX ?_ | exact wZ)
      refine brd_dec (fun h => absurd h (by omega)) (fun _ => ?_)
      (first | refine wX ?_ | exact wZ)
      refine call1 (sane_c _ (fun w hw => hw.1)) ?_
      (first | refine wX ?_ | exact wZ)
end Go.Proofs.YteejemdibfbccaaDoor

/-
  ScanLongCardSaid is proved: of every number ScanLong returns true and leaves its argument as it was; the listed tables are tied to the program's text.
-/
namespace Go.Proofs.YteejemdibfbccaaDoor
open Go.ChangeShapes Go.WideShapes Go.ChangeAt Go.RowKit Go.AX
set_option maxRecDepth 100000

namespace ScanLong
theorem own : ownKnob Tryd.prog.godebug = none := own0
theorem walk {H : Type} {enc : TypeId × Value → H} (W : World) (base : Nat) (args : Array Value) (ds : List (DataW H)) (p : List MemPlace) (k : Known enc Tryd.prog Tryd.f4 W base args ds p) (_hL : laidMetH Tryd.prog laid3 W) : Walk Tryd.prog 4 args W := by
  obtain ⟨u, rfl⟩ := arr1 (trodAll_len k.trod).2
  obtain ⟨n, rfl⟩ := k.low.int (i := .i64) 0 rfl rfl (by kernel_rfl)
  exact walkH [.fact ScanF] (known_scan k.shaped _hL) (ScanLong_c n _ fun w hw => hw.1)

theorem lifted (os : Os) (started : os.Started) (H : Type) (enc : TypeId × Value → H) :
    ReturnsInHanded {} Tryd.checked os 4 .any (fun w args => (Rows.scanLongSpec.pre enc Tryd.prog Tryd.f4 [] false w args ∧ laidMetH Tryd.prog laid3 w) ∧ sizedMet enc Tryd.prog Tryd.f4 (OpenSpec.ofChange Rows.scanLongSpec) false w args) (Rows.scanLongSpec.post enc Tryd.prog Tryd.f4 false true false false) := by
  refine liftS (C := Tryd.checked) own started (by kernel_rfl) Tryd.func4
    (ChangeSpec.witness_shaped (enc := enc) (C := Tryd.checked) (os := os) (X := fun w _ => laidMetH Tryd.prog laid3 w) false (World.laidAll Tryd.prog os laid3) #[.int .i64 0] 8 (World.laidAll_os _ _ _) (World.shaped_of_ZipB (by kernel_rfl) (by kernel_rfl)) (by kernel_rfl) (by kernel_rfl) (by kernel_rfl) (door_met os _))
    laidOut rfl (t := _) rfl (by kernel_rfl) (by kernel_rfl) ?_ walk
  intro ds hd
  match ds, hd with
  | [d0], _ => rfl

theorem over : Rows.scanLongRow.holds Tryd.pinned (OpenSpec.ofChange Rows.scanLongSpec) :=
  OpenClaim.holds_of_wide 4 Tryd.f4 rfl rfl rfl rfl rfl rfl rfl ⟨rfl, rfl, rfl, rfl, rfl⟩ rfl rfl rfl rfl rfl (by kernel_rfl) Tryd.func4 (by kernel_rfl)
    (of_decide_eq_true (by kernel_rfl)) (by unfold Func.isWrapper; first | (rw [if_pos (by decide +kernel)]; kernel_rfl) | (rw [if_neg (by decide +kernel)]; exact ⟨rfl, rfl⟩))
    (fun os started H enc _ => lifted os started H enc)

theorem proved : Rows.ScanLongCardSaid :=
  Claim7.holds_tied_plain_at .later [] [.data, .listed, .data, .pinned] true (true, "29d5a38514b6d36cd327fbc0288b099aab2f6e94237d213b480f59913676cde1") true
    over (fun _ h => by cases h) (by kernel_rfl) (fun _ h => by cases h) scanLong_row_tie rfl ⟨rfl, rfl⟩ (by kernel_rfl) rfl
    (fun f fn hf hfn => by
      obtain rfl : f = 4 := Option.some.inj ((show Tryd.prog.funcNamed "cabochon/cabochonlaw14.ScanLong" = some 4 by kernel_rfl).symm.trans hf) |>.symm
      obtain rfl : fn = Tryd.f4 := (Option.some.inj (Tryd.func4.symm.trans hfn)).symm
      exact ⟨by kernel_rfl, fun j t ht => by
        have hm : t ∈ Tryd.f4.params.toList := by simpa using Array.mem_of_getElem? ht
        have hall : (Tryd.f4.params.toList.all fun u => !Tryd.prog.wantsStandIn u) = true := by kernel_rfl
        exact (show Tryd.prog.wantsStandIn t = false by simpa using List.all_eq_true.1 hall t hm)⟩)
    (by kernel_rfl)
#print axioms proved
end ScanLong
end Go.Proofs.YteejemdibfbccaaDoor
