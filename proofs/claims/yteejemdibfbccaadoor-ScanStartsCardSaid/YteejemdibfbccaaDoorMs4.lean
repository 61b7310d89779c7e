/-
  ScanStartsCardSaid is proved: of every token ScanStarts returns true and leaves its argument as it was; the listed tables are tied to the program's text.
-/
import Derived.Lay
import Derived.Lib.LaidU8
import Derived.PinnedBridge
import Derived.Test.YteejemdibfbccaaDoorCards
import Derived.Test.YteejemdibfbccaaDoorTie
import Derived.Test.YteejemdibfbccaaDoorMs3
/-
  Contract: names, constants, keywords, labels (program).
-/
namespace Go.Proofs.YteejemdibfbccaaDoor
open Go.AX Go.RowKit Go.Scan
set_option maxRecDepth 20000

def lastDot (l : List Tok) : Bool := match l.getLast? with | some t => t.kind == 7 && (t.text == [46] || t.text == [38, 46]) | none => false
theorem fullS_le (s : List UInt8) (p : Nat) (h : p ≤ s.length) : p + (fullS s p).length ≤ s.length := by
  have hw := wordS_le s p h
  unfold fullS
  simp only
  split
  · rename_i h1
    rw [Bool.and_eq_true, Bool.or_eq_true, beq_iff_eq, beq_iff_eq] at h1
    rw [List.length_append]
    show p + ((wordS s p).length + 1) ≤ s.length
    rcases h1.1 with h2 | h2
    · have := pk_lt h2 (by decide)
      omega
    · have := pk_lt h2 (by decide)
      omega
  · exact hw
/-- The word at a place, and the place behind it. -/
def wordW (s : List UInt8) (p : Nat) : List UInt8 := if sml (pk s p) then fullS s p else wordS s p
def wordsK (s : List UInt8) (p : Nat) (l : List Tok) : Int × Nat :=
  let w := wordW s p
  let q := p + w.length
  if pk s q == 58 && pk s (q + 1) != 58 then (9, q + 1) else (if !sml (pk s p) then 2 else if kwB w && !lastDot l then 8 else 1, q)
set_option maxHeartbeats 2000000 in
theorem words_c (xb : Nat) (s : List UInt8) (p line : Nat) (l : List Tok) (ob : Option Nat) (cap here : Nat) (sp : Bool) (hl : l.length ≤ 900000) (hob : ob = none → l = []) (hs : s.length ≤ 1000000) (hp : p < s.length) :
    SpecH Tryd.prog 40 [.c (.v (.pointer (some ⟨xb, 0, none⟩)))] [scE xb s p line ob l.length cap here sp, toE l ob cap, .fact ScanF]
      (RetG (ι := Nat × Nat) (fun _ => True) (fun _ => .tuple #[]) fun ⟨b, c⟩ => [scE xb s (wordsK s p l).2 line (some b) (l.length + 1) c here false, toE (l ++ [⟨(wordsK s p l).1, wordW s p, sp, line, none, 0, 0⟩]) (some b) c, .fact ScanF]) := by
  refine ownC hm Tryd.func40 (by kernel_rfl) rfl rfl (fun _ _ => okHB_eq rfl) (fun _ _ => Nat.le_refl _) ?_
  have hz := bs_size s
  obtain ⟨c, hc⟩ : ∃ c, s[p]? = some c := ⟨_, List.getElem?_eq_getElem hp⟩
  have hcp : pk s p = c := by unfold pk; rw [hc]; rfl
  (first | refine wX ?_ | exact wZ)
  refine LdN.one (a := some ⟨xb, 0, none⟩) (q := 2) (.int .i64 ((line : Nat) : Int)) rfl (fun w hw => hw.1) rfl ?_
  (first | refine wX ?_ | exact wZ)
  refine LdN.one (a := some ⟨xb, 0, none⟩) (q := 0) (.string (bs s)) rfl (fun w hw => hw.1) rfl ?_
  (first | refine wX ?_ | exact wZ)
  refine LdN.one (a := some ⟨xb, 0, none⟩) (q := 1) (.int .i64 ((p : Nat) : Int)) rfl (fun w hw => hw.1) rfl ?_
  (first | refine wX ?_ | exact wZ)
  rw [Int.toNat_natCast, byteAt_get hc]
  refine callQ (sml_c c _) ?_
  cases hsm : sml c with
  | true =>
    have hwl := fullS_le s p (by omega)
    (first | refine wX ?_ | exact wZ)
    refine callG (full_c xb s p line ob l.length cap here sp hs (by omega)) [0] rfl ⟨rfl, trivial⟩ rfl fun _ _ => ?_
    generalize hq : p + (fullS s p).length = q at *
    -- false: upper, fullS s p: the word
    have hwW : wordW s p = fullS s p := by unfold wordW; rw [hcp]; simp [hsm]
    have hK : wordsK s p l = if pk s q == 58 && pk s (q + 1) != 58 then (9, q + 1) else (if !sml c then 2 else if kwB (fullS s p) && !lastDot l then 8 else 1, q) := by
      unfold wordsK
      simp only [hwW, hq, hcp]
    generalize hW : fullS s p = W at *
    (first | refine wX ?_ | exact wZ)
    refine call1 (peek_c xb s q line ob l.length cap here sp 0 (by omega) (by decide) _ (fun w hw => hw.1)) ?_
    rw [Nat.add_zero]
    have hb0 : (((pk s q).toNat : Int) == 58) = (pk s q == 58) := u8_eq (n := 58) (by decide)
    have hb1 : (((pk s (q + 1)).toNat : Int) == 58) = (pk s (q + 1) == 58) := u8_eq (n := 58) (by decide)
    (first | refine wX ?_ | exact wZ)
    rw [hb0]
    cases e0 : pk s q == 58 with
    | true =>
      (first | refine wX ?_ | exact wZ)
      refine call1 (peek_c xb s q line ob l.length cap here sp 1 (by omega) (by decide) _ (fun w hw => hw.1)) ?_
      (first | refine wX ?_ | exact wZ)
      rw [bne, hb1]
      cases e1 : pk s (q + 1) == 58 with
      | true =>
        have hK2 : wordsK s p l = (if !sml c then 2 else if kwB W && !lastDot l then 8 else 1, q) := by rw [hK]; simp [bne, e1]
        -- false: upper
        rcases Nat.eq_zero_or_pos l.length with hl0 | hl0
        · have hd : lastDot l = false := by rw [List.eq_nil_of_length_eq_zero hl0]; rfl
          (first | refine wX ?_ | exact wZ)
          refine LdN.one (a := some ⟨xb, 0, none⟩) (q := 3) (.slice (at0 ob) l.length cap) rfl (fun w hw => hw.1) rfl ?_
          (first | refine wX ?_ | exact wZ)
          refine brd_dec (fun h => absurd h (by omega)) (fun _ => ?_)
          (first | refine wX ?_ | exact wZ)
          refine call1 (IsKeyword_c W (by omega) _ (fun w hw => hw.2.2.1.1)) ?_
          cases hkw : kwB W with
          | true =>
            -- 8: the kind
            rw [hwW, show wordsK s p l = (8, q) by rw [hK2]; simp [hsm, hd, *]]
            (first | refine wX ?_ | exact wZ)
            refine callG (add_c xb s q line l ob cap here sp 8 W line (by omega) hob) [0, 1] rfl ⟨rfl, rfl, trivial⟩ rfl fun ⟨b1, c1⟩ _ => ?_
            (first | refine wX ?_ | exact wZ)
            exact ⟨(b1, c1), trivial, rfl, wkE_refl _, wkE_refl _, wkE_refl _, wkH_nil _⟩
          | false =>
            -- 1: the kind
            rw [hwW, show wordsK s p l = (1, q) by rw [hK2]; simp [hsm, hd, *]]
            (first | refine wX ?_ | exact wZ)
            refine callG (add_c xb s q line l ob cap here sp 1 W line (by omega) hob) [0, 1] rfl ⟨rfl, rfl, trivial⟩ rfl fun ⟨b1, c1⟩ _ => ?_
            (first | refine wX ?_ | exact wZ)
            exact ⟨(b1, c1), trivial, rfl, wkE_refl _, wkE_refl _, wkE_refl _, wkH_nil _⟩
        · obtain ⟨t, ht⟩ : ∃ t, l[l.length - 1]? = some t := ⟨_, List.getElem?_eq_getElem (by omega)⟩
          have hoa : (at0 ob).isSome = true := by
            cases ob with
            | none => rw [hob rfl] at hl0; simp at hl0
            | some g => rfl
          have hw1 : IntKind.i64.wrap ((l.length : Int) - 1) = ((l.length - 1 : Nat) : Int) := by rw [wrap_i64 (by omega)]; omega
          obtain ⟨tk, tt, ts, tl2, ta, tn, tc⟩ := t
          have hdt : lastDot l = (tk == 7 && (tt == [46] || tt == [38, 46])) := by
            unfold lastDot
            rw [List.getLast?_eq_getElem?, ht]
          (first | refine wX ?_ | exact wZ)
          refine LdN.one (a := some ⟨xb, 0, none⟩) (q := 3) (.slice (at0 ob) l.length cap) rfl (fun w hw => hw.1) rfl ?_
          (first | refine wX ?_ | exact wZ)
          refine brd_dec (fun _ => ?_) (fun h => absurd h (by omega))
          (first | refine wX ?_ | exact wZ)
          -- 0: the field's number, .int .i64 tk: its value
          refine LdN.one (a := some ⟨xb, 0, none⟩) (q := 3) (.slice (at0 ob) l.length cap) rfl (fun w hw => hw.1) rfl ?_
          (first | refine wX ?_ | exact wZ)
          refine LdN.one (a := some ⟨xb, 0, none⟩) (q := 3) (.slice (at0 ob) l.length cap) rfl (fun w hw => hw.1) rfl ?_
          (first | refine wX ?_ | exact wZ)
          try rw [hw1]
          refine Nd.mk ⟨hoa, by omega, by omega⟩ ?_
          (first | refine wX ?_ | exact wZ)
          refine LdN.fld (.int .i64 tk) rfl (fun w hw => hw.2.1) (by rw [Int.toNat_natCast]; exact toksC_get l _ 0 (by decide) ht) ?_
          (first | refine wX ?_ | exact wZ)
          refine brd_eq (fun e7 => ?_) (fun e7 => ?_)
          · by_cases h46 : tt = [46]
            · subst h46
              have hd : lastDot l = true := by rw [hdt]; simp [e7]
              (first | refine wX ?_ | exact wZ)
              -- 1: the field's number, .string (bs [46]): its value
              refine LdN.one (a := some ⟨xb, 0, none⟩) (q := 3) (.slice (at0 ob) l.length cap) rfl (fun w hw => hw.1) rfl ?_
              (first | refine wX ?_ | exact wZ)
              refine LdN.one (a := some ⟨xb, 0, none⟩) (q := 3) (.slice (at0 ob) l.length cap) rfl (fun w hw => hw.1) rfl ?_
              (first | refine wX ?_ | exact wZ)
              try rw [hw1]
              refine Nd.mk ⟨hoa, by omega, by omega⟩ ?_
              (first | refine wX ?_ | exact wZ)
              refine LdN.fld (.string (bs [46])) rfl (fun w hw => hw.2.1) (by rw [Int.toNat_natCast]; exact toksC_get l _ 1 (by decide) ht) ?_
              (first | refine wX ?_ | exact wZ)
              (first | refine wX ?_ | exact wZ)
              refine call1 (IsKeyword_c W (by omega) _ (fun w hw => hw.2.2.1.1)) ?_
              cases hkw : kwB W with
              | true =>
                -- 1: the kind
                rw [hwW, show wordsK s p l = (1, q) by rw [hK2]; simp [hsm, hd, *]]
                (first | refine wX ?_ | exact wZ)
                refine callG (add_c xb s q line l ob cap here sp 1 W line (by omega) hob) [0, 1] rfl ⟨rfl, rfl, trivial⟩ rfl fun ⟨b1, c1⟩ _ => ?_
                (first | refine wX ?_ | exact wZ)
                exact ⟨(b1, c1), trivial, rfl, wkE_refl _, wkE_refl _, wkE_refl _, wkH_nil _⟩
              | false =>
                -- 1: the kind
                rw [hwW, show wordsK s p l = (1, q) by rw [hK2]; simp [hsm, hd, *]]
                (first | refine wX ?_ | exact wZ)
                refine callG (add_c xb s q line l ob cap here sp 1 W line (by omega) hob) [0, 1] rfl ⟨rfl, rfl, trivial⟩ rfl fun ⟨b1, c1⟩ _ => ?_
                (first | refine wX ?_ | exact wZ)
                exact ⟨(b1, c1), trivial, rfl, wkE_refl _, wkE_refl _, wkE_refl _, wkH_nil _⟩
            · (first | refine wX ?_ | exact wZ)
              -- 1: the field's number, .string (bs tt): its value
              refine LdN.one (a := some ⟨xb, 0, none⟩) (q := 3) (.slice (at0 ob) l.length cap) rfl (fun w hw => hw.1) rfl ?_
              (first | refine wX ?_ | exact wZ)
              refine LdN.one (a := some ⟨xb, 0, none⟩) (q := 3) (.slice (at0 ob) l.length cap) rfl (fun w hw => hw.1) rfl ?_
              (first | refine wX ?_ | exact wZ)
              try rw [hw1]
              refine Nd.mk ⟨hoa, by omega, by omega⟩ ?_
              (first | refine wX ?_ | exact wZ)
              refine LdN.fld (.string (bs tt)) rfl (fun w hw => hw.2.1) (by rw [Int.toNat_natCast]; exact toksC_get l _ 1 (by decide) ht) ?_
              (first | refine wX ?_ | exact wZ)
              refine brd_intro (fun h => absurd (eq_of_beq (show (tt == [46]) = true from h)) h46) (fun _ => ?_)
              by_cases h38 : tt = [38, 46]
              · subst h38
                have hd : lastDot l = true := by rw [hdt]; simp [e7]
                (first | refine wX ?_ | exact wZ)
                -- 1: the field's number, .string (bs [38, 46]): its value
                refine LdN.one (a := some ⟨xb, 0, none⟩) (q := 3) (.slice (at0 ob) l.length cap) rfl (fun w hw => hw.1) rfl ?_
                (first | refine wX ?_ | exact wZ)
                refine LdN.one (a := some ⟨xb, 0, none⟩) (q := 3) (.slice (at0 ob) l.length cap) rfl (fun w hw => hw.1) rfl ?_
                (first | refine wX ?_ | exact wZ)
                try rw [hw1]
                refine Nd.mk ⟨hoa, by omega, by omega⟩ ?_
                (first | refine wX ?_ | exact wZ)
                refine LdN.fld (.string (bs [38, 46])) rfl (fun w hw => hw.2.1) (by rw [Int.toNat_natCast]; exact toksC_get l _ 1 (by decide) ht) ?_
                (first | refine wX ?_ | exact wZ)
                (first | refine wX ?_ | exact wZ)
                refine call1 (IsKeyword_c W (by omega) _ (fun w hw => hw.2.2.1.1)) ?_
                cases hkw : kwB W with
                | true =>
                  -- 1: the kind
                  rw [hwW, show wordsK s p l = (1, q) by rw [hK2]; simp [hsm, hd, *]]
                  (first | refine wX ?_ | exact wZ)
                  refine callG (add_c xb s q line l ob cap here sp 1 W line (by omega) hob) [0, 1] rfl ⟨rfl, rfl, trivial⟩ rfl fun ⟨b1, c1⟩ _ => ?_
                  (first | refine wX ?_ | exact wZ)
                  exact ⟨(b1, c1), trivial, rfl, wkE_refl _, wkE_refl _, wkE_refl _, wkH_nil _⟩
                | false =>
                  -- 1: the kind
                  rw [hwW, show wordsK s p l = (1, q) by rw [hK2]; simp [hsm, hd, *]]
                  (first | refine wX ?_ | exact wZ)
                  refine callG (add_c xb s q line l ob cap here sp 1 W line (by omega) hob) [0, 1] rfl ⟨rfl, rfl, trivial⟩ rfl fun ⟨b1, c1⟩ _ => ?_
                  (first | refine wX ?_ | exact wZ)
                  exact ⟨(b1, c1), trivial, rfl, wkE_refl _, wkE_refl _, wkE_refl _, wkH_nil _⟩
              · have hd : lastDot l = false := by rw [hdt]; simp [h46, h38]
                (first | refine wX ?_ | exact wZ)
                -- 1: the field's number, .string (bs tt): its value
                refine LdN.one (a := some ⟨xb, 0, none⟩) (q := 3) (.slice (at0 ob) l.length cap) rfl (fun w hw => hw.1) rfl ?_
                (first | refine wX ?_ | exact wZ)
                refine LdN.one (a := some ⟨xb, 0, none⟩) (q := 3) (.slice (at0 ob) l.length cap) rfl (fun w hw => hw.1) rfl ?_
                (first | refine wX ?_ | exact wZ)
                try rw [hw1]
                refine Nd.mk ⟨hoa, by omega, by omega⟩ ?_
                (first | refine wX ?_ | exact wZ)
                refine LdN.fld (.string (bs tt)) rfl (fun w hw => hw.2.1) (by rw [Int.toNat_natCast]; exact toksC_get l _ 1 (by decide) ht) ?_
                (first | refine wX ?_ | exact wZ)
                (first | refine wX ?_ | exact wZ)
                refine call1 (IsKeyword_c W (by omega) _ (fun w hw => hw.2.2.1.1)) ?_
                cases hkw : kwB W with
                | true =>
                  (first | refine wX ?_ | exact wZ)
                  refine brdT (show (!(tt == [38, 46])) = true by simp [h38]) ?_
                  -- 8: the kind
                  rw [hwW, show wordsK s p l = (8, q) by rw [hK2]; simp [hsm, hd, *]]
                  (first | refine wX ?_ | exact wZ)
                  refine callG (add_c xb s q line l ob cap here sp 8 W line (by omega) hob) [0, 1] rfl ⟨rfl, rfl, trivial⟩ rfl fun ⟨b1, c1⟩ _ => ?_
                  (first | refine wX ?_ | exact wZ)
                  exact ⟨(b1, c1), trivial, rfl, wkE_refl _, wkE_refl _, wkE_refl _, wkH_nil _⟩
                | false =>
                  -- 1: the kind
                  rw [hwW, show wordsK s p l = (1, q) by rw [hK2]; simp [hsm, hd, *]]
                  (first | refine wX ?_ | exact wZ)
                  refine callG (add_c xb s q line l ob cap here sp 1 W line (by omega) hob) [0, 1] rfl ⟨rfl, rfl, trivial⟩ rfl fun ⟨b1, c1⟩ _ => ?_
                  (first | refine wX ?_ | exact wZ)
                  exact ⟨(b1, c1), trivial, rfl, wkE_refl _, wkE_refl _, wkE_refl _, wkH_nil _⟩
          · have hd : lastDot l = false := by rw [hdt]; simp [e7]
            (first | refine wX ?_ | exact wZ)
            refine call1 (IsKeyword_c W (by omega) _ (fun w hw => hw.2.2.1.1)) ?_
            cases hkw : kwB W with
            | true =>
              -- 8: the kind
              rw [hwW, show wordsK s p l = (8, q) by rw [hK2]; simp [hsm, hd, *]]
              (first | refine wX ?_ | exact wZ)
              refine callG (add_c xb s q line l ob cap here sp 8 W line (by omega) hob) [0, 1] rfl ⟨rfl, rfl, trivial⟩ rfl fun ⟨b1, c1⟩ _ => ?_
              (first | refine wX ?_ | exact wZ)
              exact ⟨(b1, c1), trivial, rfl, wkE_refl _, wkE_refl _, wkE_refl _, wkH_nil _⟩
            | false =>
              -- 1: the kind
              rw [hwW, show wordsK s p l = (1, q) by rw [hK2]; simp [hsm, hd, *]]
              (first | refine wX ?_ | exact wZ)
              refine callG (add_c xb s q line l ob cap here sp 1 W line (by omega) hob) [0, 1] rfl ⟨rfl, rfl, trivial⟩ rfl fun ⟨b1, c1⟩ _ => ?_
              (first | refine wX ?_ | exact wZ)
              exact ⟨(b1, c1), trivial, rfl, wkE_refl _, wkE_refl _, wkE_refl _, wkH_nil _⟩
      | false =>
        have hK2 : wordsK s p l = (9, q + 1) := by rw [hK]; simp [bne, e0, e1]
        have hql := pk_lt (show pk s q = 58 by simpa using e0) (by decide)
        rw [hwW, hK2]
        (first | refine wX ?_ | exact wZ)
        refine LdN.one (a := some ⟨xb, 0, none⟩) (q := 1) (.int .i64 ((q : Nat) : Int)) rfl (fun w hw => hw.1) rfl ?_
        (first | refine wX ?_ | exact wZ)
        refine EffW.appTo (i := 0) (q := 1) (ys := [_]) (scC s (q + 1) line ob l.length cap here sp) 6 rfl rfl rfl rfl rfl rfl rfl (Nat.le_of_ble_eq_true rfl) (by
          show [_, Value.int .i64 _, _, _, _, _] = [_, Value.int .i64 _, _, _, _, _]
          rw [wrap_i64 (by omega)]
          rfl) rfl ?_
        (first | refine wX ?_ | exact wZ)
        refine callG (add_c xb s (q + 1) line l ob cap here sp 9 W line (by omega) hob) [0, 1] rfl ⟨rfl, rfl, trivial⟩ rfl fun ⟨b1, c1⟩ _ => ?_
        (first | refine wX ?_ | exact wZ)
        exact ⟨(b1, c1), trivial, rfl, wkE_refl _, wkE_refl _, wkE_refl _, wkH_nil _⟩
    | false =>
      have hK2 : wordsK s p l = (if !sml c then 2 else if kwB W && !lastDot l then 8 else 1, q) := by rw [hK]; simp [e0]
      -- false: upper
      rcases Nat.eq_zero_or_pos l.length with hl0 | hl0
      · have hd : lastDot l = false := by rw [List.eq_nil_of_length_eq_zero hl0]; rfl
        (first | refine wX ?_ | exact wZ)
        refine LdN.one (a := some ⟨xb, 0, none⟩) (q := 3) (.slice (at0 ob) l.length cap) rfl (fun w hw => hw.1) rfl ?_
        (first | refine wX ?_ | exact wZ)
        refine brd_dec (fun h => absurd h (by omega)) (fun _ => ?_)
        (first | refine wX ?_ | exact wZ)
        refine call1 (IsKeyword_c W (by omega) _ (fun w hw => hw.2.2.1.1)) ?_
        cases hkw : kwB W with
        | true =>
          -- 8: the kind
          rw [hwW, show wordsK s p l = (8, q) by rw [hK2]; simp [hsm, hd, *]]
          (first | refine wX ?_ | exact wZ)
          refine callG (add_c xb s q line l ob cap here sp 8 W line (by omega) hob) [0, 1] rfl ⟨rfl, rfl, trivial⟩ rfl fun ⟨b1, c1⟩ _ => ?_
          (first | refine wX ?_ | exact wZ)
          exact ⟨(b1, c1), trivial, rfl, wkE_refl _, wkE_refl _, wkE_refl _, wkH_nil _⟩
        | false =>
          -- 1: the kind
          rw [hwW, show wordsK s p l = (1, q) by rw [hK2]; simp [hsm, hd, *]]
          (first | refine wX ?_ | exact wZ)
          refine callG (add_c xb s q line l ob cap here sp 1 W line (by omega) hob) [0, 1] rfl ⟨rfl, rfl, trivial⟩ rfl fun ⟨b1, c1⟩ _ => ?_
          (first | refine wX ?_ | exact wZ)
          exact ⟨(b1, c1), trivial, rfl, wkE_refl _, wkE_refl _, wkE_refl _, wkH_nil _⟩
      · obtain ⟨t, ht⟩ : ∃ t, l[l.length - 1]? = some t := ⟨_, List.getElem?_eq_getElem (by omega)⟩
        have hoa : (at0 ob).isSome = true := by
          cases ob with
          | none => rw [hob rfl] at hl0; simp at hl0
          | some g => rfl
        have hw1 : IntKind.i64.wrap ((l.length : Int) - 1) = ((l.length - 1 : Nat) : Int) := by rw [wrap_i64 (by omega)]; omega
        obtain ⟨tk, tt, ts, tl2, ta, tn, tc⟩ := t
        have hdt : lastDot l = (tk == 7 && (tt == [46] || tt == [38, 46])) := by
          unfold lastDot
          rw [List.getLast?_eq_getElem?, ht]
        (first | refine wX ?_ | exact wZ)
        refine LdN.one (a := some ⟨xb, 0, none⟩) (q := 3) (.slice (at0 ob) l.length cap) rfl (fun w hw => hw.1) rfl ?_
        (first | refine wX ?_ | exact wZ)
        refine brd_dec (fun _ => ?_) (fun h => absurd h (by omega))
        (first | refine wX ?_ | exact wZ)
        -- 0: the field's number, .int .i64 tk: its value
        refine LdN.one (a := some ⟨xb, 0, none⟩) (q := 3) (.slice (at0 ob) l.length cap) rfl (fun w hw => hw.1) rfl ?_
        (first | refine wX ?_ | exact wZ)
        refine LdN.one (a := some ⟨xb, 0, none⟩) (q := 3) (.slice (at0 ob) l.length cap) rfl (fun w hw => hw.1) rfl ?_
        (first | refine wX ?_ | exact wZ)
        try rw [hw1]
        refine Nd.mk ⟨hoa, by omega, by omega⟩ ?_
        (first | refine wX ?_ | exact wZ)
        refine LdN.fld (.int .i64 tk) rfl (fun w hw => hw.2.1) (by rw [Int.toNat_natCast]; exact toksC_get l _ 0 (by decide) ht) ?_
        (first | refine wX ?_ | exact wZ)
        refine brd_eq (fun e7 => ?_) (fun e7 => ?_)
        · by_cases h46 : tt = [46]
          · subst h46
            have hd : lastDot l = true := by rw [hdt]; simp [e7]
            (first | refine wX ?_ | exact wZ)
            -- 1: the field's number, .string (bs [46]): its value
            refine LdN.one (a := some ⟨xb, 0, none⟩) (q := 3) (.slice (at0 ob) l.length cap) rfl (fun w hw => hw.1) rfl ?_
            (first | refine wX ?_ | exact wZ)
            refine LdN.one (a := some ⟨xb, 0, none⟩) (q := 3) (.slice (at0 ob) l.length cap) rfl (fun w hw => hw.1) rfl ?_
            (first | refine wX ?_ | exact wZ)
            try rw [hw1]
            refine Nd.mk ⟨hoa, by omega, by omega⟩ ?_
            (first | refine wX ?_ | exact wZ)
            refine LdN.fld (.string (bs [46])) rfl (fun w hw => hw.2.1) (by rw [Int.toNat_natCast]; exact toksC_get l _ 1 (by decide) ht) ?_
            (first | refine wX ?_ | exact wZ)
            (first | refine wX ?_ | exact wZ)
            refine call1 (IsKeyword_c W (by omega) _ (fun w hw => hw.2.2.1.1)) ?_
            cases hkw : kwB W with
            | true =>
              -- 1: the kind
              rw [hwW, show wordsK s p l = (1, q) by rw [hK2]; simp [hsm, hd, *]]
              (first | refine wX ?_ | exact wZ)
              refine callG (add_c xb s q line l ob cap here sp 1 W line (by omega) hob) [0, 1] rfl ⟨rfl, rfl, trivial⟩ rfl fun ⟨b1, c1⟩ _ => ?_
              (first | refine wX ?_ | exact wZ)
              exact ⟨(b1, c1), trivial, rfl, wkE_refl _, wkE_refl _, wkE_refl _, wkH_nil _⟩
            | false =>
              -- 1: the kind
              rw [hwW, show wordsK s p l = (1, q) by rw [hK2]; simp [hsm, hd, *]]
              (first | refine wX ?_ | exact wZ)
              refine callG (add_c xb s q line l ob cap here sp 1 W line (by omega) hob) [0, 1] rfl ⟨rfl, rfl, trivial⟩ rfl fun ⟨b1, c1⟩ _ => ?_
              (first | refine wX ?_ | exact wZ)
              exact ⟨(b1, c1), trivial, rfl, wkE_refl _, wkE_refl _, wkE_refl _, wkH_nil _⟩
          · (first | refine wX ?_ | exact wZ)
            -- 1: the field's number, .string (bs tt): its value
            refine LdN.one (a := some ⟨xb, 0, none⟩) (q := 3) (.slice (at0 ob) l.length cap) rfl (fun w hw => hw.1) rfl ?_
            (first | refine wX ?_ | exact wZ)
            refine LdN.one (a := some ⟨xb, 0, none⟩) (q := 3) (.slice (at0 ob) l.length cap) rfl (fun w hw => hw.1) rfl ?_
            (first | refine wX ?_ | exact wZ)
            try rw [hw1]
            refine Nd.mk ⟨hoa, by omega, by omega⟩ ?_
            (first | refine wX ?_ | exact wZ)
            refine LdN.fld (.string (bs tt)) rfl (fun w hw => hw.2.1) (by rw [Int.toNat_natCast]; exact toksC_get l _ 1 (by decide) ht) ?_
            (first | refine wX ?_ | exact wZ)
            refine brd_intro (fun h => absurd (eq_of_beq (show (tt == [46]) = true from h)) h46) (fun _ => ?_)
            by_cases h38 : tt = [38, 46]
            · subst h38
              have hd : lastDot l = true := by rw [hdt]; simp [e7]
              (first | refine wX ?_ | exact wZ)
              -- 1: the field's number, .string (bs [38, 46]): its value
              refine LdN.one (a := some ⟨xb, 0, none⟩) (q := 3) (.slice (at0 ob) l.length cap) rfl (fun w hw => hw.1) rfl ?_
              (first | refine wX ?_ | exact wZ)
              refine LdN.one (a := some ⟨xb, 0, none⟩) (q := 3) (.slice (at0 ob) l.length cap) rfl (fun w hw => hw.1) rfl ?_
              (first | refine wX ?_ | exact wZ)
              try rw [hw1]
              refine Nd.mk ⟨hoa, by omega, by omega⟩ ?_
              (first | refine wX ?_ | exact wZ)
              refine LdN.fld (.string (bs [38, 46])) rfl (fun w hw => hw.2.1) (by rw [Int.toNat_natCast]; exact toksC_get l _ 1 (by decide) ht) ?_
              (first | refine wX ?_ | exact wZ)
              (first | refine wX ?_ | exact wZ)
              refine call1 (IsKeyword_c W (by omega) _ (fun w hw => hw.2.2.1.1)) ?_
              cases hkw : kwB W with
              | true =>
                -- 1: the kind
                rw [hwW, show wordsK s p l = (1, q) by rw [hK2]; simp [hsm, hd, *]]
                (first | refine wX ?_ | exact wZ)
                refine callG (add_c xb s q line l ob cap here sp 1 W line (by omega) hob) [0, 1] rfl ⟨rfl, rfl, trivial⟩ rfl fun ⟨b1, c1⟩ _ => ?_
                (first | refine wX ?_ | exact wZ)
                exact ⟨(b1, c1), trivial, rfl, wkE_refl _, wkE_refl _, wkE_refl _, wkH_nil _⟩
              | false =>
                -- 1: the kind
                rw [hwW, show wordsK s p l = (1, q) by rw [hK2]; simp [hsm, hd, *]]
                (first | refine wX ?_ | exact wZ)
                refine callG (add_c xb s q line l ob cap here sp 1 W line (by omega) hob) [0, 1] rfl ⟨rfl, rfl, trivial⟩ rfl fun ⟨b1, c1⟩ _ => ?_
                (first | refine wX ?_ | exact wZ)
                exact ⟨(b1, c1), trivial, rfl, wkE_refl _, wkE_refl _, wkE_refl _, wkH_nil _⟩
            · have hd : lastDot l = false := by rw [hdt]; simp [h46, h38]
              (first | refine wX ?_ | exact wZ)
              -- 1: the field's number, .string (bs tt): its value
              refine LdN.one (a := some ⟨xb, 0, none⟩) (q := 3) (.slice (at0 ob) l.length cap) rfl (fun w hw => hw.1) rfl ?_
              (first | refine wX ?_ | exact wZ)
              refine LdN.one (a := some ⟨xb, 0, none⟩) (q := 3) (.slice (at0 ob) l.length cap) rfl (fun w hw => hw.1) rfl ?_
              (first | refine wX ?_ | exact wZ)
              try rw [hw1]
              refine Nd.mk ⟨hoa, by omega, by omega⟩ ?_
              (first | refine wX ?_ | exact wZ)
              refine LdN.fld (.string (bs tt)) rfl (fun w hw => hw.2.1) (by rw [Int.toNat_natCast]; exact toksC_get l _ 1 (by decide) ht) ?_
              (first | refine wX ?_ | exact wZ)
              (first | refine wX ?_ | exact wZ)
              refine call1 (IsKeyword_c W (by omega) _ (fun w hw => hw.2.2.1.1)) ?_
              cases hkw : kwB W with
              | true =>
                (first | refine wX ?_ | exact wZ)
                refine brdT (show (!(tt == [38, 46])) = true by simp [h38]) ?_
                -- 8: the kind
                rw [hwW, show wordsK s p l = (8, q) by rw [hK2]; simp [hsm, hd, *]]
                (first | refine wX ?_ | exact wZ)
                refine callG (add_c xb s q line l ob cap here sp 8 W line (by omega) hob) [0, 1] rfl ⟨rfl, rfl, trivial⟩ rfl fun ⟨b1, c1⟩ _ => ?_
                (first | refine wX ?_ | exact wZ)
                exact ⟨(b1, c1), trivial, rfl, wkE_refl _, wkE_refl _, wkE_refl _, wkH_nil _⟩
              | false =>
                -- 1: the kind
                rw [hwW, show wordsK s p l = (1, q) by rw [hK2]; simp [hsm, hd, *]]
                (first | refine wX ?_ | exact wZ)
                refine callG (add_c xb s q line l ob cap here sp 1 W line (by omega) hob) [0, 1] rfl ⟨rfl, rfl, trivial⟩ rfl fun ⟨b1, c1⟩ _ => ?_
                (first | refine wX ?_ | exact wZ)
                exact ⟨(b1, c1), trivial, rfl, wkE_refl _, wkE_refl _, wkE_refl _, wkH_nil _⟩
        · have hd : lastDot l = false := by rw [hdt]; simp [e7]
          (first | refine wX ?_ | exact wZ)
          refine call1 (IsKeyword_c W (by omega) _ (fun w hw => hw.2.2.1.1)) ?_
          cases hkw : kwB W with
          | true =>
            -- 8: the kind
            rw [hwW, show wordsK s p l = (8, q) by rw [hK2]; simp [hsm, hd, *]]
            (first | refine wX ?_ | exact wZ)
            refine callG (add_c xb s q line l ob cap here sp 8 W line (by omega) hob) [0, 1] rfl ⟨rfl, rfl, trivial⟩ rfl fun ⟨b1, c1⟩ _ => ?_
            (first | refine wX ?_ | exact wZ)
            exact ⟨(b1, c1), trivial, rfl, wkE_refl _, wkE_refl _, wkE_refl _, wkH_nil _⟩
          | false =>
            -- 1: the kind
            rw [hwW, show wordsK s p l = (1, q) by rw [hK2]; simp [hsm, hd, *]]
            (first | refine wX ?_ | exact wZ)
            refine callG (add_c xb s q line l ob cap here sp 1 W line (by omega) hob) [0, 1] rfl ⟨rfl, rfl, trivial⟩ rfl fun ⟨b1, c1⟩ _ => ?_
            (first | refine wX ?_ | exact wZ)
            exact ⟨(b1, c1), trivial, rfl, wkE_refl _, wkE_refl _, wkE_refl _, wkH_nil _⟩
  | false =>
    have hwl := wordS_le s p (by omega)
    (first | refine wX ?_ | exact wZ)
    refine callG (word_c xb s p line ob l.length cap here sp hs (by omega)) [0] rfl ⟨rfl, trivial⟩ rfl fun _ _ => ?_
    generalize hq : p + (wordS s p).length = q at *
    -- true: upper, wordS s p: the word
    have hwW : wordW s p = wordS s p := by unfold wordW; rw [hcp]; simp [hsm]
    have hK : wordsK s p l = if pk s q == 58 && pk s (q + 1) != 58 then (9, q + 1) else (if !sml c then 2 else if kwB (wordS s p) && !lastDot l then 8 else 1, q) := by
      unfold wordsK
      simp only [hwW, hq, hcp]
    generalize hW : wordS s p = W at *
    (first | refine wX ?_ | exact wZ)
    refine call1 (peek_c xb s q line ob l.length cap here sp 0 (by omega) (by decide) _ (fun w hw => hw.1)) ?_
    rw [Nat.add_zero]
    have hb0 : (((pk s q).toNat : Int) == 58) = (pk s q == 58) := u8_eq (n := 58) (by decide)
    have hb1 : (((pk s (q + 1)).toNat : Int) == 58) = (pk s (q + 1) == 58) := u8_eq (n := 58) (by decide)
    (first | refine wX ?_ | exact wZ)
    rw [hb0]
    cases e0 : pk s q == 58 with
    | true =>
      (first | refine wX ?_ | exact wZ)
      refine call1 (peek_c xb s q line ob l.length cap here sp 1 (by omega) (by decide) _ (fun w hw => hw.1)) ?_
      (first | refine wX ?_ | exact wZ)
      rw [bne, hb1]
      cases e1 : pk s (q + 1) == 58 with
      | true =>
        have hK2 : wordsK s p l = (if !sml c then 2 else if kwB W && !lastDot l then 8 else 1, q) := by rw [hK]; simp [bne, e1]
        -- true: upper
        rcases Nat.eq_zero_or_pos l.length with hl0 | hl0
        · have hd : lastDot l = false := by rw [List.eq_nil_of_length_eq_zero hl0]; rfl
          (first | refine wX ?_ | exact wZ)
          refine LdN.one (a := some ⟨xb, 0, none⟩) (q := 3) (.slice (at0 ob) l.length cap) rfl (fun w hw => hw.1) rfl ?_
          (first | refine wX ?_ | exact wZ)
          refine brd_dec (fun h => absurd h (by omega)) (fun _ => ?_)
          -- it is upper; false: whether a dot is ahead
          -- 2: the kind
          rw [hwW, show wordsK s p l = (2, q) by rw [hK2]; simp [hsm, hd, *]]
          (first | refine wX ?_ | exact wZ)
          refine callG (add_c xb s q line l ob cap here sp 2 W line (by omega) hob) [0, 1] rfl ⟨rfl, rfl, trivial⟩ rfl fun ⟨b1, c1⟩ _ => ?_
          (first | refine wX ?_ | exact wZ)
          exact ⟨(b1, c1), trivial, rfl, wkE_refl _, wkE_refl _, wkE_refl _, wkH_nil _⟩
        · obtain ⟨t, ht⟩ : ∃ t, l[l.length - 1]? = some t := ⟨_, List.getElem?_eq_getElem (by omega)⟩
          have hoa : (at0 ob).isSome = true := by
            cases ob with
            | none => rw [hob rfl] at hl0; simp at hl0
            | some g => rfl
          have hw1 : IntKind.i64.wrap ((l.length : Int) - 1) = ((l.length - 1 : Nat) : Int) := by rw [wrap_i64 (by omega)]; omega
          obtain ⟨tk, tt, ts, tl2, ta, tn, tc⟩ := t
          have hdt : lastDot l = (tk == 7 && (tt == [46] || tt == [38, 46])) := by
            unfold lastDot
            rw [List.getLast?_eq_getElem?, ht]
          (first | refine wX ?_ | exact wZ)
          refine LdN.one (a := some ⟨xb, 0, none⟩) (q := 3) (.slice (at0 ob) l.length cap) rfl (fun w hw => hw.1) rfl ?_
          (first | refine wX ?_ | exact wZ)
          refine brd_dec (fun _ => ?_) (fun h => absurd h (by omega))
          (first | refine wX ?_ | exact wZ)
          -- 0: the field's number, .int .i64 tk: its value
          refine LdN.one (a := some ⟨xb, 0, none⟩) (q := 3) (.slice (at0 ob) l.length cap) rfl (fun w hw => hw.1) rfl ?_
          (first | refine wX ?_ | exact wZ)
          refine LdN.one (a := some ⟨xb, 0, none⟩) (q := 3) (.slice (at0 ob) l.length cap) rfl (fun w hw => hw.1) rfl ?_
          (first | refine wX ?_ | exact wZ)
          try rw [hw1]
          refine Nd.mk ⟨hoa, by omega, by omega⟩ ?_
          (first | refine wX ?_ | exact wZ)
          refine LdN.fld (.int .i64 tk) rfl (fun w hw => hw.2.1) (by rw [Int.toNat_natCast]; exact toksC_get l _ 0 (by decide) ht) ?_
          (first | refine wX ?_ | exact wZ)
          refine brd_eq (fun e7 => ?_) (fun e7 => ?_)
          · by_cases h46 : tt = [46]
            · subst h46
              have hd : lastDot l = true := by rw [hdt]; simp [e7]
              (first | refine wX ?_ | exact wZ)
              -- 1: the field's number, .string (bs [46]): its value
              refine LdN.one (a := some ⟨xb, 0, none⟩) (q := 3) (.slice (at0 ob) l.length cap) rfl (fun w hw => hw.1) rfl ?_
              (first | refine wX ?_ | exact wZ)
              refine LdN.one (a := some ⟨xb, 0, none⟩) (q := 3) (.slice (at0 ob) l.length cap) rfl (fun w hw => hw.1) rfl ?_
              (first | refine wX ?_ | exact wZ)
              try rw [hw1]
              refine Nd.mk ⟨hoa, by omega, by omega⟩ ?_
              (first | refine wX ?_ | exact wZ)
              refine LdN.fld (.string (bs [46])) rfl (fun w hw => hw.2.1) (by rw [Int.toNat_natCast]; exact toksC_get l _ 1 (by decide) ht) ?_
              (first | refine wX ?_ | exact wZ)
              -- it is upper; true: whether a dot is ahead
              -- 2: the kind
              rw [hwW, show wordsK s p l = (2, q) by rw [hK2]; simp [hsm, hd, *]]
              (first | refine wX ?_ | exact wZ)
              refine callG (add_c xb s q line l ob cap here sp 2 W line (by omega) hob) [0, 1] rfl ⟨rfl, rfl, trivial⟩ rfl fun ⟨b1, c1⟩ _ => ?_
              (first | refine wX ?_ | exact wZ)
              exact ⟨(b1, c1), trivial, rfl, wkE_refl _, wkE_refl _, wkE_refl _, wkH_nil _⟩
            · (first | refine wX ?_ | exact wZ)
              -- 1: the field's number, .string (bs tt): its value
              refine LdN.one (a := some ⟨xb, 0, none⟩) (q := 3) (.slice (at0 ob) l.length cap) rfl (fun w hw => hw.1) rfl ?_
              (first | refine wX ?_ | exact wZ)
              refine LdN.one (a := some ⟨xb, 0, none⟩) (q := 3) (.slice (at0 ob) l.length cap) rfl (fun w hw => hw.1) rfl ?_
              (first | refine wX ?_ | exact wZ)
              try rw [hw1]
              refine Nd.mk ⟨hoa, by omega, by omega⟩ ?_
              (first | refine wX ?_ | exact wZ)
              refine LdN.fld (.string (bs tt)) rfl (fun w hw => hw.2.1) (by rw [Int.toNat_natCast]; exact toksC_get l _ 1 (by decide) ht) ?_
              (first | refine wX ?_ | exact wZ)
              refine brd_intro (fun h => absurd (eq_of_beq (show (tt == [46]) = true from h)) h46) (fun _ => ?_)
              by_cases h38 : tt = [38, 46]
              · subst h38
                have hd : lastDot l = true := by rw [hdt]; simp [e7]
                (first | refine wX ?_ | exact wZ)
                -- 1: the field's number, .string (bs [38, 46]): its value
                refine LdN.one (a := some ⟨xb, 0, none⟩) (q := 3) (.slice (at0 ob) l.length cap) rfl (fun w hw => hw.1) rfl ?_
                (first | refine wX ?_ | exact wZ)
                refine LdN.one (a := some ⟨xb, 0, none⟩) (q := 3) (.slice (at0 ob) l.length cap) rfl (fun w hw => hw.1) rfl ?_
                (first | refine wX ?_ | exact wZ)
                try rw [hw1]
                refine Nd.mk ⟨hoa, by omega, by omega⟩ ?_
                (first | refine wX ?_ | exact wZ)
                refine LdN.fld (.string (bs [38, 46])) rfl (fun w hw => hw.2.1) (by rw [Int.toNat_natCast]; exact toksC_get l _ 1 (by decide) ht) ?_
                (first | refine wX ?_ | exact wZ)
                -- it is upper; true: whether a dot is ahead
                -- 2: the kind
                rw [hwW, show wordsK s p l = (2, q) by rw [hK2]; simp [hsm, hd, *]]
                (first | refine wX ?_ | exact wZ)
                refine callG (add_c xb s q line l ob cap here sp 2 W line (by omega) hob) [0, 1] rfl ⟨rfl, rfl, trivial⟩ rfl fun ⟨b1, c1⟩ _ => ?_
                (first | refine wX ?_ | exact wZ)
                exact ⟨(b1, c1), trivial, rfl, wkE_refl _, wkE_refl _, wkE_refl _, wkH_nil _⟩
              · have hd : lastDot l = false := by rw [hdt]; simp [h46, h38]
                (first | refine wX ?_ | exact wZ)
                -- 1: the field's number, .string (bs tt): its value
                refine LdN.one (a := some ⟨xb, 0, none⟩) (q := 3) (.slice (at0 ob) l.length cap) rfl (fun w hw => hw.1) rfl ?_
                (first | refine wX ?_ | exact wZ)
                refine LdN.one (a := some ⟨xb, 0, none⟩) (q := 3) (.slice (at0 ob) l.length cap) rfl (fun w hw => hw.1) rfl ?_
                (first | refine wX ?_ | exact wZ)
                try rw [hw1]
                refine Nd.mk ⟨hoa, by omega, by omega⟩ ?_
                (first | refine wX ?_ | exact wZ)
                refine LdN.fld (.string (bs tt)) rfl (fun w hw => hw.2.1) (by rw [Int.toNat_natCast]; exact toksC_get l _ 1 (by decide) ht) ?_
                (first | refine wX ?_ | exact wZ)
                -- it is upper; sym: whether a dot is ahead
                -- 2: the kind
                rw [hwW, show wordsK s p l = (2, q) by rw [hK2]; simp [hsm, hd, *]]
                (first | refine wX ?_ | exact wZ)
                refine callG (add_c xb s q line l ob cap here sp 2 W line (by omega) hob) [0, 1] rfl ⟨rfl, rfl, trivial⟩ rfl fun ⟨b1, c1⟩ _ => ?_
                (first | refine wX ?_ | exact wZ)
                exact ⟨(b1, c1), trivial, rfl, wkE_refl _, wkE_refl _, wkE_refl _, wkH_nil _⟩
          · have hd : lastDot l = false := by rw [hdt]; simp [e7]
            -- it is upper; false: whether a dot is ahead
            -- 2: the kind
            rw [hwW, show wordsK s p l = (2, q) by rw [hK2]; simp [hsm, hd, *]]
            (first | refine wX ?_ | exact wZ)
            refine callG (add_c xb s q line l ob cap here sp 2 W line (by omega) hob) [0, 1] rfl ⟨rfl, rfl, trivial⟩ rfl fun ⟨b1, c1⟩ _ => ?_
            (first | refine wX ?_ | exact wZ)
            exact ⟨(b1, c1), trivial, rfl, wkE_refl _, wkE_refl _, wkE_refl _, wkH_nil _⟩
      | false =>
        have hK2 : wordsK s p l = (9, q + 1) := by rw [hK]; simp [bne, e0, e1]
        have hql := pk_lt (show pk s q = 58 by simpa using e0) (by decide)
        rw [hwW, hK2]
        (first | refine wX ?_ | exact wZ)
        refine LdN.one (a := some ⟨xb, 0, none⟩) (q := 1) (.int .i64 ((q : Nat) : Int)) rfl (fun w hw => hw.1) rfl ?_
        (first | refine wX ?_ | exact wZ)
        refine EffW.appTo (i := 0) (q := 1) (ys := [_]) (scC s (q + 1) line ob l.length cap here sp) 6 rfl rfl rfl rfl rfl rfl rfl (Nat.le_of_ble_eq_true rfl) (by
          show [_, Value.int .i64 _, _, _, _, _] = [_, Value.int .i64 _, _, _, _, _]
          rw [wrap_i64 (by omega)]
          rfl) rfl ?_
        (first | refine wX ?_ | exact wZ)
        refine callG (add_c xb s (q + 1) line l ob cap here sp 9 W line (by omega) hob) [0, 1] rfl ⟨rfl, rfl, trivial⟩ rfl fun ⟨b1, c1⟩ _ => ?_
        (first | refine wX ?_ | exact wZ)
        exact ⟨(b1, c1), trivial, rfl, wkE_refl _, wkE_refl _, wkE_refl _, wkH_nil _⟩
    | false =>
      have hK2 : wordsK s p l = (if !sml c then 2 else if kwB W && !lastDot l then 8 else 1, q) := by rw [hK]; simp [e0]
      -- true: upper
      rcases Nat.eq_zero_or_pos l.length with hl0 | hl0
      · have hd : lastDot l = false := by rw [List.eq_nil_of_length_eq_zero hl0]; rfl
        (first | refine wX ?_ | exact wZ)
        refine LdN.one (a := some ⟨xb, 0, none⟩) (q := 3) (.slice (at0 ob) l.length cap) rfl (fun w hw => hw.1) rfl ?_
        (first | refine wX ?_ | exact wZ)
        refine brd_dec (fun h => absurd h (by omega)) (fun _ => ?_)
        -- it is upper; false: whether a dot is ahead
        -- 2: the kind
        rw [hwW, show wordsK s p l = (2, q) by rw [hK2]; simp [hsm, hd, *]]
        (first | refine wX ?_ | exact wZ)
        refine callG (add_c xb s q line l ob cap here sp 2 W line (by omega) hob) [0, 1] rfl ⟨rfl, rfl, trivial⟩ rfl fun ⟨b1, c1⟩ _ => ?_
        (first | refine wX ?_ | exact wZ)
        exact ⟨(b1, c1), trivial, rfl, wkE_refl _, wkE_refl _, wkE_refl _, wkH_nil _⟩
      · obtain ⟨t, ht⟩ : ∃ t, l[l.length - 1]? = some t := ⟨_, List.getElem?_eq_getElem (by omega)⟩
        have hoa : (at0 ob).isSome = true := by
          cases ob with
          | none => rw [hob rfl] at hl0; simp at hl0
          | some g => rfl
        have hw1 : IntKind.i64.wrap ((l.length : Int) - 1) = ((l.length - 1 : Nat) : Int) := by rw [wrap_i64 (by omega)]; omega
        obtain ⟨tk, tt, ts, tl2, ta, tn, tc⟩ := t
        have hdt : lastDot l = (tk == 7 && (tt == [46] || tt == [38, 46])) := by
          unfold lastDot
          rw [List.getLast?_eq_getElem?, ht]
        (first | refine wX ?_ | exact wZ)
        refine LdN.one (a := some ⟨xb, 0, none⟩) (q := 3) (.slice (at0 ob) l.length cap) rfl (fun w hw => hw.1) rfl ?_
        (first | refine wX ?_ | exact wZ)
        refine brd_dec (fun _ => ?_) (fun h => absurd h (by omega))
        (first | refine wX ?_ | exact wZ)
        -- 0: the field's number, .int .i64 tk: its value
        refine LdN.one (a := some ⟨xb, 0, none⟩) (q := 3) (.slice (at0 ob) l.length cap) rfl (fun w hw => hw.1) rfl ?_
        (first | refine wX ?_ | exact wZ)
        refine LdN.one (a := some ⟨xb, 0, none⟩) (q := 3) (.slice (at0 ob) l.length cap) rfl (fun w hw => hw.1) rfl ?_
        (first | refine wX ?_ | exact wZ)
        try rw [hw1]
        refine Nd.mk ⟨hoa, by omega, by omega⟩ ?_
        (first | refine wX ?_ | exact wZ)
        refine LdN.fld (.int .i64 tk) rfl (fun w hw => hw.2.1) (by rw [Int.toNat_natCast]; exact toksC_get l _ 0 (by decide) ht) ?_
        (first | refine wX ?_ | exact wZ)
        refine brd_eq (fun e7 => ?_) (fun e7 => ?_)
        · by_cases h46 : tt = [46]
          · subst h46
            have hd : lastDot l = true := by rw [hdt]; simp [e7]
            (first | refine wX ?_ | exact wZ)
            -- 1: the field's number, .string (bs [46]): its value
            refine LdN.one (a := some ⟨xb, 0, none⟩) (q := 3) (.slice (at0 ob) l.length cap) rfl (fun w hw => hw.1) rfl ?_
            (first | refine wX ?_ | exact wZ)
            refine LdN.one (a := some ⟨xb, 0, none⟩) (q := 3) (.slice (at0 ob) l.length cap) rfl (fun w hw => hw.1) rfl ?_
            (first | refine wX ?_ | exact wZ)
            try rw [hw1]
            refine Nd.mk ⟨hoa, by omega, by omega⟩ ?_
            (first | refine wX ?_ | exact wZ)
            refine LdN.fld (.string (bs [46])) rfl (fun w hw => hw.2.1) (by rw [Int.toNat_natCast]; exact toksC_get l _ 1 (by decide) ht) ?_
            (first | refine wX ?_ | exact wZ)
            -- it is upper; true: whether a dot is ahead
            -- 2: the kind
            rw [hwW, show wordsK s p l = (2, q) by rw [hK2]; simp [hsm, hd, *]]
            (first | refine wX ?_ | exact wZ)
            refine callG (add_c xb s q line l ob cap here sp 2 W line (by omega) hob) [0, 1] rfl ⟨rfl, rfl, trivial⟩ rfl fun ⟨b1, c1⟩ _ => ?_
            (first | refine wX ?_ | exact wZ)
            exact ⟨(b1, c1), trivial, rfl, wkE_refl _, wkE_refl _, wkE_refl _, wkH_nil _⟩
          · (first | refine wX ?_ | exact wZ)
            -- 1: the field's number, .string (bs tt): its value
            refine LdN.one (a := some ⟨xb, 0, none⟩) (q := 3) (.slice (at0 ob) l.length cap) rfl (fun w hw => hw.1) rfl ?_
            (first | refine wX ?_ | exact wZ)
            refine LdN.one (a := some ⟨xb, 0, none⟩) (q := 3) (.slice (at0 ob) l.length cap) rfl (fun w hw => hw.1) rfl ?_
            (first | refine wX ?_ | exact wZ)
            try rw [hw1]
            refine Nd.mk ⟨hoa, by omega, by omega⟩ ?_
            (first | refine wX ?_ | exact wZ)
            refine LdN.fld (.string (bs tt)) rfl (fun w hw => hw.2.1) (by rw [Int.toNat_natCast]; exact toksC_get l _ 1 (by decide) ht) ?_
            (first | refine wX ?_ | exact wZ)
            refine brd_intro (fun h => absurd (eq_of_beq (show (tt == [46]) = true from h)) h46) (fun _ => ?_)
            by_cases h38 : tt = [38, 46]
            · subst h38
              have hd : lastDot l = true := by rw [hdt]; simp [e7]
              (first | refine wX ?_ | exact wZ)
              -- 1: the field's number, .string (bs [38, 46]): its value
              refine LdN.one (a := some ⟨xb, 0, none⟩) (q := 3) (.slice (at0 ob) l.length cap) rfl (fun w hw => hw.1) rfl ?_
              (first | refine wX ?_ | exact wZ)
              refine LdN.one (a := some ⟨xb, 0, none⟩) (q := 3) (.slice (at0 ob) l.length cap) rfl (fun w hw => hw.1) rfl ?_
              (first | refine wX ?_ | exact wZ)
              try rw [hw1]
              refine Nd.mk ⟨hoa, by omega, by omega⟩ ?_
              (first | refine wX ?_ | exact wZ)
              refine LdN.fld (.string (bs [38, 46])) rfl (fun w hw => hw.2.1) (by rw [Int.toNat_natCast]; exact toksC_get l _ 1 (by decide) ht) ?_
              (first | refine wX ?_ | exact wZ)
              -- it is upper; true: whether a dot is ahead
              -- 2: the kind
              rw [hwW, show wordsK s p l = (2, q) by rw [hK2]; simp [hsm, hd, *]]
              (first | refine wX ?_ | exact wZ)
              refine callG (add_c xb s q line l ob cap here sp 2 W line (by omega) hob) [0, 1] rfl ⟨rfl, rfl, trivial⟩ rfl fun ⟨b1, c1⟩ _ => ?_
              (first | refine wX ?_ | exact wZ)
              exact ⟨(b1, c1), trivial, rfl, wkE_refl _, wkE_refl _, wkE_refl _, wkH_nil _⟩
            · have hd : lastDot l = false := by rw [hdt]; simp [h46, h38]
              (first | refine wX ?_ | exact wZ)
              -- 1: the field's number, .string (bs tt): its value
              refine LdN.one (a := some ⟨xb, 0, none⟩) (q := 3) (.slice (at0 ob) l.length cap) rfl (fun w hw => hw.1) rfl ?_
              (first | refine wX ?_ | exact wZ)
              refine LdN.one (a := some ⟨xb, 0, none⟩) (q := 3) (.slice (at0 ob) l.length cap) rfl (fun w hw => hw.1) rfl ?_
              (first | refine wX ?_ | exact wZ)
              try rw [hw1]
              refine Nd.mk ⟨hoa, by omega, by omega⟩ ?_
              (first | refine wX ?_ | exact wZ)
              refine LdN.fld (.string (bs tt)) rfl (fun w hw => hw.2.1) (by rw [Int.toNat_natCast]; exact toksC_get l _ 1 (by decide) ht) ?_
              (first | refine wX ?_ | exact wZ)
              -- it is upper; sym: whether a dot is ahead
              -- 2: the kind
              rw [hwW, show wordsK s p l = (2, q) by rw [hK2]; simp [hsm, hd, *]]
              (first | refine wX ?_ | exact wZ)
              refine callG (add_c xb s q line l ob cap here sp 2 W line (by omega) hob) [0, 1] rfl ⟨rfl, rfl, trivial⟩ rfl fun ⟨b1, c1⟩ _ => ?_
              (first | refine wX ?_ | exact wZ)
              exact ⟨(b1, c1), trivial, rfl, wkE_refl _, wkE_refl _, wkE_refl _, wkH_nil _⟩
        · have hd : lastDot l = false := by rw [hdt]; simp [e7]
          -- it is upper; false: whether a dot is ahead
          -- 2: the kind
          rw [hwW, show wordsK s p l = (2, q) by rw [hK2]; simp [hsm, hd, *]]
          (first | refine wX ?_ | exact wZ)
          refine callG (add_c xb s q line l ob cap here sp 2 W line (by omega) hob) [0, 1] rfl ⟨rfl, rfl, trivial⟩ rfl fun ⟨b1, c1⟩ _ => ?_
          (first | refine wX ?_ | exact wZ)
          exact ⟨(b1, c1), trivial, rfl, wkE_refl _, wkE_refl _, wkE_refl _, wkH_nil _⟩
end Go.Proofs.YteejemdibfbccaaDoor

/-
  Contract: signs (program).
-/
namespace Go.Proofs.YteejemdibfbccaaDoor
open Go.AX Go.RowKit Go.Scan
set_option maxRecDepth 20000

theorem Fields_c (s : List UInt8) (hs : s.length < 4294967281) (ha : ∀ c ∈ s, c.toNat < 128) : SpecF Tryd.prog 53 [.string (bs s)] ScanF fun v G => ∃ b, v = .slice (some ⟨b, 0, none⟩) (Lib.fields s).length (Lib.fields s).length ∧ ∀ w, G w → SlAt (some ⟨b, 0, none⟩) (Lib.fields s).length ((Lib.fields s).map fun l => Value.string (bs l)) w :=
  specF_new (T := 9) (callOk Tryd.func53 (by kernel_rfl) rfl) (by simp) fun w hw => (Tryd.strings_Fields (bs s) w (by rw [bs_size]; exact hs) (fun j b hj => ha b (List.mem_of_getElem? hj)) hw.2).mono fun e w' ⟨he, hw'⟩ => ⟨he, hw'⟩
def bestF (rest : List UInt8) (b f : List UInt8) : List UInt8 := if f.isPrefixOf rest && decide (b.length < f.length) then f else b
def bestS (rest : List UInt8) (fs : List (List UInt8)) : List UInt8 := fs.foldl (bestF rest) []
theorem bestS_snoc (rest : List UInt8) (fs : List (List UInt8)) (f : List UInt8) : bestS rest (fs ++ [f]) = bestF rest (bestS rest fs) f := by simp [bestS]

set_option maxHeartbeats 2000000 in
theorem signs_c (xb : Nat) (s : List UInt8) (p line : Nat) (l : List Tok) (ob : Option Nat) (cap here : Nat) (sp : Bool) (best : List UInt8) (hbest : bestS (s.drop p) (Lib.fields sgs) = best) (hne : best ≠ []) (hl : l.length ≤ 900000) (hob : ob = none → l = []) (hs : s.length ≤ 1000000) (hp : p ≤ s.length) (hbl : best.length ≤ 1000) :
    SpecH Tryd.prog 49 [.c (.v (.pointer (some ⟨xb, 0, none⟩)))] [scE xb s p line ob l.length cap here sp, toE l ob cap, .fact ScanF]
      (RetG (ι := Nat × Nat) (fun _ => True) (fun _ => .tuple #[]) fun ⟨b, c⟩ => [scE xb s (p + best.length) line (some b) (l.length + 1) c here false, toE (l ++ [⟨7, best, sp, line, none, 0, 0⟩]) (some b) c, .fact ScanF]) := by
  refine ownC hm Tryd.func49 (by kernel_rfl) rfl rfl (fun _ _ => okHB_eq rfl) (fun _ _ => Nat.le_refl _) ?_
  have hz := bs_size s
  (first | refine wX ?_ | exact wZ)
  refine SpecF.call (Fields_c sgs (by decide) (by decide +kernel)) (fun w hw => hw.1) fun v G hR => ?_
  obtain ⟨fb, rfl, hG⟩ := hR
  have hfn : (Lib.fields sgs).length ≤ 100 := by decide +kernel
  generalize Lib.fields sgs = fs at *
  (first | refine wX ?_ | exact wZ)
  refine loopS Nat (fun i => i ≤ fs.length) (fun i => mkS Tryd.f49.ntmps 0 [(0, .c (.v (.pointer (some ⟨xb, 0, none⟩)))), (2, .c (.v (.string (bs (bestS (s.drop p) (fs.take i)))))), (5, .c (.v (.slice (some ⟨fb, 0, none⟩) fs.length fs.length))), (6, .c (.v (.int .i64 (fs.length : Int)))), (7, .c (.v (.int .i64 (i : Int))))]) (fun i => fs.length - i) rfl (fun _ => rfl) 0 (Nat.zero_le _) ?_ ?_
  · (repeat' (first | exact trivial | refine And.intro (by with_reducible rfl) ?_ | (with_reducible exact wkC_refl _) | (with_reducible exact wkCs_refl _) | refine And.intro ?_ ?_))
    all_goals rfl
  intro i hi
  (first | refine wX ?_ | exact wZ)
  refine brd_dec (fun h1 => ?_) (fun h1 => ?_)
  · obtain ⟨f, hf⟩ : ∃ f, fs[i]? = some f := ⟨_, List.getElem?_eq_getElem (by omega)⟩
    (first | refine wX ?_ | exact wZ)
    try refine Nd.mk ⟨rfl, by omega, by omega⟩ ?_
    (first | refine wX ?_ | exact wZ)
    refine LdN.one (.string (bs f)) rfl (fun w hw => hG w hw.2.2.2.1) (by show (fs.map _)[Int.toNat _ * 1]? = _; rw [Int.toNat_natCast, Nat.mul_one, List.getElem?_map, hf]; rfl) ?_
    (first | refine wX ?_ | exact wZ)
    have hsn : bestS (s.drop p) (fs.take (i + 1)) = bestF (s.drop p) (bestS (s.drop p) (fs.take i)) f := by rw [List.take_add_one, hf]; exact bestS_snoc _ _ _
    have hbz := bs_size (bestS (s.drop p) (fs.take i))
    have hfz := bs_size f
    generalize bestS (s.drop p) (fs.take i) = bst at *
    refine LdN.one (a := some ⟨xb, 0, none⟩) (q := 0) (.string (bs s)) rfl (fun w hw => hw.1) rfl ?_
    (first | refine wX ?_ | exact wZ)
    refine LdN.one (a := some ⟨xb, 0, none⟩) (q := 1) (.int .i64 ((p : Nat) : Int)) rfl (fun w hw => hw.1) rfl ?_
    (first | refine wX ?_ | exact wZ)
    refine ReadW.sl_l p rfl Tryd.underlying9 rfl rfl ⟨rfl, hp⟩ ?_
    (first | refine wX ?_ | exact wZ)
    refine callQ (HasPrefix_c (s.drop p) f _) ?_
    cases hpf : f.isPrefixOf (s.drop p) with
    | false =>
      have hs2 : bestF (s.drop p) bst f = bst := by unfold bestF; rw [hpf]; rfl
      (first | refine wX ?_ | exact wZ)
      refine ⟨i + 1, by omega, by omega, ?_, by (repeat' (first | exact trivial | exact wkE_refl _ | refine And.intro ?_ ?_))⟩
      rw [hsn, hs2]
      (repeat' (first | exact trivial | refine And.intro (by with_reducible rfl) ?_ | (with_reducible exact wkC_refl _) | (with_reducible exact wkCs_refl _) | refine And.intro ?_ ?_))
      all_goals first | rfl | exact av_int (by rw [wrap_i64 (by omega)]; omega)
    | true =>
      (first | refine wX ?_ | exact wZ)
      rw [hbz, hfz]
      refine brd_dec (fun h2 => ?_) (fun h2 => ?_)
      · have hs2 : bestF (s.drop p) bst f = f := by unfold bestF; rw [hpf, decide_eq_true (by omega)]; rfl
        (first | refine wX ?_ | exact wZ)
        refine ⟨i + 1, by omega, by omega, ?_, by (repeat' (first | exact trivial | exact wkE_refl _ | refine And.intro ?_ ?_))⟩
        rw [hsn, hs2]
        (repeat' (first | exact trivial | refine And.intro (by with_reducible rfl) ?_ | (with_reducible exact wkC_refl _) | (with_reducible exact wkCs_refl _) | refine And.intro ?_ ?_))
        all_goals first | rfl | exact av_int (by rw [wrap_i64 (by omega)]; omega)
      · have hs2 : bestF (s.drop p) bst f = bst := by unfold bestF; rw [hpf, decide_eq_false (by omega)]; rfl
        (first | refine wX ?_ | exact wZ)
        refine ⟨i + 1, by omega, by omega, ?_, by (repeat' (first | exact trivial | exact wkE_refl _ | refine And.intro ?_ ?_))⟩
        rw [hsn, hs2]
        (repeat' (first | exact trivial | refine And.intro (by with_reducible rfl) ?_ | (with_reducible exact wkC_refl _) | (with_reducible exact wkCs_refl _) | refine And.intro ?_ ?_))
        all_goals first | rfl | exact av_int (by rw [wrap_i64 (by omega)]; omega)
  · have hie : i = fs.length := by omega
    subst hie
    rw [List.take_length, hbest]
    have hbz := bs_size best
    obtain ⟨c0, r0, hcr⟩ : ∃ c0 r0, best = c0 :: r0 := by
      cases best with
      | nil => exact absurd rfl hne
      | cons c r => exact ⟨c, r, rfl⟩
    subst hcr
    (first | refine wX ?_ | exact wZ)
    refine LdN.one (a := some ⟨xb, 0, none⟩) (q := 1) (.int .i64 ((p : Nat) : Int)) rfl (fun w hw => hw.1) rfl ?_
    (first | refine wX ?_ | exact wZ)
    refine EffW.appTo (i := 0) (q := 1) (ys := [_]) (scC s (p + (c0 :: r0).length) line ob l.length cap here sp) 6 rfl rfl rfl rfl rfl rfl rfl (Nat.le_of_ble_eq_true rfl) (by
      show [_, Value.int .i64 _, _, _, _, _] = [_, Value.int .i64 _, _, _, _, _]
      rw [hbz, wrap_i64 (by omega)]
      rfl) rfl ?_
    (first | refine wX ?_ | exact wZ)
    refine LdN.one (a := some ⟨xb, 0, none⟩) (q := 2) (.int .i64 ((line : Nat) : Int)) rfl (fun w hw => hw.1) rfl ?_
    (first | refine wX ?_ | exact wZ)
    refine callG (add_c xb s (p + (c0 :: r0).length) line l ob cap here sp 7 (c0 :: r0) line (by omega) hob) [0, 1] rfl ⟨rfl, rfl, trivial⟩ rfl fun ⟨b1, c1⟩ _ => ?_
    (first | refine wX ?_ | exact wZ)
    exact ⟨(b1, c1), trivial, rfl, wkE_refl _, wkE_refl _, wkE_refl _, wkH_nil _⟩
end Go.Proofs.YteejemdibfbccaaDoor

/-
  Contracts: what stands at the present place: a letter, a dot, a blank (program).
-/
namespace Go.Proofs.YteejemdibfbccaaDoor
open Go.AX Go.RowKit Go.Scan
set_option maxRecDepth 20000

set_option maxHeartbeats 1000000 in
theorem next_letter (xb : Nat) (s : List UInt8) (p line : Nat) (l : List Tok) (ob : Option Nat) (cap here : Nat) (sp : Bool) {c : UInt8} (hc : s[p]? = some c) (hlt : ltr c = true) (hl : l.length ≤ 900000) (hob : ob = none → l = []) (hs : s.length ≤ 1000000) :
    SpecH Tryd.prog 24 [.c (.v (.pointer (some ⟨xb, 0, none⟩)))] [scE xb s p line ob l.length cap here sp, toE l ob cap, .fact ScanF]
      (RetG (ι := Nat × Nat) (fun _ => True) (fun _ => .tuple #[]) fun ⟨b, c⟩ => [scE xb s (wordsK s p l).2 line (some b) (l.length + 1) c here false, toE (l ++ [⟨(wordsK s p l).1, wordW s p, sp, line, none, 0, 0⟩]) (some b) c, .fact ScanF]) := by
  have hbl : blk c = false := by
    simp [ltr, sml, grt] at hlt
    simp [blk]
    omega
  have hn : 65 ≤ c.toNat := by
    simp [ltr, sml, grt] at hlt
    omega
  refine ownC hm Tryd.func24 (by kernel_rfl) rfl rfl (fun _ _ => okHB_eq rfl) (fun _ _ => Nat.le_refl _) ?_
  have hz := bs_size s
  have hp : p < s.length := (List.getElem?_eq_some_iff.1 hc).1
  (first | refine wX ?_ | exact wZ)
  refine LdN.one (a := some ⟨xb, 0, none⟩) (q := 0) (.string (bs s)) rfl (fun w hw => hw.1) rfl ?_
  (first | refine wX ?_ | exact wZ)
  refine LdN.one (a := some ⟨xb, 0, none⟩) (q := 1) (.int .i64 ((p : Nat) : Int)) rfl (fun w hw => hw.1) rfl ?_
  (first | refine wX ?_ | exact wZ)
  rw [Int.toNat_natCast, byteAt_get hc]
  (first | refine wX ?_ | exact wZ)
  refine call1 (blk_c c _) ?_
  rw [hbl]
  (first | refine wX ?_ | exact wZ)
  refine brd_eq (fun h => absurd h (by omega)) (fun _ => ?_)
  (first | refine wX ?_ | exact wZ)
  refine brd_eq (fun h => absurd h (by omega)) (fun _ => ?_)
  (first | refine wX ?_ | exact wZ)
  refine brd_eq (fun h => absurd h (by omega)) (fun _ => ?_)
  (first | refine wX ?_ | exact wZ)
  refine call1 (ltr_c c _) ?_
  rw [hlt]
  (first | refine wX ?_ | exact wZ)
  refine callG (words_c xb s p line l ob cap here sp hl hob hs hp) [0, 1, 2] rfl ⟨rfl, rfl, rfl, trivial⟩ rfl fun ⟨b1, c1⟩ _ => ?_
  (first | refine wX ?_ | exact wZ)
  exact ⟨(b1, c1), trivial, rfl, wkE_refl _, wkE_refl _, wkE_refl _, wkH_nil _⟩
theorem next_blank (xb : Nat) (s : List UInt8) (p line : Nat) (ob : Option Nat) (n cap here : Nat) (sp : Bool) {c : UInt8} (hc : s[p]? = some c) (hbl : blk c = true) (hs : s.length ≤ 1000000) :
    SpecH Tryd.prog 24 [.c (.v (.pointer (some ⟨xb, 0, none⟩)))] [scE xb s p line ob n cap here sp]
      (RetG (ι := Unit) (fun _ => True) (fun _ => .tuple #[]) fun _ => [scE xb s (p + 1) line ob n cap here true]) := by
  refine ownC hm Tryd.func24 (by kernel_rfl) rfl rfl (fun _ _ => okHB_eq rfl) (fun _ _ => Nat.le_refl _) ?_
  have hz := bs_size s
  have hp : p < s.length := (List.getElem?_eq_some_iff.1 hc).1
  (first | refine wX ?_ | exact wZ)
  refine LdN.one (a := some ⟨xb, 0, none⟩) (q := 0) (.string (bs s)) rfl (fun w hw => hw.1) rfl ?_
  (first | refine wX ?_ | exact wZ)
  refine LdN.one (a := some ⟨xb, 0, none⟩) (q := 1) (.int .i64 ((p : Nat) : Int)) rfl (fun w hw => hw.1) rfl ?_
  (first | refine wX ?_ | exact wZ)
  rw [Int.toNat_natCast, byteAt_get hc]
  (first | refine wX ?_ | exact wZ)
  refine call1 (blk_c c _) ?_
  rw [hbl]
  (first | refine wX ?_ | exact wZ)
  refine LdN.one (a := some ⟨xb, 0, none⟩) (q := 1) (.int .i64 ((p : Nat) : Int)) rfl (fun w hw => hw.1) rfl ?_
  (first | refine wX ?_ | exact wZ)
  refine EffW.appTo (i := 0) (q := 1) (ys := [_]) (scC s (p + 1) line ob n cap here sp) 6 rfl rfl rfl rfl rfl rfl rfl (Nat.le_of_ble_eq_true rfl) (by
    show [_, Value.int .i64 _, _, _, _, _] = [_, Value.int .i64 _, _, _, _, _]
    rw [wrap_i64 (by omega)]
    rfl) rfl ?_
  (first | refine wX ?_ | exact wZ)
  refine EffW.appTo (i := 0) (q := 5) (ys := [_]) (scC s (p + 1) line ob n cap here true) 6 rfl rfl rfl rfl rfl rfl rfl (Nat.le_of_ble_eq_true rfl) rfl rfl ?_
  (first | refine wX ?_ | exact wZ)
  exact ⟨(), trivial, rfl, wkE_refl _, wkH_nil _⟩
theorem next_dot (xb : Nat) (s : List UInt8) (p line : Nat) (l : List Tok) (ob : Option Nat) (cap here : Nat) (sp : Bool) (hc : s[p]? = some 46) (best : List UInt8) (hbest : bestS (s.drop p) (Lib.fields sgs) = best) (hne : best ≠ []) (hl : l.length ≤ 900000) (hob : ob = none → l = []) (hs : s.length ≤ 1000000) (hbl : best.length ≤ 1000) :
    SpecH Tryd.prog 24 [.c (.v (.pointer (some ⟨xb, 0, none⟩)))] [scE xb s p line ob l.length cap here sp, toE l ob cap, .fact ScanF]
      (RetG (ι := Nat × Nat) (fun _ => True) (fun _ => .tuple #[]) fun ⟨b, c⟩ => [scE xb s (p + best.length) line (some b) (l.length + 1) c here false, toE (l ++ [⟨7, best, sp, line, none, 0, 0⟩]) (some b) c, .fact ScanF]) := by
  refine ownC hm Tryd.func24 (by kernel_rfl) rfl rfl (fun _ _ => okHB_eq rfl) (fun _ _ => Nat.le_refl _) ?_
  have hz := bs_size s
  have hp : p < s.length := (List.getElem?_eq_some_iff.1 hc).1
  (first | refine wX ?_ | exact wZ)
  refine LdN.one (a := some ⟨xb, 0, none⟩) (q := 0) (.string (bs s)) rfl (fun w hw => hw.1) rfl ?_
  (first | refine wX ?_ | exact wZ)
  refine LdN.one (a := some ⟨xb, 0, none⟩) (q := 1) (.int .i64 ((p : Nat) : Int)) rfl (fun w hw => hw.1) rfl ?_
  (first | refine wX ?_ | exact wZ)
  rw [Int.toNat_natCast, byteAt_get hc]
  (first | refine wX ?_ | exact wZ)
  refine call1 (blk_c 46 _) ?_
  (first | refine wX ?_ | exact wZ)
  refine call1 (ltr_c 46 _) ?_
  (first | refine wX ?_ | exact wZ)
  refine call1 (dig_c 46 _) ?_
  (first | refine wX ?_ | exact wZ)
  refine callG (signs_c xb s p line l ob cap here sp best hbest hne hl hob hs (by omega) hbl) [0, 1, 2] rfl ⟨rfl, rfl, rfl, trivial⟩ rfl fun ⟨b1, c1⟩ _ => ?_
  (first | refine wX ?_ | exact wZ)
  exact ⟨(b1, c1), trivial, rfl, wkE_refl _, wkE_refl _, wkE_refl _, wkH_nil _⟩
end Go.Proofs.YteejemdibfbccaaDoor

/-
  Contract: Scan of the chapter's example (program).
-/
namespace Go.Proofs.YteejemdibfbccaaDoor
open Go.AX Go.RowKit Go.Scan
set_option maxRecDepth 20000

/-- a.b c? -/
def exS : List UInt8 := [97, 46, 98, 32, 99, 63]
def exT : List Tok := [⟨1, [97], false, 1, none, 0, 0⟩, ⟨7, [46], false, 1, none, 0, 0⟩, ⟨1, [98], false, 1, none, 0, 0⟩, ⟨1, [99, 63], true, 1, none, 0, 0⟩]
def ExR (v : Value) (G : World → Prop) : Prop := ∃ (b cap : Nat), v = .tuple #[.slice (some ⟨b, 0, none⟩) 4 cap, .int .i64 0, .int .i64 0] ∧ ∀ w, G w → SlAt (some ⟨b, 0, none⟩) 20 (toksC exT) w
def capsOf (t : Array Value) : Array Value := #[t[2]?.getD undef, t[3]?.getD undef, t[4]?.getD undef]
theorem hD_c (id T1 : Nat) (p1 p2 : String) (g1 g2 : _) (t : Array Value) (w : World) (Q : Exit → Act → World → Prop) (ht : 12 < t.size) (h : Q .normal { tmps := t.setIfInBounds 12 (.func (.func 23) #[] (capsOf t)), defers := [⟨.fn (.func 23) (capsOf t), #[]⟩] } w) :
    (Code.region id #[{ dst := some 12, op := .makeFunc (.func 23) #[] #[.tmp 2, .tmp 3, .tmp 4], type := T1, pos := p1, after := g1, guard := none }, { dst := none, op := .defer { callee := .value (.tmp 12), args := #[], argTypes := #[] }, type := 0, pos := p2, after := g2, guard := none }] false).wp Tryd.prog Q { tmps := t, defers := [] } w := by
  refine wp_region_list ?_
  simp [wpList, go_sem, ht]
  exact .inl (.inl h)
def posJ : Nat → Nat | 0 => 0 | 1 => 1 | 2 => 2 | 3 => 3 | 4 => 4 | _ => 6
def tokJ : Nat → List Tok | 0 => [] | 1 => exT.take 1 | 2 => exT.take 2 | 3 => exT.take 3 | 4 => exT.take 3 | _ => exT
def spJ : Nat → Bool | 4 => true | _ => false
theorem ScanEx_c : SpecF Tryd.prog 11 [.string (bs exS)] ScanF ExR := by
  refine specF_of (spec_of_defer (g := 23) (d := 12) (cp := capsOf) hm Tryd.func11 (by kernel_rfl) rfl (fun t w Q ht h => hD_c _ _ _ _ _ _ t w Q ht h) (fun t w => by simp [go_sem, capsOf]) (fun t w => quiet_c _ _ _ w) rfl ?_)
  (conv => whnf)
  refine BoxN.own ?_
  (conv => whnf)
  refine BoxN.own ?_
  (conv => whnf)
  refine BoxN.own ?_
  ((conv => whnf); (repeat ((first | refine RwN.own ?_ | refine VrN.norm (wrap_i64 (by omega)) ?_ | refine VrN.keep ?_ | refine DrawN.calm (by decide +kernel) ?_ | refine Nd.mk (by decide +kernel) ?_ | refine Nd.mk (by omega) ?_ | (refine Nd.mk ?_ ?_; focus ((repeat' (first | exact trivial | exact wkE_refl _ | refine And.intro ?_ ?_)); done)) | refine RdN.intro _ rfl (by rfl) ?_); (conv => whnf))))
  refine BoxN.known [.string (bs exS), .int .i64 0, .int .i64 1, .slice none 0 0, .int .i64 0, .bool false] rfl fun xb => ?_
  (first | refine wX ?_ | exact wZ)
  refine ⟨rfl, ?_⟩
  (first | refine wX ?_ | exact wZ)
  refine LoopN.intro (Nat × Option Nat × Nat) (fun ⟨j, ob, cap⟩ => j ≤ 5 ∧ (ob = none → j = 0)) (fun ⟨_, _, _⟩ => mkS Tryd.f11.ntmps 0 [(2, .c (.lp 1 0)), (3, .c (.lp 2 0)), (4, .c (.lp 3 0)), (5, .c (.v (.pointer (some ⟨xb, 0, none⟩))))])
    (fun ⟨j, ob, cap⟩ => [.fact ScanF, .blk 24 (cellsV (.slice none 0 0)), .blk 3 (cellsV (.int .i64 0)), .blk 25 (cellsV (.int .i64 0)), scE xb exS (posJ j) 1 ob (tokJ j).length cap 0 (spJ j), toE (tokJ j) ob cap]) (fun ⟨j, _, _⟩ => 5 - j) [.app 0 0 [] none 0 0] rfl (fun _ => rfl) (fun _ => rfl) (fun _ _ => okHB_eq rfl) ⟨(0, none, 0), ⟨Nat.zero_le _, fun _ => rfl⟩, ?_, ⟨wkE_refl _, wkE_refl _, wkE_refl _, wkE_refl _, wkE_refl _, wkE_nil, wkH_nil _⟩⟩ ?_
  · (repeat' (first | exact trivial | refine And.intro (by with_reducible rfl) ?_ | (with_reducible exact wkC_refl _) | (with_reducible exact wkCs_refl _) | refine And.intro ?_ ?_))
    all_goals rfl
  rintro ⟨j, ob, cap⟩ ⟨hj, hob⟩
  have hall : j = 0 ∨ j = 1 ∨ j = 2 ∨ j = 3 ∨ j = 4 ∨ j = 5 := by omega
  rcases hall with rfl | rfl | rfl | rfl | rfl | rfl
  · (first | refine wX ?_ | exact wZ)
    refine LdN.one (a := some ⟨xb, 0, none⟩) (q := 1) (.int .i64 ((posJ 0 : Nat) : Int)) rfl (fun w hw => hw.2.1) rfl ?_
    (first | refine wX ?_ | exact wZ)
    refine LdN.one (a := some ⟨xb, 0, none⟩) (q := 0) (.string (bs exS)) rfl (fun w hw => hw.2.1) rfl ?_
    (first | refine wX ?_ | exact wZ)
    refine callG (next_letter xb exS 0 1 [] ob cap 0 false (c := 97) rfl (by decide) (by decide) (fun _ => rfl) (by decide)) [4, 5, 0] rfl ⟨rfl, rfl, rfl, trivial⟩ rfl fun ⟨b1, c1⟩ _ => ?_
    rw [show wordsK exS 0 [] = (1, 1) by decide +kernel, show wordW exS 0 = [97] by decide +kernel]
    (first | refine wX ?_ | exact wZ)
    refine ⟨(1, some b1, c1), ⟨by omega, fun h => by cases h⟩, Nat.le_of_ble_eq_true rfl, ?_, ⟨wkE_refl _, wkE_refl _, wkE_refl _, wkE_refl _, wkE_refl _, wkE_refl _, wkH_nil _⟩⟩
    (repeat' (first | exact trivial | refine And.intro (by with_reducible rfl) ?_ | (with_reducible exact wkC_refl _) | (with_reducible exact wkCs_refl _) | refine And.intro ?_ ?_))
    all_goals rfl
  · (first | refine wX ?_ | exact wZ)
    refine LdN.one (a := some ⟨xb, 0, none⟩) (q := 1) (.int .i64 ((posJ 1 : Nat) : Int)) rfl (fun w hw => hw.2.1) rfl ?_
    (first | refine wX ?_ | exact wZ)
    refine LdN.one (a := some ⟨xb, 0, none⟩) (q := 0) (.string (bs exS)) rfl (fun w hw => hw.2.1) rfl ?_
    (first | refine wX ?_ | exact wZ)
    refine callG (next_dot xb exS 1 1 (tokJ 1) ob cap 0 false rfl [46] (by decide +kernel) (by decide) (by decide) (fun h => absurd (hob h) (by decide)) (by decide) (by decide)) [4, 5, 0] rfl ⟨rfl, rfl, rfl, trivial⟩ rfl fun ⟨b1, c1⟩ _ => ?_
    (first | refine wX ?_ | exact wZ)
    refine ⟨(2, some b1, c1), ⟨by omega, fun h => by cases h⟩, Nat.le_of_ble_eq_true rfl, ?_, ⟨wkE_refl _, wkE_refl _, wkE_refl _, wkE_refl _, wkE_refl _, wkE_refl _, wkH_nil _⟩⟩
    (repeat' (first | exact trivial | refine And.intro (by with_reducible rfl) ?_ | (with_reducible exact wkC_refl _) | (with_reducible exact wkCs_refl _) | refine And.intro ?_ ?_))
    all_goals rfl
  · (first | refine wX ?_ | exact wZ)
    refine LdN.one (a := some ⟨xb, 0, none⟩) (q := 1) (.int .i64 ((posJ 2 : Nat) : Int)) rfl (fun w hw => hw.2.1) rfl ?_
    (first | refine wX ?_ | exact wZ)
    refine LdN.one (a := some ⟨xb, 0, none⟩) (q := 0) (.string (bs exS)) rfl (fun w hw => hw.2.1) rfl ?_
    (first | refine wX ?_ | exact wZ)
    refine callG (next_letter xb exS 2 1 (tokJ 2) ob cap 0 false (c := 98) rfl (by decide) (by decide) (fun h => absurd (hob h) (by decide)) (by decide)) [4, 5, 0] rfl ⟨rfl, rfl, rfl, trivial⟩ rfl fun ⟨b1, c1⟩ _ => ?_
    rw [show wordsK exS 2 (tokJ 2) = (1, 3) by decide +kernel, show wordW exS 2 = [98] by decide +kernel]
    (first | refine wX ?_ | exact wZ)
    refine ⟨(3, some b1, c1), ⟨by omega, fun h => by cases h⟩, Nat.le_of_ble_eq_true rfl, ?_, ⟨wkE_refl _, wkE_refl _, wkE_refl _, wkE_refl _, wkE_refl _, wkE_refl _, wkH_nil _⟩⟩
    (repeat' (first | exact trivial | refine And.intro (by with_reducible rfl) ?_ | (with_reducible exact wkC_refl _) | (with_reducible exact wkCs_refl _) | refine And.intro ?_ ?_))
    all_goals rfl
  · (first | refine wX ?_ | exact wZ)
    refine LdN.one (a := some ⟨xb, 0, none⟩) (q := 1) (.int .i64 ((posJ 3 : Nat) : Int)) rfl (fun w hw => hw.2.1) rfl ?_
    (first | refine wX ?_ | exact wZ)
    refine LdN.one (a := some ⟨xb, 0, none⟩) (q := 0) (.string (bs exS)) rfl (fun w hw => hw.2.1) rfl ?_
    (first | refine wX ?_ | exact wZ)
    refine callG (next_blank xb exS 3 1 ob 3 cap 0 false (c := 32) rfl (by decide) (by decide)) [4] rfl ⟨rfl, trivial⟩ rfl fun _ _ => ?_
    (first | refine wX ?_ | exact wZ)
    refine ⟨(4, ob, cap), ⟨by omega, fun h => absurd (hob h) (by decide)⟩, Nat.le_of_ble_eq_true rfl, ?_, ⟨wkE_refl _, wkE_refl _, wkE_refl _, wkE_refl _, wkE_refl _, wkE_refl _, wkH_nil _⟩⟩
    (repeat' (first | exact trivial | refine And.intro (by with_reducible rfl) ?_ | (with_reducible exact wkC_refl _) | (with_reducible exact wkCs_refl _) | refine And.intro ?_ ?_))
    all_goals rfl
  · (first | refine wX ?_ | exact wZ)
    refine LdN.one (a := some ⟨xb, 0, none⟩) (q := 1) (.int .i64 ((posJ 4 : Nat) : Int)) rfl (fun w hw => hw.2.1) rfl ?_
    (first | refine wX ?_ | exact wZ)
    refine LdN.one (a := some ⟨xb, 0, none⟩) (q := 0) (.string (bs exS)) rfl (fun w hw => hw.2.1) rfl ?_
    (first | refine wX ?_ | exact wZ)
    refine callG (next_letter xb exS 4 1 (tokJ 4) ob cap 0 true (c := 99) rfl (by decide) (by decide) (fun h => absurd (hob h) (by decide)) (by decide)) [4, 5, 0] rfl ⟨rfl, rfl, rfl, trivial⟩ rfl fun ⟨b1, c1⟩ _ => ?_
    rw [show wordsK exS 4 (tokJ 4) = (1, 6) by decide +kernel, show wordW exS 4 = [99, 63] by decide +kernel]
    (first | refine wX ?_ | exact wZ)
    refine ⟨(5, some b1, c1), ⟨by omega, fun h => by cases h⟩, Nat.le_of_ble_eq_true rfl, ?_, ⟨wkE_refl _, wkE_refl _, wkE_refl _, wkE_refl _, wkE_refl _, wkE_refl _, wkH_nil _⟩⟩
    (repeat' (first | exact trivial | refine And.intro (by with_reducible rfl) ?_ | (with_reducible exact wkC_refl _) | (with_reducible exact wkCs_refl _) | refine And.intro ?_ ?_))
    all_goals rfl
  · obtain ⟨g, rfl⟩ : ∃ g, ob = some g := by
      cases ob with
      | none => exact absurd (hob rfl) (by decide)
      | some g => exact ⟨g, rfl⟩
    (first | refine wX ?_ | exact wZ)
    refine LdN.one (a := some ⟨xb, 0, none⟩) (q := 1) (.int .i64 ((posJ 5 : Nat) : Int)) rfl (fun w hw => hw.2.1) rfl ?_
    (first | refine wX ?_ | exact wZ)
    refine LdN.one (a := some ⟨xb, 0, none⟩) (q := 0) (.string (bs exS)) rfl (fun w hw => hw.2.1) rfl ?_
    (first | refine wX ?_ | exact wZ)
    refine loopS Unit (fun _ => True) (fun _ => mkS Tryd.f11.ntmps 0 [(2, .c (.lp 1 0)), (3, .c (.lp 2 0)), (4, .c (.lp 3 0)), (5, .c (.v (.pointer (some ⟨xb, 0, none⟩))))]) (fun _ => 0) rfl (fun _ => rfl) () trivial ?_ ?_
    · (repeat' (first | exact trivial | refine And.intro (by with_reducible rfl) ?_ | (with_reducible exact wkC_refl _) | (with_reducible exact wkCs_refl _) | refine And.intro ?_ ?_))
      all_goals rfl
    intro _ _
    (first | refine wX ?_ | exact wZ)
    refine LdN.one (a := some ⟨xb, 0, none⟩) (q := 3) (.slice (some ⟨g, 0, none⟩) 4 cap) rfl (fun w hw => hw.2.1) rfl ?_
    (first | refine wX ?_ | exact wZ)
    (first | refine wX ?_ | exact wZ)
    refine LdN.one (a := some ⟨xb, 0, none⟩) (q := 3) (.slice (some ⟨g, 0, none⟩) 4 cap) rfl (fun w hw => hw.2.1) rfl ?_
    (first | refine wX ?_ | exact wZ)
    (first | refine wX ?_ | exact wZ)
    refine LdN.one (a := some ⟨xb, 0, none⟩) (q := 3) (.slice (some ⟨g, 0, none⟩) 4 cap) rfl (fun w hw => hw.2.1) rfl ?_
    (first | refine wX ?_ | exact wZ)
    rw [show IntKind.i64.wrap (((4 : Nat) : Int) - 1) = ((3 : Nat) : Int) by decide]
    refine Nd.mk ⟨rfl, by decide, by decide⟩ ?_
    (first | refine wX ?_ | exact wZ)
    refine LdN.fld (.int .i64 1) rfl (fun w hw => hw.2.2.1) (by rfl) ?_
    (first | refine wX ?_ | exact wZ)
    (first | refine wX ?_ | exact wZ)
    refine LdN.one (a := some ⟨xb, 0, none⟩) (q := 3) (.slice (some ⟨g, 0, none⟩) 4 cap) rfl (fun w hw => hw.2.1) rfl ?_
    (first | refine wX ?_ | exact wZ)
    refine fin_p (fun w => SlAt (some ⟨g, 0, none⟩) 20 (toksC exT) w) ⟨g, cap, rfl, fun w hw => hw⟩ (fun w hw => hw.2.2.1)
end Go.Proofs.YteejemdibfbccaaDoor

/-
  Contracts: the chapter's example (law); lists that have a text; Starts (program, document).
-/
namespace Go.Proofs.YteejemdibfbccaaDoor
open Go.AX Go.RowKit Go.Scan
set_option maxRecDepth 20000

theorem sane_c : ∀ H, (∀ w, Facts H w → ScanF w) → SpecH Tryd.prog 12 (pvs []) H (Ret (.bool true) H) := by
  refine factC hm Tryd.func12 (by kernel_rfl) rfl rfl ?_
  (first | refine wX ?_ | exact wZ)
  refine SpecF.call ScanEx_c (fun w hw => hw.1) fun v G hR => ?_
  obtain ⟨b, cap, rfl, hG⟩ := hR
  (first | refine wX ?_ | exact wZ)
  refine Nd.mk ⟨rfl, by decide, by decide⟩ ?_
  (first | refine wX ?_ | exact wZ)
  refine LdN.fld (.string (bs [99, 63])) rfl (fun w hw => hG w hw.2.1) (by rfl) ?_
  (first | refine wX ?_ | exact wZ)
  refine Nd.mk ⟨rfl, by decide, by decide⟩ ?_
  (first | refine wX ?_ | exact wZ)
  refine LdN.fld (.bool true) rfl (fun w hw => hG w hw.2.1) (by rfl) ?_
  (first | refine wX ?_ | exact wZ)
def strsC (l : List (List UInt8)) : List Value := l.map fun t => .string (bs t)
theorem strsC_get {l : List (List UInt8)} {i : Nat} {t : List UInt8} (h : l[i]? = some t) : (strsC l)[i]? = some (.string (bs t)) := by
  unfold strsC
  rw [List.getElem?_map, h]
  rfl
theorem SIndex_c (a : Option Addr) (l : List (List UInt8)) (cap : Nat) (s : List UInt8) (ha : l ≠ [] → a.isSome = true) (hl : l.length ≤ 1000000) :
    ∀ H, (∀ w, Facts H w → SlAt a l.length (strsC l) w) → SpecH Tryd.prog 50 (pvs [.slice a l.length cap, .string (bs s)]) H (RetR (fun v => ∃ n : Int, v = .int .i64 n ∧ (0 ≤ n ↔ l.contains s = true)) H) := by
  refine factR hm Tryd.func50 (by kernel_rfl) rfl rfl ?_
  (first | refine wX ?_ | exact wZ)
  refine loopS Nat (fun i => i ≤ l.length ∧ (l.take i).contains s = false) (fun i => mkS Tryd.f50.ntmps 0 [(0, .c (.v (.slice a l.length cap))), (1, .c (.v (.string (bs s)))), (7, .c (.v (.int .i64 (l.length : Int)))), (8, .c (.v (.int .i64 (i : Int))))]) (fun i => l.length - i) rfl (fun _ => rfl) 0 ⟨Nat.zero_le _, by simp⟩ ?_ ?_
  · (repeat' (first | exact trivial | refine And.intro (by with_reducible rfl) ?_ | (with_reducible exact wkC_refl _) | (with_reducible exact wkCs_refl _) | refine And.intro ?_ ?_))
    all_goals rfl
  intro i ⟨hi, hno⟩
  (first | refine wX ?_ | exact wZ)
  refine brd_dec (fun h1 => ?_) (fun h1 => ?_)
  · obtain ⟨t, ht⟩ : ∃ t, l[i]? = some t := ⟨_, List.getElem?_eq_getElem (by omega)⟩
    have hsa : a.isSome = true := ha (fun h => by rw [h] at ht; cases ht)
    (first | refine wX ?_ | exact wZ)
    -- a text of the list is looked at: it is that of the call, or not
    refine Nd.mk ⟨hsa, by omega, by omega⟩ ?_
    (first | refine wX ?_ | exact wZ)
    refine LdN.one (.string (bs t)) rfl (fun w hw => hw.1) (by show (strsC l)[Int.toNat _ * 1]? = _; rw [Int.toNat_natCast, Nat.mul_one]; exact strsC_get ht) ?_
    (first | refine wX ?_ | exact wZ)
    refine brd_intro (fun h2 => ?_) (fun h2 => ?_)
    · have h3 : s = t := eq_of_beq (show (s == t) = true from h2)
      (first | refine wX ?_ | exact wZ)
      refine ⟨_, rfl, (i : Int), rfl, ⟨fun _ => ?_, fun _ => by omega⟩⟩
      rw [h3]
      exact List.contains_iff_mem.2 (List.mem_of_getElem? ht)
    · have h3 : (s == t) = false := h2
      (first | refine wX ?_ | exact wZ)
      refine ⟨i + 1, ⟨by omega, ?_⟩, by omega, ?_, by (repeat' (first | exact trivial | exact wkE_refl _ | refine And.intro ?_ ?_))⟩
      · rw [List.take_add_one, ht]
        simp only [List.contains_append, hno, Bool.false_or]
        simp
        simpa using h3
      · (repeat' (first | exact trivial | refine And.intro (by with_reducible rfl) ?_ | (with_reducible exact wkC_refl _) | (with_reducible exact wkCs_refl _) | refine And.intro ?_ ?_))
        all_goals first | rfl | exact av_int (by rw [wrap_i64 (by omega)]; omega)
  · have hie : i = l.length := by omega
    subst hie
    rw [List.take_length] at hno
    (first | refine wX ?_ | exact wZ)
    refine ⟨_, rfl, -1, rfl, ⟨fun h => absurd h (by decide), fun h => by rw [hno] at h; cases h⟩⟩
theorem Contains_c (a : Option Addr) (l : List (List UInt8)) (cap : Nat) (s : List UInt8) (ha : l ≠ [] → a.isSome = true) (hl : l.length ≤ 1000000) :
    ∀ H, (∀ w, Facts H w → SlAt a l.length (strsC l) w) → SpecH Tryd.prog 25 (pvs [.slice a l.length cap, .string (bs s)]) H (Ret (.bool (l.contains s)) H) := by
  refine factC hm Tryd.func25 (by kernel_rfl) rfl rfl ?_
  (first | refine wX ?_ | exact wZ)
  refine callR (SIndex_c a l cap s ha hl _ (fun w hw => hw.1)) fun v hv => ?_
  obtain ⟨n, rfl, hn⟩ := hv
  (first | refine wX ?_ | exact wZ)
  refine ret_b ?_
  rw [← hn]
  simp
theorem Has_r (a : Option Addr) (l : List (List UInt8)) (cap : Nat) (s : List UInt8) (ha : l ≠ [] → a.isSome = true) (hl : l.length ≤ 1000000) :
    ∀ H, (∀ w, Facts H w → SlAt a l.length (strsC l) w) → SpecH Tryd.prog 26 (pvs [.slice a l.length cap, .string (bs s)]) H (Ret (.bool (l.contains s)) H) := by
  refine factC hm Tryd.func26 (by kernel_rfl) rfl rfl ?_
  (first | refine wX ?_ | exact wZ)
  refine loopS Nat (fun i => i ≤ l.length ∧ (l.take i).contains s = false) (fun i => mkS Tryd.f26.ntmps 0 [(0, .c (.v (.slice a l.length cap))), (1, .c (.v (.string (bs s)))), (5, .c (.v (.int .i64 (i : Int))))]) (fun i => l.length - i) rfl (fun _ => rfl) 0 ⟨Nat.zero_le _, by simp⟩ ?_ ?_
  · (repeat' (first | exact trivial | refine And.intro (by with_reducible rfl) ?_ | (with_reducible exact wkC_refl _) | (with_reducible exact wkCs_refl _) | refine And.intro ?_ ?_))
    all_goals rfl
  intro i ⟨hi, hno⟩
  (first | refine wX ?_ | exact wZ)
  refine brd_dec (fun h1 => ?_) (fun h1 => ?_)
  · obtain ⟨t, ht⟩ : ∃ t, l[i]? = some t := ⟨_, List.getElem?_eq_getElem (by omega)⟩
    have hsa : a.isSome = true := ha (fun h => by rw [h] at ht; cases ht)
    (first | refine wX ?_ | exact wZ)
    -- a text of the list is looked at: it is that of the call, or not
    refine Nd.mk ⟨hsa, by omega, by omega⟩ ?_
    (first | refine wX ?_ | exact wZ)
    refine LdN.one (.string (bs t)) rfl (fun w hw => hw.1) (by show (strsC l)[Int.toNat _ * 1]? = _; rw [Int.toNat_natCast, Nat.mul_one]; exact strsC_get ht) ?_
    (first | refine wX ?_ | exact wZ)
    refine brd_intro (fun h2 => ?_) (fun h2 => ?_)
    · have h3 : t = s := eq_of_beq (show (t == s) = true from h2)
      (first | refine wX ?_ | exact wZ)
      refine ret_b ?_
      rw [← h3]
      simpa using List.mem_of_getElem? ht
    · have h3 : (t == s) = false := h2
      (first | refine wX ?_ | exact wZ)
      refine ⟨i + 1, ⟨by omega, ?_⟩, by omega, ?_, by (repeat' (first | exact trivial | exact wkE_refl _ | refine And.intro ?_ ?_))⟩
      · rw [List.take_add_one, ht]
        simp only [List.contains_append, hno, Bool.false_or]
        simp
        intro h
        rw [h] at h3
        simp at h3
      · (repeat' (first | exact trivial | refine And.intro (by with_reducible rfl) ?_ | (with_reducible exact wkC_refl _) | (with_reducible exact wkCs_refl _) | refine And.intro ?_ ?_))
        all_goals first | rfl | exact av_int (by rw [wrap_i64 (by omega)]; omega)
  · have hie : i = l.length := by omega
    subst hie
    rw [List.take_length] at hno
    (first | refine wX ?_ | exact wZ)
    rw [hno]
def argK : List (List UInt8) := [[110, 105, 108], [116, 114, 117, 101], [102, 97, 108, 115, 101], [115, 101, 108, 102], [121, 105, 101, 108, 100], [115, 117, 112, 101, 114]]
def argA : List (List UInt8) := [[45, 62], [33], [40]]
def argB : List (List UInt8) := [[45], [42], [38], [91]]
/-- Which tokens can begin an argument. -/
def startsB (k : Int) (s : List UInt8) (sp : Bool) : Bool :=
  if k = 1 ∨ k = 2 ∨ k = 3 ∨ k = 4 ∨ k = 5 ∨ k = 6 ∨ k = 9 then true
  else if k = 8 then argK.contains s else if k = 7 then argA.contains s || sp && argB.contains s else false
theorem Starts_c (k : Int) (s : List UInt8) (sp : Bool) (x y : Value) : ∀ H, (∀ w, Facts H w → ScanF w) → SpecH Tryd.prog 13 (pvs [.agg #[.int .i64 k, .string (bs s), .bool sp, x, y]]) H (Ret (.bool (startsB k s sp)) H) := by
-- cabochon/scan.Starts: the function, Contains_c: what looks the texts up
  refine factC hm Tryd.func13 (by kernel_rfl) rfl rfl ?_
  (first | refine wX ?_ | exact wZ)
  -- 1: a kind
  refine brd_eq (fun h1 => ?_) (fun h1 => ?_)
  · (first | refine wX ?_ | exact wZ)
    exact ret_b (by simp [startsB, h1])
  (first | refine wX ?_ | exact wZ)
  -- 2: a kind
  refine brd_eq (fun h2 => ?_) (fun h2 => ?_)
  · (first | refine wX ?_ | exact wZ)
    exact ret_b (by simp [startsB, h2])
  (first | refine wX ?_ | exact wZ)
  -- 3: a kind
  refine brd_eq (fun h3 => ?_) (fun h3 => ?_)
  · (first | refine wX ?_ | exact wZ)
    exact ret_b (by simp [startsB, h3])
  (first | refine wX ?_ | exact wZ)
  -- 4: a kind
  refine brd_eq (fun h4 => ?_) (fun h4 => ?_)
  · (first | refine wX ?_ | exact wZ)
    exact ret_b (by simp [startsB, h4])
  (first | refine wX ?_ | exact wZ)
  -- 5: a kind
  refine brd_eq (fun h5 => ?_) (fun h5 => ?_)
  · (first | refine wX ?_ | exact wZ)
    exact ret_b (by simp [startsB, h5])
  (first | refine wX ?_ | exact wZ)
  -- 6: a kind
  refine brd_eq (fun h6 => ?_) (fun h6 => ?_)
  · (first | refine wX ?_ | exact wZ)
    exact ret_b (by simp [startsB, h6])
  (first | refine wX ?_ | exact wZ)
  -- 9: a kind
  refine brd_eq (fun h9 => ?_) (fun h9 => ?_)
  · (first | refine wX ?_ | exact wZ)
    exact ret_b (by simp [startsB, h9])
  (first | refine wX ?_ | exact wZ)
  refine brd_eq (fun h8 => ?_) (fun h8 => ?_)
  · ((conv => whnf); (repeat ((first | refine BoxN.own ?_ | refine VrN.norm (wrap_i64 (by omega)) ?_ | refine VrN.keep ?_ | refine DrawN.calm (by decide +kernel) ?_ | refine Nd.mk (by decide +kernel) ?_ | refine Nd.mk (by omega) ?_ | (refine Nd.mk ?_ ?_; focus ((repeat' (first | exact trivial | exact wkE_refl _ | refine And.intro ?_ ?_)); done)) | refine RdN.intro _ rfl (by rfl) ?_); (conv => whnf))))
    refine RwN.known (strsC argK) rfl fun rb => ?_
    ((conv => whnf); (repeat ((first | refine BoxN.own ?_ | refine VrN.norm (wrap_i64 (by omega)) ?_ | refine VrN.keep ?_ | refine DrawN.calm (by decide +kernel) ?_ | refine Nd.mk (by decide +kernel) ?_ | refine Nd.mk (by omega) ?_ | (refine Nd.mk ?_ ?_; focus ((repeat' (first | exact trivial | exact wkE_refl _ | refine And.intro ?_ ?_)); done)) | refine RdN.intro _ rfl (by rfl) ?_); (conv => whnf))))
    refine call1 (Contains_c (some ⟨rb, 0, none⟩) argK 6 s (fun _ => rfl) (by decide) _ (fun w hw => hw.2.1)) ?_
    ((conv => whnf); (repeat ((first | refine BoxN.own ?_ | refine VrN.norm (wrap_i64 (by omega)) ?_ | refine VrN.keep ?_ | refine DrawN.calm (by decide +kernel) ?_ | refine Nd.mk (by decide +kernel) ?_ | refine Nd.mk (by omega) ?_ | (refine Nd.mk ?_ ?_; focus ((repeat' (first | exact trivial | exact wkE_refl _ | refine And.intro ?_ ?_)); done)) | refine RdN.intro _ rfl (by rfl) ?_); (conv => whnf))))
    exact ret_b (by simp [startsB, h8])
  ((conv => whnf); (repeat ((first | refine BoxN.own ?_ | refine VrN.norm (wrap_i64 (by omega)) ?_ | refine VrN.keep ?_ | refine DrawN.calm (by decide +kernel) ?_ | refine Nd.mk (by decide +kernel) ?_ | refine Nd.mk (by omega) ?_ | (refine Nd.mk ?_ ?_; focus ((repeat' (first | exact trivial | exact wkE_refl _ | refine And.intro ?_ ?_)); done)) | refine RdN.intro _ rfl (by rfl) ?_); (conv => whnf))))
  refine brd_eq (fun h7 => ?_) (fun h7 => ?_)
  · ((conv => whnf); (repeat ((first | refine BoxN.own ?_ | refine VrN.norm (wrap_i64 (by omega)) ?_ | refine VrN.keep ?_ | refine DrawN.calm (by decide +kernel) ?_ | refine Nd.mk (by decide +kernel) ?_ | refine Nd.mk (by omega) ?_ | (refine Nd.mk ?_ ?_; focus ((repeat' (first | exact trivial | exact wkE_refl _ | refine And.intro ?_ ?_)); done)) | refine RdN.intro _ rfl (by rfl) ?_); (conv => whnf))))
    refine RwN.known (strsC argA) rfl fun rb => ?_
    ((conv => whnf); (repeat ((first | refine BoxN.own ?_ | refine VrN.norm (wrap_i64 (by omega)) ?_ | refine VrN.keep ?_ | refine DrawN.calm (by decide +kernel) ?_ | refine Nd.mk (by decide +kernel) ?_ | refine Nd.mk (by omega) ?_ | (refine Nd.mk ?_ ?_; focus ((repeat' (first | exact trivial | exact wkE_refl _ | refine And.intro ?_ ?_)); done)) | refine RdN.intro _ rfl (by rfl) ?_); (conv => whnf))))
    refine call1 (Contains_c (some ⟨rb, 0, none⟩) argA 3 s (fun _ => rfl) (by decide) _ (fun w hw => hw.2.1)) ?_
    cases hA : argA.contains s with
    | true =>
      ((conv => whnf); (repeat ((first | refine BoxN.own ?_ | refine VrN.norm (wrap_i64 (by omega)) ?_ | refine VrN.keep ?_ | refine DrawN.calm (by decide +kernel) ?_ | refine Nd.mk (by decide +kernel) ?_ | refine Nd.mk (by omega) ?_ | (refine Nd.mk ?_ ?_; focus ((repeat' (first | exact trivial | exact wkE_refl _ | refine And.intro ?_ ?_)); done)) | refine RdN.intro _ rfl (by rfl) ?_); (conv => whnf))))
      exact ret_b (by simp only [startsB, h7, hA]; simp)
    | false =>
      cases sp with
      | false =>
        ((conv => whnf); (repeat ((first | refine BoxN.own ?_ | refine VrN.norm (wrap_i64 (by omega)) ?_ | refine VrN.keep ?_ | refine DrawN.calm (by decide +kernel) ?_ | refine Nd.mk (by decide +kernel) ?_ | refine Nd.mk (by omega) ?_ | (refine Nd.mk ?_ ?_; focus ((repeat' (first | exact trivial | exact wkE_refl _ | refine And.intro ?_ ?_)); done)) | refine RdN.intro _ rfl (by rfl) ?_); (conv => whnf))))
        exact ret_b (by simp only [startsB, h7, hA]; simp)
      | true =>
        ((conv => whnf); (repeat ((first | refine BoxN.own ?_ | refine VrN.norm (wrap_i64 (by omega)) ?_ | refine VrN.keep ?_ | refine DrawN.calm (by decide +kernel) ?_ | refine Nd.mk (by decide +kernel) ?_ | refine Nd.mk (by omega) ?_ | (refine Nd.mk ?_ ?_; focus ((repeat' (first | exact trivial | exact wkE_refl _ | refine And.intro ?_ ?_)); done)) | refine RdN.intro _ rfl (by rfl) ?_); (conv => whnf))))
        refine RwN.known (strsC argB) rfl fun rc => ?_
        ((conv => whnf); (repeat ((first | refine BoxN.own ?_ | refine VrN.norm (wrap_i64 (by omega)) ?_ | refine VrN.keep ?_ | refine DrawN.calm (by decide +kernel) ?_ | refine Nd.mk (by decide +kernel) ?_ | refine Nd.mk (by omega) ?_ | (refine Nd.mk ?_ ?_; focus ((repeat' (first | exact trivial | exact wkE_refl _ | refine And.intro ?_ ?_)); done)) | refine RdN.intro _ rfl (by rfl) ?_); (conv => whnf))))
        refine call1 (Contains_c (some ⟨rc, 0, none⟩) argB 4 s (fun _ => rfl) (by decide) _ (fun w hw => hw.2.2.1)) ?_
        ((conv => whnf); (repeat ((first | refine BoxN.own ?_ | refine VrN.norm (wrap_i64 (by omega)) ?_ | refine VrN.keep ?_ | refine DrawN.calm (by decide +kernel) ?_ | refine Nd.mk (by decide +kernel) ?_ | refine Nd.mk (by omega) ?_ | (refine Nd.mk ?_ ?_; focus ((repeat' (first | exact trivial | exact wkE_refl _ | refine And.intro ?_ ?_)); done)) | refine RdN.intro _ rfl (by rfl) ?_); (conv => whnf))))
        exact ret_b (by simp only [startsB, h7, hA]; simp)
  · ((conv => whnf); (repeat ((first | refine BoxN.own ?_ | refine VrN.norm (wrap_i64 (by omega)) ?_ | refine VrN.keep ?_ | refine DrawN.calm (by decide +kernel) ?_ | refine Nd.mk (by decide +kernel) ?_ | refine Nd.mk (by omega) ?_ | (refine Nd.mk ?_ ?_; focus ((repeat' (first | exact trivial | exact wkE_refl _ | refine And.intro ?_ ?_)); done)) | refine RdN.intro _ rfl (by rfl) ?_); (conv => whnf))))
    exact ret_b (by simp [startsB, h1, h2, h3, h4, h5, h6, h9, h8, h7])
theorem Starts_r (k : Int) (s : List UInt8) (sp : Bool) (x y : Value) : ∀ H, (∀ w, Facts H w → ScanF w) → SpecH Tryd.prog 14 (pvs [.agg #[.int .i64 k, .string (bs s), .bool sp, x, y]]) H (Ret (.bool (startsB k s sp)) H) := by
-- cabochon/cabochonref14.Starts: the function, Has_r: what looks the texts up
  refine factC hm Tryd.func14 (by kernel_rfl) rfl rfl ?_
  (first | refine wX ?_ | exact wZ)
  -- 1: a kind
  refine brd_eq (fun h1 => ?_) (fun h1 => ?_)
  · (first | refine wX ?_ | exact wZ)
    exact ret_b (by simp [startsB, h1])
  (first | refine wX ?_ | exact wZ)
  -- 2: a kind
  refine brd_eq (fun h2 => ?_) (fun h2 => ?_)
  · (first | refine wX ?_ | exact wZ)
    exact ret_b (by simp [startsB, h2])
  (first | refine wX ?_ | exact wZ)
  -- 3: a kind
  refine brd_eq (fun h3 => ?_) (fun h3 => ?_)
  · (first | refine wX ?_ | exact wZ)
    exact ret_b (by simp [startsB, h3])
  (first | refine wX ?_ | exact wZ)
  -- 4: a kind
  refine brd_eq (fun h4 => ?_) (fun h4 => ?_)
  · (first | refine wX ?_ | exact wZ)
    exact ret_b (by simp [startsB, h4])
  (first | refine wX ?_ | exact wZ)
  -- 5: a kind
  refine brd_eq (fun h5 => ?_) (fun h5 => ?_)
  · (first | refine wX ?_ | exact wZ)
    exact ret_b (by simp [startsB, h5])
  (first | refine wX ?_ | exact wZ)
  -- 6: a kind
  refine brd_eq (fun h6 => ?_) (fun h6 => ?_)
  · (first | refine wX ?_ | exact wZ)
    exact ret_b (by simp [startsB, h6])
  (first | refine wX ?_ | exact wZ)
  -- 9: a kind
  refine brd_eq (fun h9 => ?_) (fun h9 => ?_)
  · (first | refine wX ?_ | exact wZ)
    exact ret_b (by simp [startsB, h9])
  (first | refine wX ?_ | exact wZ)
  refine brd_eq (fun h8 => ?_) (fun h8 => ?_)
  · ((conv => whnf); (repeat ((first | refine BoxN.own ?_ | refine VrN.norm (wrap_i64 (by omega)) ?_ | refine VrN.keep ?_ | refine DrawN.calm (by decide +kernel) ?_ | refine Nd.mk (by decide +kernel) ?_ | refine Nd.mk (by omega) ?_ | (refine Nd.mk ?_ ?_; focus ((repeat' (first | exact trivial | exact wkE_refl _ | refine And.intro ?_ ?_)); done)) | refine RdN.intro _ rfl (by rfl) ?_); (conv => whnf))))
    refine RwN.known (strsC argK) rfl fun rb => ?_
    ((conv => whnf); (repeat ((first | refine BoxN.own ?_ | refine VrN.norm (wrap_i64 (by omega)) ?_ | refine VrN.keep ?_ | refine DrawN.calm (by decide +kernel) ?_ | refine Nd.mk (by decide +kernel) ?_ | refine Nd.mk (by omega) ?_ | (refine Nd.mk ?_ ?_; focus ((repeat' (first | exact trivial | exact wkE_refl _ | refine And.intro ?_ ?_)); done)) | refine RdN.intro _ rfl (by rfl) ?_); (conv => whnf))))
    refine call1 (Has_r (some ⟨rb, 0, none⟩) argK 6 s (fun _ => rfl) (by decide) _ (fun w hw => hw.2.1)) ?_
    ((conv => whnf); (repeat ((first | refine BoxN.own ?_ | refine VrN.norm (wrap_i64 (by omega)) ?_ | refine VrN.keep ?_ | refine DrawN.calm (by decide +kernel) ?_ | refine Nd.mk (by decide +kernel) ?_ | refine Nd.mk (by omega) ?_ | (refine Nd.mk ?_ ?_; focus ((repeat' (first | exact trivial | exact wkE_refl _ | refine And.intro ?_ ?_)); done)) | refine RdN.intro _ rfl (by rfl) ?_); (conv => whnf))))
    exact ret_b (by simp [startsB, h8])
  ((conv => whnf); (repeat ((first | refine BoxN.own ?_ | refine VrN.norm (wrap_i64 (by omega)) ?_ | refine VrN.keep ?_ | refine DrawN.calm (by decide +kernel) ?_ | refine Nd.mk (by decide +kernel) ?_ | refine Nd.mk (by omega) ?_ | (refine Nd.mk ?_ ?_; focus ((repeat' (first | exact trivial | exact wkE_refl _ | refine And.intro ?_ ?_)); done)) | refine RdN.intro _ rfl (by rfl) ?_); (conv => whnf))))
  refine brd_eq (fun h7 => ?_) (fun h7 => ?_)
  · ((conv => whnf); (repeat ((first | refine BoxN.own ?_ | refine VrN.norm (wrap_i64 (by omega)) ?_ | refine VrN.keep ?_ | refine DrawN.calm (by decide +kernel) ?_ | refine Nd.mk (by decide +kernel) ?_ | refine Nd.mk (by omega) ?_ | (refine Nd.mk ?_ ?_; focus ((repeat' (first | exact trivial | exact wkE_refl _ | refine And.intro ?_ ?_)); done)) | refine RdN.intro _ rfl (by rfl) ?_); (conv => whnf))))
    refine RwN.known (strsC argA) rfl fun rb => ?_
    ((conv => whnf); (repeat ((first | refine BoxN.own ?_ | refine VrN.norm (wrap_i64 (by omega)) ?_ | refine VrN.keep ?_ | refine DrawN.calm (by decide +kernel) ?_ | refine Nd.mk (by decide +kernel) ?_ | refine Nd.mk (by omega) ?_ | (refine Nd.mk ?_ ?_; focus ((repeat' (first | exact trivial | exact wkE_refl _ | refine And.intro ?_ ?_)); done)) | refine RdN.intro _ rfl (by rfl) ?_); (conv => whnf))))
    refine call1 (Has_r (some ⟨rb, 0, none⟩) argA 3 s (fun _ => rfl) (by decide) _ (fun w hw => hw.2.1)) ?_
    cases hA : argA.contains s with
    | true =>
      ((conv => whnf); (repeat ((first | refine BoxN.own ?_ | refine VrN.norm (wrap_i64 (by omega)) ?_ | refine VrN.keep ?_ | refine DrawN.calm (by decide +kernel) ?_ | refine Nd.mk (by decide +kernel) ?_ | refine Nd.mk (by omega) ?_ | (refine Nd.mk ?_ ?_; focus ((repeat' (first | exact trivial | exact wkE_refl _ | refine And.intro ?_ ?_)); done)) | refine RdN.intro _ rfl (by rfl) ?_); (conv => whnf))))
      exact ret_b (by simp only [startsB, h7, hA]; simp)
    | false =>
      cases sp with
      | false =>
        ((conv => whnf); (repeat ((first | refine BoxN.own ?_ | refine VrN.norm (wrap_i64 (by omega)) ?_ | refine VrN.keep ?_ | refine DrawN.calm (by decide +kernel) ?_ | refine Nd.mk (by decide +kernel) ?_ | refine Nd.mk (by omega) ?_ | (refine Nd.mk ?_ ?_; focus ((repeat' (first | exact trivial | exact wkE_refl _ | refine And.intro ?_ ?_)); done)) | refine RdN.intro _ rfl (by rfl) ?_); (conv => whnf))))
        exact ret_b (by simp only [startsB, h7, hA]; simp)
      | true =>
        ((conv => whnf); (repeat ((first | refine BoxN.own ?_ | refine VrN.norm (wrap_i64 (by omega)) ?_ | refine VrN.keep ?_ | refine DrawN.calm (by decide +kernel) ?_ | refine Nd.mk (by decide +kernel) ?_ | refine Nd.mk (by omega) ?_ | (refine Nd.mk ?_ ?_; focus ((repeat' (first | exact trivial | exact wkE_refl _ | refine And.intro ?_ ?_)); done)) | refine RdN.intro _ rfl (by rfl) ?_); (conv => whnf))))
        refine RwN.known (strsC argB) rfl fun rc => ?_
        ((conv => whnf); (repeat ((first | refine BoxN.own ?_ | refine VrN.norm (wrap_i64 (by omega)) ?_ | refine VrN.keep ?_ | refine DrawN.calm (by decide +kernel) ?_ | refine Nd.mk (by decide +kernel) ?_ | refine Nd.mk (by omega) ?_ | (refine Nd.mk ?_ ?_; focus ((repeat' (first | exact trivial | exact wkE_refl _ | refine And.intro ?_ ?_)); done)) | refine RdN.intro _ rfl (by rfl) ?_); (conv => whnf))))
        refine call1 (Has_r (some ⟨rc, 0, none⟩) argB 4 s (fun _ => rfl) (by decide) _ (fun w hw => hw.2.2.1)) ?_
        ((conv => whnf); (repeat ((first | refine BoxN.own ?_ | refine VrN.norm (wrap_i64 (by omega)) ?_ | refine VrN.keep ?_ | refine DrawN.calm (by decide +kernel) ?_ | refine Nd.mk (by decide +kernel) ?_ | refine Nd.mk (by omega) ?_ | (refine Nd.mk ?_ ?_; focus ((repeat' (first | exact trivial | exact wkE_refl _ | refine And.intro ?_ ?_)); done)) | refine RdN.intro _ rfl (by rfl) ?_); (conv => whnf))))
        exact ret_b (by simp only [startsB, h7, hA]; simp)
  · ((conv => whnf); (repeat ((first | refine BoxN.own ?_ | refine VrN.norm (wrap_i64 (by omega)) ?_ | refine VrN.keep ?_ | refine DrawN.calm (by decide +kernel) ?_ | refine Nd.mk (by decide +kernel) ?_ | refine Nd.mk (by omega) ?_ | (refine Nd.mk ?_ ?_; focus ((repeat' (first | exact trivial | exact wkE_refl _ | refine And.intro ?_ ?_)); done)) | refine RdN.intro _ rfl (by rfl) ?_); (conv => whnf))))
    exact ret_b (by simp [startsB, h1, h2, h3, h4, h5, h6, h9, h8, h7])
theorem ScanStarts_c (k : Int) (s : List UInt8) (sp : Bool) (ln : Int) (pa : Option Addr) (pn pc : Nat) : ∀ H, (∀ w, Facts H w → ScanF w) → SpecH Tryd.prog 5 (pvs [.agg #[.int .i64 k, .string (bs s), .bool sp, .int .i64 ln, .slice pa pn pc]]) H (Ret (.bool true) H) := by
  refine factC hm Tryd.func5 (by kernel_rfl) rfl rfl ?_
  (first | refine wX ?_ | exact wZ)
  refine callQ (Starts_c k s sp _ _ _ ?_) ?_
  · exact fun w hw => hw.1
  (first | refine wX ?_ | exact wZ)
  refine callQ (Starts_r k s sp _ _ _ ?_) ?_
  · exact fun w hw => hw.1
  (first | refine wX ?_ | exact wZ)
  refine brd_intro (fun _ => ?_) (fun h => by simp at h)
  (first | refine wX ?_ | exact wZ)
  refine callQ (sane_c _ ?_) ?_
  · exact fun w hw => hw.1
  (first | refine wX ?_ | exact wZ)
end Go.Proofs.YteejemdibfbccaaDoor

/-
  What the rows list, and what it gives; a token as it is read (argument).
-/
namespace Go.Proofs.YteejemdibfbccaaDoor
open Go.ChangeShapes Go.WideShapes Go.ChangeAt Go.RowKit Go.AX
set_option maxRecDepth 100000

/-- What the rows list. -/
def laid3 : List (String × DataW Unit) := [("unicode/utf8.acceptRanges", Rows.laid_unicode_utf8_acceptRanges), ("unicode.White_Space", Rows.laid_unicode_White_Space), ("strings.asciiSpace", Rows.laid_strings_asciiSpace), ("unicode/utf8.first", Rows.laid_unicode_utf8_first)]
theorem door_met (os : Os) (args : Array Value) : laidMetH Tryd.prog laid3 ((World.laidAll Tryd.prog os laid3).forCall (fun _ _ => 0) ⟨#[], args, []⟩).memory := by
  rw [MakeChecks.laidMetH_plain _ _ _ (by kernel_rfl)]; exact laidMet_laidAll _ (by kernel_rfl) (by kernel_rfl)
theorem space_of {W : World} (h : laidMetH Tryd.prog laid3 W) : Lib.TabIs Tryd.prog W "strings.asciiSpace" .u8 Lib.asciiSpaceTab := by
  rw [MakeChecks.laidMetH_plain _ _ _ (by kernel_rfl)] at h
  exact Lib.tabIs_of_head (g := 0) (t := 78) (e := 5) (n := 256) (by kernel_rfl) (by kernel_rfl) (by kernel_rfl) (by kernel_rfl) (by kernel_rfl) (by kernel_rfl) (laid_tail (laid_tail h))
theorem scan_of {W : World} (h : W.ShapedOpen Tryd.prog) (hL : laidMetH Tryd.prog laid3 W) : ScanF W := ⟨max_of h, space_of hL⟩
theorem scan_imm {W : World} (h : ScanF W) : Imm (fun b => b < W.heap.size) W ScanF := (max_imm h.1).and (tab_imm h.2)
theorem known_scan {W : World} (h : W.ShapedOpen Tryd.prog) (hL : laidMetH Tryd.prog laid3 W) : ∀ e ∈ [Ent.fact ScanF], ∃ F, e = .fact F ∧ Imm (fun b => b < W.heap.size) W F := fun _ he => ⟨_, List.mem_singleton.1 he, scan_imm (scan_of h hL)⟩
theorem tok_arg {W : World} {r : Reach} {base : Nat} {v : Value} (h : Value.okWide Tryd.prog W r base 30 v) : ∃ (k : Int) (s : ByteArray) (sp : Bool) (ln : Int) (pa : Option Addr) (pn pc : Nat), v = .agg #[.int .i64 k, .string s, .bool sp, .int .i64 ln, .slice pa pn pc] := by
  simp only [Value.okWide, Tryd.underlying30] at h
  obtain ⟨cs, rfl, hsz, ts, hts, _, hc⟩ := h
  have hT : Tryd.prog.cellTypes Tryd.prog.depth 30 = some [3, 9, 4, 3, 28] := by kernel_rfl
  rw [hT] at hts
  obtain rfl := Option.some.inj hts
  rw [show Tryd.prog.cellsOf 30 = 5 by kernel_rfl] at hsz
  obtain ⟨l⟩ := cs
  match l, hsz with
  | [v0, v1, v2, v3, v4], _ =>
    obtain ⟨u0, hu0, c0⟩ := hc 0 v0 rfl
    obtain ⟨u1, hu1, c1⟩ := hc 1 v1 rfl
    obtain ⟨u2, hu2, c2⟩ := hc 2 v2 rfl
    obtain ⟨u3, hu3, c3⟩ := hc 3 v3 rfl
    obtain ⟨u4, hu4, c4⟩ := hc 4 v4 rfl
    obtain rfl := Option.some.inj hu0
    obtain rfl := Option.some.inj hu1
    obtain rfl := Option.some.inj hu2
    obtain rfl := Option.some.inj hu3
    obtain rfl := Option.some.inj hu4
    obtain ⟨k, rfl⟩ := okWide_int (P := Tryd.prog) (w := W) (r := r) (base := base) Tryd.underlying3 (by simpa only [Value.okWide, Tryd.underlying3] using c0)
    obtain ⟨s, rfl⟩ := okWide_string (P := Tryd.prog) (w := W) (r := r) (base := base) Tryd.underlying9 (by simpa only [Value.okWide, Tryd.underlying9] using c1)
    obtain ⟨sp, rfl⟩ := okWide_bool (P := Tryd.prog) (w := W) (r := r) (base := base) Tryd.underlying4 (by simpa only [Value.okWide, Tryd.underlying4] using c2)
    obtain ⟨ln, rfl⟩ := okWide_int (P := Tryd.prog) (w := W) (r := r) (base := base) Tryd.underlying3 (by simpa only [Value.okWide, Tryd.underlying3] using c3)
    obtain ⟨pa, pn, pc, rfl⟩ := okWide_slice (P := Tryd.prog) (w := W) (r := r) (base := base) Tryd.underlying28 (by simpa only [Value.okWide, Tryd.underlying28] using c4)
    exact ⟨k, s, sp, ln, pa, pn, pc, rfl⟩
end Go.Proofs.YteejemdibfbccaaDoor

/-
  ScanStartsCardSaid is proved: of every token ScanStarts returns true and leaves its argument as it was; the listed tables are tied to the program's text.
-/
namespace Go.Proofs.YteejemdibfbccaaDoor
open Go.ChangeShapes Go.WideShapes Go.ChangeAt Go.RowKit Go.AX
set_option maxRecDepth 100000

namespace ScanStarts
theorem own : ownKnob Tryd.prog.godebug = none := own0
theorem walk {H : Type} {enc : TypeId × Value → H} (W : World) (base : Nat) (args : Array Value) (ds : List (DataW H)) (p : List MemPlace) (k : Known enc Tryd.prog Tryd.f5 W base args ds p) (_hL : laidMetH Tryd.prog laid3 W) : Walk Tryd.prog 5 args W := by
  obtain ⟨u, rfl⟩ := arr1 (trodAll_len k.trod).2
  obtain ⟨n, s, sp, ln, pa, pn, pc, rfl⟩ := tok_arg (k.val 0 _ u rfl rfl)
  exact walkH [.fact ScanF] (known_scan k.shaped _hL) (ScanStarts_c n s.data.toList sp ln pa pn pc _ fun w hw => hw.1)

theorem lifted (os : Os) (started : os.Started) (H : Type) (enc : TypeId × Value → H) :
    ReturnsInHanded {} Tryd.checked os 5 .any (fun w args => (Rows.scanStartsSpec.pre enc Tryd.prog Tryd.f5 [] false w args ∧ laidMetH Tryd.prog laid3 w) ∧ sizedMet enc Tryd.prog Tryd.f5 (OpenSpec.ofChange Rows.scanStartsSpec) false w args) (Rows.scanStartsSpec.post enc Tryd.prog Tryd.f5 false true false false) := by
  refine liftS (C := Tryd.checked) own started (by kernel_rfl) Tryd.func5
    (ChangeSpec.witness_shaped (enc := enc) (C := Tryd.checked) (os := os) (X := fun w _ => laidMetH Tryd.prog laid3 w) false (World.laidAll Tryd.prog os laid3) #[.agg #[.int .i64 0, .string ⟨#[]⟩, .bool false, .int .i64 0, .slice none 0 0]] 8 (World.laidAll_os _ _ _) (World.shaped_of_ZipB (by kernel_rfl) (by kernel_rfl)) (by kernel_rfl) (by kernel_rfl) (by kernel_rfl) (door_met os _))
    laidOut rfl (t := _) rfl (by kernel_rfl) (by kernel_rfl) ?_ walk
  intro ds hd
  match ds, hd with
  | [d0], _ => rfl

theorem over : Rows.scanStartsRow.holds Tryd.pinned (OpenSpec.ofChange Rows.scanStartsSpec) :=
  OpenClaim.holds_of_wide 5 Tryd.f5 rfl rfl rfl rfl rfl rfl rfl ⟨rfl, rfl, rfl, rfl, rfl⟩ rfl rfl rfl rfl rfl (by kernel_rfl) Tryd.func5 (by kernel_rfl)
    (of_decide_eq_true (by kernel_rfl)) (by unfold Func.isWrapper; first | (rw [if_pos (by decide +kernel)]; kernel_rfl) | (rw [if_neg (by decide +kernel)]; exact ⟨rfl, rfl⟩))
    (fun os started H enc _ => lifted os started H enc)

theorem proved : Rows.ScanStartsCardSaid :=
  Claim7.holds_tied_plain_at .later [] [.data, .listed, .data, .pinned] true (true, "29d5a38514b6d36cd327fbc0288b099aab2f6e94237d213b480f59913676cde1") true
    over (fun _ h => by cases h) (by kernel_rfl) (fun _ h => by cases h) scanStarts_row_tie rfl ⟨rfl, rfl⟩ (by kernel_rfl) rfl
    (fun f fn hf hfn => by
      obtain rfl : f = 5 := Option.some.inj ((show Tryd.prog.funcNamed "cabochon/cabochonlaw14.ScanStarts" = some 5 by kernel_rfl).symm.trans hf) |>.symm
      obtain rfl : fn = Tryd.f5 := (Option.some.inj (Tryd.func5.symm.trans hfn)).symm
      exact ⟨by kernel_rfl, fun j t ht => by
        have hm : t ∈ Tryd.f5.params.toList := by simpa using Array.mem_of_getElem? ht
        have hall : (Tryd.f5.params.toList.all fun u => !Tryd.prog.wantsStandIn u) = true := by kernel_rfl
        exact (show Tryd.prog.wantsStandIn t = false by simpa using List.all_eq_true.1 hall t hm)⟩)
    (by kernel_rfl)
#print axioms proved
end ScanStarts
end Go.Proofs.YteejemdibfbccaaDoor
