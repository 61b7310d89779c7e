/-
  Lemmas (G6 G7).
-/
import Derived.Test.YtfcjgklghgpddaaGreatDoorGm4
/-
  Contract: the program's reader: a line of code.
-/
namespace Go.Proofs.YtfcjgklghgpddaaGreatDoor
open Go.AX Go.RowKit Go.Erb
set_option maxRecDepth 20000

theorem idx10 : ∀ l : List UInt8, Lib.index l [10] = if l.contains 10 then ((l.takeWhile (· != 10)).length : Int) else -1
  | [] => rfl
  | b :: l => by
    unfold Lib.index
    rw [idx10 l]
    by_cases hb : b = 10
    · subst hb
      simp [List.isPrefixOf]
    · have h1 : [10].isPrefixOf (b :: l) = false := by simp [List.isPrefixOf]; exact fun h => hb h.symm
      have h2 : (b :: l).takeWhile (· != 10) = b :: l.takeWhile (· != 10) := by simp [hb]
      rw [if_neg (by simp [h1]), h2]
      have h3 : (b :: l).contains 10 = l.contains 10 := by simp; exact fun h => absurd h.symm hb
      rw [h3]
      split
      · rw [if_neg (by simp)]; simp
      · rfl
theorem cut10 (l : List UInt8) : Lib.cut l [10] = if l.contains 10 then (l.takeWhile (· != 10), l.drop ((l.takeWhile (· != 10)).length + 1), true) else (l, [], false) := by
  unfold Lib.cut
  rw [idx10]
  split
  · rw [if_pos (by omega)]
    have h := (List.takeWhile_prefix (p := (· != 10)) (l := l))
    rw [Int.toNat_natCast, ← List.prefix_iff_eq_take.1 h]
    rfl
  · rw [if_neg (by omega)]
theorem split10 (l : List UInt8) : (10 ∉ l) ∨ ∃ t r, l = t ++ 10 :: r ∧ 10 ∉ t := by
  induction l with
  | nil => exact .inl (by simp)
  | cons b l ih =>
    by_cases hb : b = 10
    · exact .inr ⟨[], l, by rw [hb]; rfl, by simp⟩
    · rcases ih with h | ⟨t, r, rfl, h⟩
      · exact .inl (by simp; exact ⟨fun e => hb e.symm, h⟩)
      · exact .inr ⟨b :: t, r, rfl, by simp; exact ⟨fun e => hb e.symm, h⟩⟩
theorem takeW_no {l : List UInt8} (h : 10 ∉ l) : l.takeWhile (· != 10) = l := by
  induction l with
  | nil => rfl
  | cons b l ih =>
    simp at h
    simp [show ¬ b = 10 from fun e => h.1 e.symm, ih h.2]
theorem takeW_at {t : List UInt8} (h : 10 ∉ t) (r : List UInt8) : (t ++ 10 :: r).takeWhile (· != 10) = t := by
  induction t with
  | nil => rfl
  | cons b l ih =>
    simp at h
    simp [show ¬ b = 10 from fun e => h.1 e.symm, ih h.2]
theorem cut10_no {l : List UInt8} (h : 10 ∉ l) : Lib.cut l [10] = (l, [], false) := by
  rw [cut10, if_neg (by simpa using h)]
theorem cut10_at {t : List UInt8} (h : 10 ∉ t) (r : List UInt8) : Lib.cut (t ++ 10 :: r) [10] = (t, r, true) := by
  rw [cut10, if_pos (by simp), takeW_at h]
  simp
theorem ln_app (a b : List UInt8) : ln (a ++ b) = ln a + (b.count 10 : Nat) := by simp [ln]; omega
theorem ln_bd (a : List UInt8) : 1 ≤ ln a ∧ ln a ≤ 1 + (a.length : Int) := by
  have := List.count_le_length (a := 10) (l := a)
  unfold ln; omega
theorem RHf_ok (r : RS) (m : MS) : okH (RH r m ++ [Ent.fact MaxF]).length (RH r m ++ [Ent.fact MaxF]) := okHB_eq rfl
theorem add_x (s : List UInt8) (at_ : Nat) (line : Int) (lines : Bool) (out : List Part) (plain : List UInt8) (begun : Int) (m : MS) (c : UInt8) (ok : m.ok ⟨s, at_, line, lines, out, plain, begun⟩) (hl : -1000000 ≤ line ∧ line ≤ 1000000) (hp : plain.length ≤ 1000000) : SpecH Tryz.prog 31 [.c (.lp 0 0), .c (.v (.int .u8 (c.toNat : Int)))] (RH ⟨s, at_, line, lines, out, plain, begun⟩ m)
    (RetM ⟨s, at_, if c = 10 then line + 1 else line, lines, out, plain ++ [c], if plain.isEmpty then line else begun⟩ unit) := add_c _ m c ok hl hp
theorem starts_x (s : List UInt8) (at_ : Nat) (line : Int) (lines : Bool) (out : List Part) (plain : List UInt8) (begun : Int) (m : MS) (ok : m.ok ⟨s, at_, line, lines, out, plain, begun⟩) (ha : at_ ≤ s.length) (hs : s.length ≤ 1000000) : SpecH Tryz.prog 28 [.c (.lp 0 0)] (RH ⟨s, at_, line, lines, out, plain, begun⟩ m) (RetM ⟨s, at_, line, lines, out, plain, begun⟩ (.bool (bol (s.take at_)))) := starts_c _ m ok ha hs
/-- The call hands back v, and leaves the reader as r', beside the fact. -/
def RetF (r : RS) (v : Value) : Out → List Ent → Prop := RetG (ι := MS) (fun m => m.ok r) (fun _ => v) fun m => RH r m ++ [.fact MaxF]
def outC (out : List Part) (plain : List UInt8) (begun : Int) : List Part := if plain.isEmpty then out else out ++ [⟨0, begun, plain⟩]
theorem outC_len (out : List Part) (plain : List UInt8) (begun : Int) : (outC out plain begun).length ≤ out.length + 1 := by unfold outC; split <;> simp
theorem flush_x (s : List UInt8) (at_ : Nat) (line : Int) (lines : Bool) (out : List Part) (plain : List UInt8) (begun : Int) (m : MS) (ok : m.ok ⟨s, at_, line, lines, out, plain, begun⟩) (hp : plain.length ≤ 1000000) (ho : out.length ≤ 1000000) : SpecH Tryz.prog 33 [.c (.lp 0 0)] (RH ⟨s, at_, line, lines, out, plain, begun⟩ m)
    (RetM ⟨s, at_, line, lines, outC out plain begun, [], begun⟩ unit) := flush_c _ m ok hp ho
theorem codeLine_at (pre : List UInt8) (c : UInt8) (t r : List UInt8) (ht : 10 ∉ t) (lines : Bool) (out : List Part) (plain : List UInt8) (begun : Int) (m : MS) (ok : m.ok ⟨pre ++ c :: (t ++ 10 :: r), pre.length, ln pre, lines, out, plain, begun⟩) (hs : (pre ++ c :: (t ++ 10 :: r)).length ≤ 100000) (ho : out.length ≤ 900000) (hp : plain.length ≤ 1000000) :
    SpecH Tryz.prog 30 [.c (.lp 0 0)] (RH ⟨pre ++ c :: (t ++ 10 :: r), pre.length, ln pre, lines, out, plain, begun⟩ m ++ [.fact MaxF])
    (RetF ⟨pre ++ c :: (t ++ 10 :: r), pre.length + t.length + 2, ln pre + 1, lines, outC out plain begun ++ [⟨1, ln pre, t⟩], [], begun⟩ unit) := by
  refine ownC hm Tryz.func30 (by kernel_rfl) rfl rfl (fun _ _ => RHf_ok _ _) (fun _ _ => Nat.le_refl _) ?_
  have hln := ln_bd pre
  have hpl : pre.length + t.length + 1 ≤ 100000 := by simp at hs; omega
  have hd : (pre ++ c :: (t ++ 10 :: r)).drop (pre.length + 1) = (t ++ 10 :: r) := by rw [List.drop_append]; simp
  have hw1 : IntKind.wrap .i64 ((pre.length : Int) + 1) = ((pre.length + 1 : Nat) : Int) := by rw [wrap_i64 (by omega)]; omega
  have hC := Cut_c (t ++ 10 :: r) [10] (by simp at hs ⊢; omega)
  rw [cut10_at ht] at hC
  have hol := outC_len out plain begun
  ((conv => whnf); (repeat ((first | refine BoxN.own ?_ | refine VrN.norm (wrap_i64 (by omega)) ?_ | refine VrN.keep ?_ | refine DrawN.calm (by decide +kernel) ?_ | refine Nd.mk (by decide +kernel) ?_ | refine Nd.mk (by omega) ?_ | (refine Nd.mk ?_ ?_; focus ((repeat' (first | exact trivial | exact wkE_refl _ | refine And.intro ?_ ?_)); done)) | refine RdN.intro _ rfl (by rfl) ?_); (conv => whnf))))
  rw [hw1]
  refine ReadW.sl_l (pre.length + 1) rfl (by kernel_rfl) rfl rfl ⟨rfl, by simp⟩ ?_
  rw [hd]
  ((conv => whnf); (repeat ((first | refine BoxN.own ?_ | refine VrN.norm (wrap_i64 (by omega)) ?_ | refine VrN.keep ?_ | refine DrawN.calm (by decide +kernel) ?_ | refine Nd.mk (by decide +kernel) ?_ | refine Nd.mk (by omega) ?_ | (refine Nd.mk ?_ ?_; focus ((repeat' (first | exact trivial | exact wkE_refl _ | refine And.intro ?_ ?_)); done)) | refine RdN.intro _ rfl (by rfl) ?_); (conv => whnf)))); refine callQ (hC _ fun w hw => hw.2.2.1) ?_
  ((conv => whnf); (repeat ((first | refine BoxN.own ?_ | refine VrN.norm (wrap_i64 (by omega)) ?_ | refine VrN.keep ?_ | refine DrawN.calm (by decide +kernel) ?_ | refine Nd.mk (by decide +kernel) ?_ | refine Nd.mk (by omega) ?_ | (refine Nd.mk ?_ ?_; focus ((repeat' (first | exact trivial | exact wkE_refl _ | refine And.intro ?_ ?_)); done)) | refine RdN.intro _ rfl (by rfl) ?_); (conv => whnf))))
  refine callG (flush_x (pre ++ c :: (t ++ 10 :: r)) pre.length (ln pre) lines out plain begun m ok hp (by omega)) [0, 1, 2] rfl ⟨rfl, rfl, rfl, trivial⟩ rfl fun m' ok' => ?_
  obtain ⟨⟨ob, oc⟩, ⟨pb, pc⟩⟩ := m'
  obtain ⟨h1, h2⟩ := ok'
  ((conv => whnf); (repeat ((first | refine BoxN.own ?_ | refine VrN.norm (wrap_i64 (by omega)) ?_ | refine VrN.keep ?_ | refine DrawN.calm (by decide +kernel) ?_ | refine Nd.mk (by decide +kernel) ?_ | refine Nd.mk (by omega) ?_ | (refine Nd.mk ?_ ?_; focus ((repeat' (first | exact trivial | exact wkE_refl _ | refine And.intro ?_ ?_)); done)) | refine RdN.intro _ rfl (by rfl) ?_); (conv => whnf))))
  refine DrawN.plan [0, 1, 5, 9] [(2, 1), (3, 1), (4, 1), (6, 1), (7, 1), (8, 1), (10, 1), (11, 0)] [(12, 0), (13, 0), (14, 0), (15, 0)] (by decide +kernel) ?_
  ((conv => whnf); (repeat ((first | refine BoxN.own ?_ | refine VrN.norm (wrap_i64 (by omega)) ?_ | refine VrN.keep ?_ | refine DrawN.calm (by decide +kernel) ?_ | refine Nd.mk (by decide +kernel) ?_ | refine Nd.mk (by omega) ?_ | (refine Nd.mk ?_ ?_; focus ((repeat' (first | exact trivial | exact wkE_refl _ | refine And.intro ?_ ?_)); done)) | refine RdN.intro _ rfl (by rfl) ?_); (conv => whnf))))
  refine Nd.mk ⟨by omega, rfl, rfl⟩ ?_
  (conv => whnf)
  refine AppN.grow 1 (partsC (outC out plain begun)) _ rfl rfl ⟨by omega, ⟨by show ((outC out plain begun).length + 1) * 32 ≤ _; omega, by show (outC out plain begun).length + 1 < _; omega⟩, by decide⟩ fun b' cap' h3 h4 => ?_
  ((conv => whnf); (repeat ((first | refine BoxN.own ?_ | refine VrN.norm (wrap_i64 (by omega)) ?_ | refine VrN.keep ?_ | refine DrawN.calm (by decide +kernel) ?_ | refine Nd.mk (by decide +kernel) ?_ | refine Nd.mk (by omega) ?_ | (refine Nd.mk ?_ ?_; focus ((repeat' (first | exact trivial | exact wkE_refl _ | refine And.intro ?_ ?_)); done)) | refine RdN.intro _ rfl (by rfl) ?_); (conv => whnf))))
  have e1 : IntKind.wrap .i64 (IntKind.wrap .i64 ((pre.length : Int) + IntKind.wrap .i64 (1 + ((bs t).size : Int))) + 1) = ((pre.length + t.length + 2 : Nat) : Int) := by
    rw [bs_size, wrap_i64 (x := 1 + (t.length : Int)) (by omega), wrap_i64 (x := (pre.length : Int) + (1 + (t.length : Int))) (by omega), wrap_i64 (by omega)]
    omega
  have e2 : IntKind.wrap .i64 (ln pre + 1) = ln pre + 1 := wrap_i64 (by omega)
  refine ⟨⟨⟨some b', cap'⟩, ⟨pb, pc⟩⟩, ⟨⟨(fun h => by cases h), by rw [List.length_append]; exact h3, fun h => by have h : cap' = 0 := h; omega⟩, h2⟩, rfl, ?_⟩
  refine wkH_cons ?_ (wkH_cons ?_ (wkH_cons rfl (wkH_cons rfl (wkH_nil _))))
  · simp only [rnCs, rnC]
    rw [e1, e2]
    simp [outC, at0]
  · simp [outC, at0, partsC_app]
    exact ⟨rfl, rfl⟩
theorem codeLine_no (pre : List UInt8) (c : UInt8) (t : List UInt8) (ht : 10 ∉ t) (lines : Bool) (out : List Part) (plain : List UInt8) (begun : Int) (m : MS) (ok : m.ok ⟨pre ++ c :: t, pre.length, ln pre, lines, out, plain, begun⟩) (hs : (pre ++ c :: t).length ≤ 100000) (ho : out.length ≤ 900000) (hp : plain.length ≤ 1000000) :
    SpecH Tryz.prog 30 [.c (.lp 0 0)] (RH ⟨pre ++ c :: t, pre.length, ln pre, lines, out, plain, begun⟩ m ++ [.fact MaxF])
    (RetF ⟨pre ++ c :: t, pre.length + t.length + 1, ln pre, lines, outC out plain begun ++ [⟨1, ln pre, t⟩], [], begun⟩ unit) := by
  refine ownC hm Tryz.func30 (by kernel_rfl) rfl rfl (fun _ _ => RHf_ok _ _) (fun _ _ => Nat.le_refl _) ?_
  have hln := ln_bd pre
  have hpl : pre.length + t.length + 1 ≤ 100000 := by simp at hs; omega
  have hd : (pre ++ c :: t).drop (pre.length + 1) = t := by rw [List.drop_append]; simp
  have hw1 : IntKind.wrap .i64 ((pre.length : Int) + 1) = ((pre.length + 1 : Nat) : Int) := by rw [wrap_i64 (by omega)]; omega
  have hC := Cut_c t [10] (by simp at hs ⊢; omega)
  rw [cut10_no ht] at hC
  have hol := outC_len out plain begun
  ((conv => whnf); (repeat ((first | refine BoxN.own ?_ | refine VrN.norm (wrap_i64 (by omega)) ?_ | refine VrN.keep ?_ | refine DrawN.calm (by decide +kernel) ?_ | refine Nd.mk (by decide +kernel) ?_ | refine Nd.mk (by omega) ?_ | (refine Nd.mk ?_ ?_; focus ((repeat' (first | exact trivial | exact wkE_refl _ | refine And.intro ?_ ?_)); done)) | refine RdN.intro _ rfl (by rfl) ?_); (conv => whnf))))
  rw [hw1]
  refine ReadW.sl_l (pre.length + 1) rfl (by kernel_rfl) rfl rfl ⟨rfl, by simp⟩ ?_
  rw [hd]
  ((conv => whnf); (repeat ((first | refine BoxN.own ?_ | refine VrN.norm (wrap_i64 (by omega)) ?_ | refine VrN.keep ?_ | refine DrawN.calm (by decide +kernel) ?_ | refine Nd.mk (by decide +kernel) ?_ | refine Nd.mk (by omega) ?_ | (refine Nd.mk ?_ ?_; focus ((repeat' (first | exact trivial | exact wkE_refl _ | refine And.intro ?_ ?_)); done)) | refine RdN.intro _ rfl (by rfl) ?_); (conv => whnf)))); refine callQ (hC _ fun w hw => hw.2.2.1) ?_
  ((conv => whnf); (repeat ((first | refine BoxN.own ?_ | refine VrN.norm (wrap_i64 (by omega)) ?_ | refine VrN.keep ?_ | refine DrawN.calm (by decide +kernel) ?_ | refine Nd.mk (by decide +kernel) ?_ | refine Nd.mk (by omega) ?_ | (refine Nd.mk ?_ ?_; focus ((repeat' (first | exact trivial | exact wkE_refl _ | refine And.intro ?_ ?_)); done)) | refine RdN.intro _ rfl (by rfl) ?_); (conv => whnf))))
  refine callG (flush_x (pre ++ c :: t) pre.length (ln pre) lines out plain begun m ok hp (by omega)) [0, 1, 2] rfl ⟨rfl, rfl, rfl, trivial⟩ rfl fun m' ok' => ?_
  obtain ⟨⟨ob, oc⟩, ⟨pb, pc⟩⟩ := m'
  obtain ⟨h1, h2⟩ := ok'
  ((conv => whnf); (repeat ((first | refine BoxN.own ?_ | refine VrN.norm (wrap_i64 (by omega)) ?_ | refine VrN.keep ?_ | refine DrawN.calm (by decide +kernel) ?_ | refine Nd.mk (by decide +kernel) ?_ | refine Nd.mk (by omega) ?_ | (refine Nd.mk ?_ ?_; focus ((repeat' (first | exact trivial | exact wkE_refl _ | refine And.intro ?_ ?_)); done)) | refine RdN.intro _ rfl (by rfl) ?_); (conv => whnf))))
  refine DrawN.plan [0, 1, 5, 9] [(2, 1), (3, 1), (4, 1), (6, 1), (7, 1), (8, 1), (10, 1), (11, 0)] [(12, 0), (13, 0), (14, 0), (15, 0)] (by decide +kernel) ?_
  ((conv => whnf); (repeat ((first | refine BoxN.own ?_ | refine VrN.norm (wrap_i64 (by omega)) ?_ | refine VrN.keep ?_ | refine DrawN.calm (by decide +kernel) ?_ | refine Nd.mk (by decide +kernel) ?_ | refine Nd.mk (by omega) ?_ | (refine Nd.mk ?_ ?_; focus ((repeat' (first | exact trivial | exact wkE_refl _ | refine And.intro ?_ ?_)); done)) | refine RdN.intro _ rfl (by rfl) ?_); (conv => whnf))))
  refine Nd.mk ⟨by omega, rfl, rfl⟩ ?_
  (conv => whnf)
  refine AppN.grow 1 (partsC (outC out plain begun)) _ rfl rfl ⟨by omega, ⟨by show ((outC out plain begun).length + 1) * 32 ≤ _; omega, by show (outC out plain begun).length + 1 < _; omega⟩, by decide⟩ fun b' cap' h3 h4 => ?_
  ((conv => whnf); (repeat ((first | refine BoxN.own ?_ | refine VrN.norm (wrap_i64 (by omega)) ?_ | refine VrN.keep ?_ | refine DrawN.calm (by decide +kernel) ?_ | refine Nd.mk (by decide +kernel) ?_ | refine Nd.mk (by omega) ?_ | (refine Nd.mk ?_ ?_; focus ((repeat' (first | exact trivial | exact wkE_refl _ | refine And.intro ?_ ?_)); done)) | refine RdN.intro _ rfl (by rfl) ?_); (conv => whnf))))
  have e1 : IntKind.wrap .i64 ((pre.length : Int) + IntKind.wrap .i64 (1 + ((bs t).size : Int))) = ((pre.length + t.length + 1 : Nat) : Int) := by
    rw [bs_size, wrap_i64 (x := 1 + (t.length : Int)) (by omega), wrap_i64 (by omega)]
    omega
  refine ⟨⟨⟨some b', cap'⟩, ⟨pb, pc⟩⟩, ⟨⟨(fun h => by cases h), by rw [List.length_append]; exact h3, fun h => by have h : cap' = 0 := h; omega⟩, h2⟩, rfl, ?_⟩
  refine wkH_cons ?_ (wkH_cons ?_ (wkH_cons rfl (wkH_cons rfl (wkH_nil _))))
  · simp only [rnCs, rnC]
    rw [e1]
    simp [outC, at0]
  · simp [outC, at0, partsC_app]
    exact ⟨rfl, rfl⟩
end Go.Proofs.YtfcjgklghgpddaaGreatDoor

/-
  Contract: the program's reader: a tag.
-/
namespace Go.Proofs.YtfcjgklghgpddaaGreatDoor
open Go.AX Go.RowKit Go.Erb
set_option maxRecDepth 20000

/-- The blanks at the end of what was read are those at the end of the text so far. -/
structure Bl (pre plain fp : List UInt8) : Prop where
  ex : ∃ u c b : List UInt8, pre = u ++ b ∧ plain = c ++ b ∧ (∀ x ∈ b, blankB x = true) ∧ (∀ x, u.getLast? = some x → blankB x = false) ∧
    (c = [] → b ≠ [] → fp = u) ∧ (c ≠ [] → c.getLast? = u.getLast?)
theorem trimE_split {u b : List UInt8} (hb : ∀ x ∈ b, blankB x = true) (hu : ∀ x, u.getLast? = some x → blankB x = false) : trimE blankB (u ++ b) = u := by
  unfold trimE
  rw [List.reverse_append, List.dropWhile_append_of_pos (by simpa using hb)]
  cases hr : u.reverse with
  | nil => simpa using hr.symm
  | cons x l =>
    have hx : u.getLast? = some x := by
      have := congrArg List.head? hr
      rwa [List.head?_reverse] at this
    rw [List.dropWhile_cons_of_neg (by simp [hu x hx]), ← hr, List.reverse_reverse]
theorem trimR_eq (l : List UInt8) : trimR l = trimE blankB l := rfl
theorem lastAt_no {s : List UInt8} {c : UInt8} (h : c ∉ s) : ∀ k, lastAt s c k = -1
  | 0 => rfl
  | k + 1 => by
    unfold lastAt
    rw [if_neg (fun h2 => h (List.mem_of_getElem? h2)), lastAt_no h k]
theorem lastAt_at (x y : List UInt8) (c : UInt8) (hy : c ∉ y) : ∀ j, j ≤ y.length → lastAt (x ++ c :: y) c (x.length + 1 + j) = (x.length : Int)
  | 0, _ => by
    rw [Nat.add_zero]
    unfold lastAt
    simp
  | j + 1, hj => by
    rw [show x.length + 1 + (j + 1) = (x.length + 1 + j) + 1 by omega]
    unfold lastAt
    have : (x ++ c :: y)[x.length + 1 + j]? ≠ some c := by
      rw [List.getElem?_append_right (by omega), show x.length + 1 + j - x.length = j + 1 by omega, List.getElem?_cons_succ]
      exact fun h => hy (List.mem_of_getElem? h)
    rw [if_neg this, lastAt_at x y c hy j (by omega)]
theorem split_last (l : List UInt8) (c : UInt8) : c ∉ l ∨ ∃ x y, l = x ++ c :: y ∧ c ∉ y := by
  induction l with
  | nil => exact .inl (by simp)
  | cons d l ih =>
    rcases ih with hn | ⟨x, y, rfl, hy⟩
    · by_cases hd : d = c
      · exact .inr ⟨[], l, by rw [hd]; rfl, hn⟩
      · exact .inl (by simp; exact ⟨fun e => hd e.symm, hn⟩)
    · exact .inr ⟨d :: x, y, rfl, hy⟩
theorem dropW_nil {p : UInt8 → Bool} {l : List UInt8} : l.dropWhile p = [] ↔ ∀ x ∈ l, p x = true := by
  induction l with
  | nil => simp
  | cons d l ih =>
    by_cases hd : p d = true
    · rw [List.dropWhile_cons_of_pos hd, ih]; simp [hd]
    · rw [List.dropWhile_cons_of_neg hd]; simp [hd]
theorem allB_iff (l : List UInt8) : allB l = true ↔ ∀ x ∈ l, blankB x = true := by
  unfold allB
  rw [List.isEmpty_iff, dropW_nil]
  constructor
  · intro h x hx
    by_cases hb : blankB x = true
    · exact hb
    · -- what is no blank is kept
      have : x ∈ trimE blankB l := by
        unfold trimE
        rw [List.mem_reverse]
        have hx' : x ∈ l.reverse := by simpa using hx
        rw [← List.takeWhile_append_dropWhile (p := blankB) (l := l.reverse)] at hx'
        rcases List.mem_append.1 hx' with h1 | h1
        · exact absurd (by have := List.all_takeWhile (p := blankB) (l := l.reverse); rw [List.all_eq_true] at this; exact this x h1) hb
        · exact h1
      exact h x this
  · intro h x hx
    unfold trimE at hx
    rw [List.mem_reverse] at hx
    exact h x (by simpa using (List.dropWhile_suffix _).subset hx)
/-- The margin that the program takes away is the text trimmed. -/
theorem margin_eq {pre plain fp : List UInt8} (h : Bl pre plain fp) : ∃ f : Nat, lastAt pre 10 pre.length + 1 = f ∧ (allB (pre.drop f) = true → pre.length - f ≤ plain.length) ∧
    (if allB (pre.drop f) then plain.take (plain.length - (pre.length - f)) else plain) = trim plain fp := by
  obtain ⟨u, c, b, rfl, rfl, hb, hu, h0, h1⟩ := h.ex
  have h10b : (10 : UInt8) ∉ b := fun h => by have := hb 10 h; exact absurd this (by decide)
  -- the place where the line begins
  have hplace : ∃ f : Nat, lastAt (u ++ b) 10 (u ++ b).length + 1 = f ∧ ((∀ x ∈ (u ++ b).drop f, blankB x = true) ↔ (u = [] ∨ u.getLast? = some 10)) ∧ (u = [] ∨ u.getLast? = some 10 → f = u.length) := by
    rcases split_last u 10 with hn | ⟨x, y, rfl, hy⟩
    · refine ⟨0, by rw [lastAt_no (by simp; exact ⟨hn, h10b⟩)]; rfl, ?_, ?_⟩
      · rw [List.drop_zero]
        constructor
        · intro h
          left
          cases hl : u.getLast? with
          | none => simpa using hl
          | some z => exact absurd (h z (List.mem_append_left _ (List.mem_of_getLast? hl))) (by simp [hu z hl])
        · rintro (rfl | h)
          · simpa using hb
          · exact absurd (List.mem_of_getLast? h) hn
      · rintro (rfl | h)
        · rfl
        · exact absurd (List.mem_of_getLast? h) hn
    · have hl := lastAt_at x (y ++ b) 10 (by simp; exact ⟨hy, h10b⟩) (y ++ b).length (Nat.le_refl _)
      rw [show x ++ 10 :: (y ++ b) = x ++ 10 :: y ++ b by simp, show x.length + 1 + (y ++ b).length = (x ++ 10 :: y ++ b).length by simp; omega] at hl
      refine ⟨x.length + 1, by rw [hl]; omega, ?_, ?_⟩
      · rw [show (x ++ 10 :: y ++ b).drop (x.length + 1) = y ++ b by rw [List.append_assoc, List.drop_append]; simp]
        constructor
        · intro h
          right
          cases hyl : y.getLast? with
          | none =>
            have : y = [] := by simpa using hyl
            subst this
            simp
          | some z =>
            have hz : (x ++ 10 :: y).getLast? = some z := by
              rw [List.getLast?_append, List.getLast?_cons, hyl]; rfl
            exact absurd (h z (List.mem_append_left _ (List.mem_of_getLast? hyl))) (by simp [hu z hz])
        · rintro (h | h)
          · simp at h
          · intro z hz
            rcases List.mem_append.1 hz with hz | hz
            · cases hyl : y.getLast? with
              | none =>
                have : y = [] := by simpa using hyl
                subst this
                cases hz
              | some q =>
                have hq : (x ++ 10 :: y).getLast? = some q := by
                  rw [List.getLast?_append, List.getLast?_cons, hyl]; rfl
                rw [hq] at h
                cases h
                exact absurd (List.mem_of_getLast? hyl) hy
            · exact hb z hz
      · rintro (h | h)
        · simp at h
        · cases hyl : y.getLast? with
          | none =>
            have : y = [] := by simpa using hyl
            subst this
            simp
          | some q =>
            have hq : (x ++ 10 :: y).getLast? = some q := by
              rw [List.getLast?_append, List.getLast?_cons, hyl]; rfl
            rw [hq] at h
            cases h
            exact absurd (List.mem_of_getLast? hyl) hy
  obtain ⟨f, hf, hiff, hfu⟩ := hplace
  have hall : allB ((u ++ b).drop f) = true ↔ (u = [] ∨ u.getLast? = some 10) := (allB_iff _).trans hiff
  refine ⟨f, hf, fun h => ?_, ?_⟩
  · rw [hfu (hall.1 h)]; simp
  · -- the text, trimmed
    have hcl : ∀ x, c.getLast? = some x → blankB x = false := fun x hx => by
      have hc : c ≠ [] := fun e => by rw [e] at hx; cases hx
      exact hu x (by rw [← h1 hc]; exact hx)
    have ht : trimR (c ++ b) = c := by rw [trimR_eq]; exact trimE_split hb hcl
    unfold trim
    rw [ht]
    by_cases hA : u = [] ∨ u.getLast? = some 10
    · rw [if_pos (hall.2 hA), hfu hA]
      have e : (c ++ b).take ((c ++ b).length - ((u ++ b).length - u.length)) = c := by
        rw [show (c ++ b).length - ((u ++ b).length - u.length) = c.length by simp]
        simp
      rw [e]
      by_cases hc : c = []
      · subst hc
        by_cases hb0 : b = []
        · subst hb0; simp
        · have hfp := h0 rfl hb0
          rw [if_pos]
          simp only [List.isEmpty_nil, Bool.true_and, Bool.or_eq_true]
          left
          rw [hfp]
          rcases hA with rfl | h
          · rfl
          · simp [bol, h]
      · rw [if_pos]
        rw [Bool.or_eq_true]
        right
        rw [h1 hc]
        rcases hA with rfl | h
        · have := h1 hc; simp at this; exact absurd this hc
        · rw [h]; rfl
    · rw [if_neg (fun h => hA (hall.1 h))]
      by_cases hc : c = []
      · subst hc
        by_cases hb0 : b = []
        · subst hb0; simp
        · have hfp := h0 rfl hb0
          rw [if_neg]
          simp only [List.isEmpty_nil, Bool.true_and, List.getLast?_nil, Bool.or_eq_true, not_or]
          refine ⟨fun h => hA ?_, by decide⟩
          rw [hfp] at h
          unfold bol at h
          cases hl : u.getLast? with
          | none => left; simpa using hl
          | some z => rw [hl] at h; right; rw [beq_iff_eq.1 h]
      · rw [if_neg]
        rw [Bool.or_eq_true, not_or]
        refine ⟨by cases c <;> simp_all, fun h => hA (.inr ?_)⟩
        rw [← h1 hc]
        exact beq_iff_eq.1 h
end Go.Proofs.YtfcjgklghgpddaaGreatDoor
