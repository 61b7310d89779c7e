/-
  Contract: the program's reader: a line of code.
-/
import Derived.Test.YtfcjgklghgpddaaDoorG5
namespace Go.Proofs.YtfcjgklghgpddaaDoor
open Go.AX Go.RowKit Go.Erb
set_option maxRecDepth 20000

theorem idx10 : ∀ l : List UInt8, Lib.index l [10] = if l.contains 10 then ((l.takeWhile (· != 10)).length : Int) else -1
  | [] => rfl
  | b :: l => by
    unfold Lib.index
    rw [idx10 l]
    by_cases hb : b = 10
    · subst hb
      simp [List.isPrefixOf]
    · have h1 : [10].isPrefixOf (b :: l) = false := by simp [List.isPrefixOf]; exact fun h => hb h.symm
      have h2 : (b :: l).takeWhile (· != 10) = b :: l.takeWhile (· != 10) := by simp [hb]
      rw [if_neg (by simp [h1]), h2]
      have h3 : (b :: l).contains 10 = l.contains 10 := by simp; exact fun h => absurd h.symm hb
      rw [h3]
      split
      · rw [if_neg (by simp)]; simp
      · rfl
theorem cut10 (l : List UInt8) : Lib.cut l [10] = if l.contains 10 then (l.takeWhile (· != 10), l.drop ((l.takeWhile (· != 10)).length + 1), true) else (l, [], false) := by
  unfold Lib.cut
  rw [idx10]
  split
  · rw [if_pos (by omega)]
    have h := (List.takeWhile_prefix (p := (· != 10)) (l := l))
    rw [Int.toNat_natCast, ← List.prefix_iff_eq_take.1 h]
    rfl
  · rw [if_neg (by omega)]
theorem split10 (l : List UInt8) : (10 ∉ l) ∨ ∃ t r, l = t ++ 10 :: r ∧ 10 ∉ t := by
  induction l with
  | nil => exact .inl (by simp)
  | cons b l ih =>
    by_cases hb : b = 10
    · exact .inr ⟨[], l, by rw [hb]; rfl, by simp⟩
    · rcases ih with h | ⟨t, r, rfl, h⟩
      · exact .inl (by simp; exact ⟨fun e => hb e.symm, h⟩)
      · exact .inr ⟨b :: t, r, rfl, by simp; exact ⟨fun e => hb e.symm, h⟩⟩
theorem takeW_no {l : List UInt8} (h : 10 ∉ l) : l.takeWhile (· != 10) = l := by
  induction l with
  | nil => rfl
  | cons b l ih =>
    simp at h
    simp [show ¬ b = 10 from fun e => h.1 e.symm, ih h.2]
theorem takeW_at {t : List UInt8} (h : 10 ∉ t) (r : List UInt8) : (t ++ 10 :: r).takeWhile (· != 10) = t := by
  induction t with
  | nil => rfl
  | cons b l ih =>
    simp at h
    simp [show ¬ b = 10 from fun e => h.1 e.symm, ih h.2]
theorem cut10_no {l : List UInt8} (h : 10 ∉ l) : Lib.cut l [10] = (l, [], false) := by
  rw [cut10, if_neg (by simpa using h)]
theorem cut10_at {t : List UInt8} (h : 10 ∉ t) (r : List UInt8) : Lib.cut (t ++ 10 :: r) [10] = (t, r, true) := by
  rw [cut10, if_pos (by simp), takeW_at h]
  simp
theorem ln_app (a b : List UInt8) : ln (a ++ b) = ln a + (b.count 10 : Nat) := by simp [ln]; omega
theorem ln_bd (a : List UInt8) : 1 ≤ ln a ∧ ln a ≤ 1 + (a.length : Int) := by
  have := List.count_le_length (a := 10) (l := a)
  unfold ln; omega
theorem RHf_ok (r : RS) (m : MS) : okH (RH r m ++ [Ent.fact MaxF]).length (RH r m ++ [Ent.fact MaxF]) := okHB_eq rfl
theorem add_x (s : List UInt8) (at_ : Nat) (line : Int) (lines : Bool) (out : List Part) (plain : List UInt8) (begun : Int) (m : MS) (c : UInt8) (ok : m.ok ⟨s, at_, line, lines, out, plain, begun⟩) (hl : -1000000 ≤ line ∧ line ≤ 1000000) (hp : plain.length ≤ 1000000) : SpecH Tryd.prog 25 [.c (.lp 0 0), .c (.v (.int .u8 (c.toNat : Int)))] (RH ⟨s, at_, line, lines, out, plain, begun⟩ m)
    (RetM ⟨s, at_, if c = 10 then line + 1 else line, lines, out, plain ++ [c], if plain.isEmpty then line else begun⟩ unit) := add_c _ m c ok hl hp
theorem starts_x (s : List UInt8) (at_ : Nat) (line : Int) (lines : Bool) (out : List Part) (plain : List UInt8) (begun : Int) (m : MS) (ok : m.ok ⟨s, at_, line, lines, out, plain, begun⟩) (ha : at_ ≤ s.length) (hs : s.length ≤ 1000000) : SpecH Tryd.prog 22 [.c (.lp 0 0)] (RH ⟨s, at_, line, lines, out, plain, begun⟩ m) (RetM ⟨s, at_, line, lines, out, plain, begun⟩ (.bool (bol (s.take at_)))) := starts_c _ m ok ha hs
/-- The call hands back v, and leaves the reader as r', beside the fact. -/
def RetF (r : RS) (v : Value) : Out → List Ent → Prop := RetG (ι := MS) (fun m => m.ok r) (fun _ => v) fun m => RH r m ++ [.fact MaxF]
def outC (out : List Part) (plain : List UInt8) (begun : Int) : List Part := if plain.isEmpty then out else out ++ [⟨0, begun, plain⟩]
theorem outC_len (out : List Part) (plain : List UInt8) (begun : Int) : (outC out plain begun).length ≤ out.length + 1 := by unfold outC; split <;> simp
theorem flush_x (s : List UInt8) (at_ : Nat) (line : Int) (lines : Bool) (out : List Part) (plain : List UInt8) (begun : Int) (m : MS) (ok : m.ok ⟨s, at_, line, lines, out, plain, begun⟩) (hp : plain.length ≤ 1000000) (ho : out.length ≤ 1000000) : SpecH Tryd.prog 27 [.c (.lp 0 0)] (RH ⟨s, at_, line, lines, out, plain, begun⟩ m)
    (RetM ⟨s, at_, line, lines, outC out plain begun, [], begun⟩ unit) := flush_c _ m ok hp ho
theorem codeLine_at (pre : List UInt8) (c : UInt8) (t r : List UInt8) (ht : 10 ∉ t) (lines : Bool) (out : List Part) (plain : List UInt8) (begun : Int) (m : MS) (ok : m.ok ⟨pre ++ c :: (t ++ 10 :: r), pre.length, ln pre, lines, out, plain, begun⟩) (hs : (pre ++ c :: (t ++ 10 :: r)).length ≤ 100000) (ho : out.length ≤ 900000) (hp : plain.length ≤ 1000000) :
    SpecH Tryd.prog 24 [.c (.lp 0 0)] (RH ⟨pre ++ c :: (t ++ 10 :: r), pre.length, ln pre, lines, out, plain, begun⟩ m ++ [.fact MaxF])
    (RetF ⟨pre ++ c :: (t ++ 10 :: r), pre.length + t.length + 2, ln pre + 1, lines, outC out plain begun ++ [⟨1, ln pre, t⟩], [], begun⟩ unit) := by
  refine ownC hm Tryd.func24 (by kernel_rfl) rfl rfl (fun _ _ => RHf_ok _ _) (fun _ _ => Nat.le_refl _) ?_
  have hln := ln_bd pre
  have hpl : pre.length + t.length + 1 ≤ 100000 := by simp at hs; omega
  have hd : (pre ++ c :: (t ++ 10 :: r)).drop (pre.length + 1) = (t ++ 10 :: r) := by rw [List.drop_append]; simp
  have hw1 : IntKind.wrap .i64 ((pre.length : Int) + 1) = ((pre.length + 1 : Nat) : Int) := by rw [wrap_i64 (by omega)]; omega
  have hC := Cut_c (t ++ 10 :: r) [10] (by simp at hs ⊢; omega)
  rw [cut10_at ht] at hC
  have hol := outC_len out plain begun
  ((conv => whnf); (repeat ((first | refine VrN.norm (wrap_i64 (by omega)) ?_ | refine VrN.keep ?_ | refine DrawN.calm (by decide +kernel) ?_ | refine Nd.mk (by decide +kernel) ?_ | refine Nd.mk (by omega) ?_ | (refine Nd.mk ?_ ?_; focus ((repeat' (first | exact trivial | exact wkE_refl _ | refine And.intro ?_ ?_)); done)) | refine RdN.intro _ rfl (by rfl) ?_); (conv => whnf))))
  rw [hw1]
  refine ReadW.sl_l (pre.length + 1) rfl (by kernel_rfl) rfl rfl ⟨rfl, by simp⟩ ?_
  rw [hd]
  ((conv => whnf); (repeat ((first | refine VrN.norm (wrap_i64 (by omega)) ?_ | refine VrN.keep ?_ | refine DrawN.calm (by decide +kernel) ?_ | refine Nd.mk (by decide +kernel) ?_ | refine Nd.mk (by omega) ?_ | (refine Nd.mk ?_ ?_; focus ((repeat' (first | exact trivial | exact wkE_refl _ | refine And.intro ?_ ?_)); done)) | refine RdN.intro _ rfl (by rfl) ?_); (conv => whnf)))); refine callQ (hC _ fun w hw => hw.2.2.1) ?_
  ((conv => whnf); (repeat ((first | refine VrN.norm (wrap_i64 (by omega)) ?_ | refine VrN.keep ?_ | refine DrawN.calm (by decide +kernel) ?_ | refine Nd.mk (by decide +kernel) ?_ | refine Nd.mk (by omega) ?_ | (refine Nd.mk ?_ ?_; focus ((repeat' (first | exact trivial | exact wkE_refl _ | refine And.intro ?_ ?_)); done)) | refine RdN.intro _ rfl (by rfl) ?_); (conv => whnf))))
  refine callG (flush_x (pre ++ c :: (t ++ 10 :: r)) pre.length (ln pre) lines out plain begun m ok hp (by omega)) [0, 1, 2] rfl ⟨rfl, rfl, rfl, trivial⟩ rfl fun m' ok' => ?_
  obtain ⟨⟨ob, oc⟩, ⟨pb, pc⟩⟩ := m'
  obtain ⟨h1, h2⟩ := ok'
  ((conv => whnf); (repeat ((first | refine VrN.norm (wrap_i64 (by omega)) ?_ | refine VrN.keep ?_ | refine DrawN.calm (by decide +kernel) ?_ | refine Nd.mk (by decide +kernel) ?_ | refine Nd.mk (by omega) ?_ | (refine Nd.mk ?_ ?_; focus ((repeat' (first | exact trivial | exact wkE_refl _ | refine And.intro ?_ ?_)); done)) | refine RdN.intro _ rfl (by rfl) ?_); (conv => whnf))))
  refine DrawN.plan [0, 1, 5, 9] [(2, 1), (3, 1), (4, 1), (6, 1), (7, 1), (8, 1), (10, 1), (11, 0)] [(12, 0), (13, 0), (14, 0), (15, 0)] (by decide +kernel) ?_
  ((conv => whnf); (repeat ((first | refine VrN.norm (wrap_i64 (by omega)) ?_ | refine VrN.keep ?_ | refine DrawN.calm (by decide +kernel) ?_ | refine Nd.mk (by decide +kernel) ?_ | refine Nd.mk (by omega) ?_ | (refine Nd.mk ?_ ?_; focus ((repeat' (first | exact trivial | exact wkE_refl _ | refine And.intro ?_ ?_)); done)) | refine RdN.intro _ rfl (by rfl) ?_); (conv => whnf))))
  refine Nd.mk ⟨by omega, rfl, rfl⟩ ?_
  (conv => whnf)
  refine AppN.grow 1 (partsC (outC out plain begun)) _ rfl rfl ⟨by omega, ⟨by show ((outC out plain begun).length + 1) * 32 ≤ _; omega, by show (outC out plain begun).length + 1 < _; omega⟩, by decide⟩ fun b' cap' h3 h4 => ?_
  ((conv => whnf); (repeat ((first | refine VrN.norm (wrap_i64 (by omega)) ?_ | refine VrN.keep ?_ | refine DrawN.calm (by decide +kernel) ?_ | refine Nd.mk (by decide +kernel) ?_ | refine Nd.mk (by omega) ?_ | (refine Nd.mk ?_ ?_; focus ((repeat' (first | exact trivial | exact wkE_refl _ | refine And.intro ?_ ?_)); done)) | refine RdN.intro _ rfl (by rfl) ?_); (conv => whnf))))
  have e1 : IntKind.wrap .i64 (IntKind.wrap .i64 ((pre.length : Int) + IntKind.wrap .i64 (1 + ((bs t).size : Int))) + 1) = ((pre.length + t.length + 2 : Nat) : Int) := by
    rw [bs_size, wrap_i64 (x := 1 + (t.length : Int)) (by omega), wrap_i64 (x := (pre.length : Int) + (1 + (t.length : Int))) (by omega), wrap_i64 (by omega)]
    omega
  have e2 : IntKind.wrap .i64 (ln pre + 1) = ln pre + 1 := wrap_i64 (by omega)
  refine ⟨⟨⟨some b', cap'⟩, ⟨pb, pc⟩⟩, ⟨⟨(fun h => by cases h), by rw [List.length_append]; exact h3, fun h => by have h : cap' = 0 := h; omega⟩, h2⟩, rfl, ?_⟩
  refine wkH_cons ?_ (wkH_cons ?_ (wkH_cons rfl (wkH_cons rfl (wkH_nil _))))
  · simp only [rnCs, rnC]
    rw [e1, e2]
    simp [outC, at0]
  · simp [outC, at0, partsC_app]
    exact ⟨rfl, rfl⟩
theorem codeLine_no (pre : List UInt8) (c : UInt8) (t : List UInt8) (ht : 10 ∉ t) (lines : Bool) (out : List Part) (plain : List UInt8) (begun : Int) (m : MS) (ok : m.ok ⟨pre ++ c :: t, pre.length, ln pre, lines, out, plain, begun⟩) (hs : (pre ++ c :: t).length ≤ 100000) (ho : out.length ≤ 900000) (hp : plain.length ≤ 1000000) :
    SpecH Tryd.prog 24 [.c (.lp 0 0)] (RH ⟨pre ++ c :: t, pre.length, ln pre, lines, out, plain, begun⟩ m ++ [.fact MaxF])
    (RetF ⟨pre ++ c :: t, pre.length + t.length + 1, ln pre, lines, outC out plain begun ++ [⟨1, ln pre, t⟩], [], begun⟩ unit) := by
  refine ownC hm Tryd.func24 (by kernel_rfl) rfl rfl (fun _ _ => RHf_ok _ _) (fun _ _ => Nat.le_refl _) ?_
  have hln := ln_bd pre
  have hpl : pre.length + t.length + 1 ≤ 100000 := by simp at hs; omega
  have hd : (pre ++ c :: t).drop (pre.length + 1) = t := by rw [List.drop_append]; simp
  have hw1 : IntKind.wrap .i64 ((pre.length : Int) + 1) = ((pre.length + 1 : Nat) : Int) := by rw [wrap_i64 (by omega)]; omega
  have hC := Cut_c t [10] (by simp at hs ⊢; omega)
  rw [cut10_no ht] at hC
  have hol := outC_len out plain begun
  ((conv => whnf); (repeat ((first | refine VrN.norm (wrap_i64 (by omega)) ?_ | refine VrN.keep ?_ | refine DrawN.calm (by decide +kernel) ?_ | refine Nd.mk (by decide +kernel) ?_ | refine Nd.mk (by omega) ?_ | (refine Nd.mk ?_ ?_; focus ((repeat' (first | exact trivial | exact wkE_refl _ | refine And.intro ?_ ?_)); done)) | refine RdN.intro _ rfl (by rfl) ?_); (conv => whnf))))
  rw [hw1]
  refine ReadW.sl_l (pre.length + 1) rfl (by kernel_rfl) rfl rfl ⟨rfl, by simp⟩ ?_
  rw [hd]
  ((conv => whnf); (repeat ((first | refine VrN.norm (wrap_i64 (by omega)) ?_ | refine VrN.keep ?_ | refine DrawN.calm (by decide +kernel) ?_ | refine Nd.mk (by decide +kernel) ?_ | refine Nd.mk (by omega) ?_ | (refine Nd.mk ?_ ?_; focus ((repeat' (first | exact trivial | exact wkE_refl _ | refine And.intro ?_ ?_)); done)) | refine RdN.intro _ rfl (by rfl) ?_); (conv => whnf)))); refine callQ (hC _ fun w hw => hw.2.2.1) ?_
  ((conv => whnf); (repeat ((first | refine VrN.norm (wrap_i64 (by omega)) ?_ | refine VrN.keep ?_ | refine DrawN.calm (by decide +kernel) ?_ | refine Nd.mk (by decide +kernel) ?_ | refine Nd.mk (by omega) ?_ | (refine Nd.mk ?_ ?_; focus ((repeat' (first | exact trivial | exact wkE_refl _ | refine And.intro ?_ ?_)); done)) | refine RdN.intro _ rfl (by rfl) ?_); (conv => whnf))))
  refine callG (flush_x (pre ++ c :: t) pre.length (ln pre) lines out plain begun m ok hp (by omega)) [0, 1, 2] rfl ⟨rfl, rfl, rfl, trivial⟩ rfl fun m' ok' => ?_
  obtain ⟨⟨ob, oc⟩, ⟨pb, pc⟩⟩ := m'
  obtain ⟨h1, h2⟩ := ok'
  ((conv => whnf); (repeat ((first | refine VrN.norm (wrap_i64 (by omega)) ?_ | refine VrN.keep ?_ | refine DrawN.calm (by decide +kernel) ?_ | refine Nd.mk (by decide +kernel) ?_ | refine Nd.mk (by omega) ?_ | (refine Nd.mk ?_ ?_; focus ((repeat' (first | exact trivial | exact wkE_refl _ | refine And.intro ?_ ?_)); done)) | refine RdN.intro _ rfl (by rfl) ?_); (conv => whnf))))
  refine DrawN.plan [0, 1, 5, 9] [(2, 1), (3, 1), (4, 1), (6, 1), (7, 1), (8, 1), (10, 1), (11, 0)] [(12, 0), (13, 0), (14, 0), (15, 0)] (by decide +kernel) ?_
  ((conv => whnf); (repeat ((first | refine VrN.norm (wrap_i64 (by omega)) ?_ | refine VrN.keep ?_ | refine DrawN.calm (by decide +kernel) ?_ | refine Nd.mk (by decide +kernel) ?_ | refine Nd.mk (by omega) ?_ | (refine Nd.mk ?_ ?_; focus ((repeat' (first | exact trivial | exact wkE_refl _ | refine And.intro ?_ ?_)); done)) | refine RdN.intro _ rfl (by rfl) ?_); (conv => whnf))))
  refine Nd.mk ⟨by omega, rfl, rfl⟩ ?_
  (conv => whnf)
  refine AppN.grow 1 (partsC (outC out plain begun)) _ rfl rfl ⟨by omega, ⟨by show ((outC out plain begun).length + 1) * 32 ≤ _; omega, by show (outC out plain begun).length + 1 < _; omega⟩, by decide⟩ fun b' cap' h3 h4 => ?_
  ((conv => whnf); (repeat ((first | refine VrN.norm (wrap_i64 (by omega)) ?_ | refine VrN.keep ?_ | refine DrawN.calm (by decide +kernel) ?_ | refine Nd.mk (by decide +kernel) ?_ | refine Nd.mk (by omega) ?_ | (refine Nd.mk ?_ ?_; focus ((repeat' (first | exact trivial | exact wkE_refl _ | refine And.intro ?_ ?_)); done)) | refine RdN.intro _ rfl (by rfl) ?_); (conv => whnf))))
  have e1 : IntKind.wrap .i64 ((pre.length : Int) + IntKind.wrap .i64 (1 + ((bs t).size : Int))) = ((pre.length + t.length + 1 : Nat) : Int) := by
    rw [bs_size, wrap_i64 (x := 1 + (t.length : Int)) (by omega), wrap_i64 (by omega)]
    omega
  refine ⟨⟨⟨some b', cap'⟩, ⟨pb, pc⟩⟩, ⟨⟨(fun h => by cases h), by rw [List.length_append]; exact h3, fun h => by have h : cap' = 0 := h; omega⟩, h2⟩, rfl, ?_⟩
  refine wkH_cons ?_ (wkH_cons ?_ (wkH_cons rfl (wkH_cons rfl (wkH_nil _))))
  · simp only [rnCs, rnC]
    rw [e1]
    simp [outC, at0]
  · simp [outC, at0, partsC_app]
    exact ⟨rfl, rfl⟩
end Go.Proofs.YtfcjgklghgpddaaDoor
