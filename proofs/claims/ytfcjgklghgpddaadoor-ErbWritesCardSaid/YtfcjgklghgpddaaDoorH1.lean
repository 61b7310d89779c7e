/-
  Contracts: the document's reader of templates: a place's line, the beginning of a line, bytes put, the text's end, blanks, a line of code.
-/
import Derived.Test.YtfcjgklghgpddaaDoorG9
namespace Go.Proofs.YtfcjgklghgpddaaDoor
open Go.AX Go.RowKit Go.Erb
set_option maxRecDepth 20000

theorem empty_iff {s : List UInt8} {l : List UInt8} (hl : l = []) : ((bs s).data.toList == l) = s.isEmpty := by subst hl; rw [bs_list]; cases s <;> rfl
theorem sfx1 (c : UInt8) (l : List UInt8) : [c].isSuffixOf l = (l.getLast? == some c) := by
  rcases List.eq_nil_or_concat l with rfl | ⟨xs, d, rfl⟩
  · rfl
  · have e : (c == d) = (d == c) := by by_cases h : c = d
                                       · subst h; rfl
                                       · rw [beq_eq_false_iff_ne.2 h, beq_eq_false_iff_ne.2 (Ne.symm h)]
    simp [List.isSuffixOf, List.isPrefixOf, e]
def trimQ (t : List UInt8) (whole : Bool) : List UInt8 := if (trimR t).isEmpty && whole || (trimR t).getLast? == some 10 then trimR t else t
theorem trim_eqQ (t fp : List UInt8) : trim t fp = trimQ t (bol fp) := rfl
/-- The document's reader. -/
structure QS where
  s : List UInt8
  at_ : Nat
  text : List UInt8
  from_ : Nat
  whole : Bool
  out : List Part
def QH (r : QS) (o : BSt) : List Ent := [.blk 71 [.v (.string (bs r.s)), .v (.int .i64 (r.at_ : Int)), .v (.string (bs r.text)), .v (.int .i64 (r.from_ : Int)), .v (.bool r.whole), .v (.slice (at0 o.ob) r.out.length o.cap)],
  .app 32 3 (partsC r.out) (at0 o.ob) r.out.length o.cap]
theorem QH_ok (r : QS) (o : BSt) : okH (QH r o).length (QH r o) := okHB_eq rfl
theorem QHf_ok (r : QS) (o : BSt) : okH (QH r o ++ [Ent.fact MaxF]).length (QH r o ++ [Ent.fact MaxF]) := okHB_eq rfl
def RetQ (r : QS) (v : Value) : Out → List Ent → Prop := RetG (ι := BSt) (fun o => o.ok r.out.length) (fun _ => v) fun o => QH r o

theorem line_c (s : List UInt8) (n : Nat) (hn : n ≤ s.length) (hs : s.length ≤ 1000000) : ∀ H, SpecH Tryd.prog 37 (pvs [.string (bs s), .int .i64 (n : Int)]) H (Ret (.int .i64 (ln (s.take n))) H) := by
  refine pureC hm Tryd.func37 (by kernel_rfl) rfl rfl ?_
  have hb := ln_bd (s.take n)
  rw [List.length_take] at hb
  ((conv => whnf); (repeat ((first | refine VrN.norm (wrap_i64 (by omega)) ?_ | refine VrN.keep ?_ | refine DrawN.calm (by decide +kernel) ?_ | refine Nd.mk (by decide +kernel) ?_ | refine Nd.mk (by omega) ?_ | (refine Nd.mk ?_ ?_; focus ((repeat' (first | exact trivial | exact wkE_refl _ | refine And.intro ?_ ?_)); done)) | refine RdN.intro _ rfl (by rfl) ?_); (conv => whnf))))
  refine ReadW.sl_h n rfl (by kernel_rfl) rfl rfl ⟨rfl, hn⟩ ?_
  (((conv => whnf); (repeat ((first | refine VrN.norm (wrap_i64 (by omega)) ?_ | refine VrN.keep ?_ | refine DrawN.calm (by decide +kernel) ?_ | refine Nd.mk (by decide +kernel) ?_ | refine Nd.mk (by omega) ?_ | (refine Nd.mk ?_ ?_; focus ((repeat' (first | exact trivial | exact wkE_refl _ | refine And.intro ?_ ?_)); done)) | refine RdN.intro _ rfl (by rfl) ?_); (conv => whnf)))); first | refine call1 (Count1_c (s.take n) 10 _) ?_ | refine callQ (Count1_c (s.take n) 10 _) ?_)
  ((conv => whnf); (repeat ((first | refine VrN.norm (wrap_i64 (by omega)) ?_ | refine VrN.keep ?_ | refine DrawN.calm (by decide +kernel) ?_ | refine Nd.mk (by decide +kernel) ?_ | refine Nd.mk (by omega) ?_ | (refine Nd.mk ?_ ?_; focus ((repeat' (first | exact trivial | exact wkE_refl _ | refine And.intro ?_ ?_)); done)) | refine RdN.intro _ rfl (by rfl) ?_); (conv => whnf))))
  exact out_int (by rw [wrap_i64 (by unfold ln at hb; omega)]; rfl)
theorem begins_c (s : List UInt8) (at_ : Nat) (text : List UInt8) (from_ : Nat) (whole : Bool) (out : List Part) (o : BSt) (ok : o.ok out.length) (ha : at_ ≤ s.length) (hs : s.length ≤ 1000000) :
    SpecH Tryd.prog 33 [.c (.lp 0 0)] (QH ⟨s, at_, text, from_, whole, out⟩ o) (RetQ ⟨s, at_, text, from_, whole, out⟩ (.bool (bol (s.take at_)))) := by
  refine ownC hm Tryd.func33 (by kernel_rfl) rfl rfl (fun _ _ => QH_ok _ _) (fun _ _ => Nat.le_refl _) ?_
  obtain ⟨ob, oc⟩ := o
  ((conv => whnf); (repeat ((first | refine VrN.norm (wrap_i64 (by omega)) ?_ | refine VrN.keep ?_ | refine DrawN.calm (by decide +kernel) ?_ | refine Nd.mk (by decide +kernel) ?_ | refine Nd.mk (by omega) ?_ | (refine Nd.mk ?_ ?_; focus ((repeat' (first | exact trivial | exact wkE_refl _ | refine And.intro ?_ ?_)); done)) | refine RdN.intro _ rfl (by rfl) ?_); (conv => whnf))))
  refine brd_eq (fun h0 => ?_) (fun h0 => ?_)
  · have h0 : at_ = 0 := by have h0 : (at_ : Int) = 0 := h0; omega
    subst h0
    ((conv => whnf); (repeat ((first | refine VrN.norm (wrap_i64 (by omega)) ?_ | refine VrN.keep ?_ | refine DrawN.calm (by decide +kernel) ?_ | refine Nd.mk (by decide +kernel) ?_ | refine Nd.mk (by omega) ?_ | (refine Nd.mk ?_ ?_; focus ((repeat' (first | exact trivial | exact wkE_refl _ | refine And.intro ?_ ?_)); done)) | refine RdN.intro _ rfl (by rfl) ?_); (conv => whnf))))
    exact ⟨⟨ob, oc⟩, ok, rfl, wkH_refl _⟩
  · have h0 : at_ ≠ 0 := fun h => h0 (by show (at_ : Int) = 0; omega)
    have hc : ∃ x, s[at_ - 1]? = some x := ⟨_, List.getElem?_eq_getElem (by omega)⟩
    obtain ⟨x, hc⟩ := hc
    have hbx := byteAt_get hc
    have hw : IntKind.wrap .i64 ((at_ : Int) - 1) = ((at_ - 1 : Nat) : Int) := by rw [wrap_i64 (by omega)]; omega
    ((conv => whnf); (repeat ((first | refine VrN.norm (wrap_i64 (by omega)) ?_ | refine VrN.keep ?_ | refine DrawN.calm (by decide +kernel) ?_ | refine Nd.mk (by decide +kernel) ?_ | refine Nd.mk (by omega) ?_ | (refine Nd.mk ?_ ?_; focus ((repeat' (first | exact trivial | exact wkE_refl _ | refine And.intro ?_ ?_)); done)) | refine RdN.intro _ rfl (by rfl) ?_); (conv => whnf))))
    rw [hw]
    refine Nd.mk ⟨by omega, by rw [bs_size]; show ((at_ - 1 : Nat) : Int) < (s.length : Int); omega⟩ ?_
    rw [Int.toNat_natCast, hbx]
    ((conv => whnf); (repeat ((first | refine VrN.norm (wrap_i64 (by omega)) ?_ | refine VrN.keep ?_ | refine DrawN.calm (by decide +kernel) ?_ | refine Nd.mk (by decide +kernel) ?_ | refine Nd.mk (by omega) ?_ | (refine Nd.mk ?_ ?_; focus ((repeat' (first | exact trivial | exact wkE_refl _ | refine And.intro ?_ ?_)); done)) | refine RdN.intro _ rfl (by rfl) ?_); (conv => whnf))))
    refine ⟨⟨ob, oc⟩, ok, ?_, wkH_refl _⟩
    rw [show bol (List.take at_ s) = (x == 10) from bol_take h0 ha hc]
    exact out_bool (u8_10 x)
def fromQ (text : List UInt8) (at_ from_ : Nat) : Nat := if text.isEmpty then at_ else from_
def wholeQ (text : List UInt8) (b whole : Bool) : Bool := if text.isEmpty then b else whole
theorem put_c (s : List UInt8) (at_ : Nat) (text : List UInt8) (from_ : Nat) (whole : Bool) (out : List Part) (o : BSt) (b : List UInt8) (ok : o.ok out.length) (ha : at_ ≤ s.length) (hs : s.length ≤ 1000000) (ht : text.length ≤ 1000000) (hb : b.length ≤ 1000000) :
    SpecH Tryd.prog 34 [.c (.lp 0 0), .c (.v (.string (bs b)))] (QH ⟨s, at_, text, from_, whole, out⟩ o) (RetQ ⟨s, at_, text ++ b, fromQ text at_ from_, wholeQ text (bol (s.take at_)) whole, out⟩ unit) := by
  refine ownC hm Tryd.func34 (by kernel_rfl) rfl rfl (fun _ _ => QH_ok _ _) (fun _ _ => Nat.le_refl _) ?_
  obtain ⟨ob, oc⟩ := o
  have hsz : (bs text).size + (bs b).size < 9223372036854775808 := by rw [bs_size, bs_size]; omega
  ((conv => whnf); (repeat ((first | refine VrN.norm (wrap_i64 (by omega)) ?_ | refine VrN.keep ?_ | refine DrawN.calm (by decide +kernel) ?_ | refine Nd.mk (by decide +kernel) ?_ | refine Nd.mk (by omega) ?_ | (refine Nd.mk ?_ ?_; focus ((repeat' (first | exact trivial | exact wkE_refl _ | refine And.intro ?_ ?_)); done)) | refine RdN.intro _ rfl (by rfl) ?_); (conv => whnf))))
  rw [empty_iff (by simp)]
  refine brd_intro (fun h0 => ?_) (fun h0 => ?_)
  · ((conv => whnf); (repeat ((first | refine VrN.norm (wrap_i64 (by omega)) ?_ | refine VrN.keep ?_ | refine DrawN.calm (by decide +kernel) ?_ | refine Nd.mk (by decide +kernel) ?_ | refine Nd.mk (by omega) ?_ | (refine Nd.mk ?_ ?_; focus ((repeat' (first | exact trivial | exact wkE_refl _ | refine And.intro ?_ ?_)); done)) | refine RdN.intro _ rfl (by rfl) ?_); (conv => whnf))))
    refine callG (begins_c s at_ text at_ whole out ⟨ob, oc⟩ ok ha hs) [0, 1] rfl ⟨rfl, rfl, trivial⟩ rfl fun o' ok' => ?_
    ((conv => whnf); (repeat ((first | refine VrN.norm (wrap_i64 (by omega)) ?_ | refine VrN.keep ?_ | refine DrawN.calm (by decide +kernel) ?_ | refine Nd.mk (by decide +kernel) ?_ | refine Nd.mk (by omega) ?_ | (refine Nd.mk ?_ ?_; focus ((repeat' (first | exact trivial | exact wkE_refl _ | refine And.intro ?_ ?_)); done)) | refine RdN.intro _ rfl (by rfl) ?_); (conv => whnf))))
    refine ⟨o', ok', rfl, ?_⟩
    refine wkH_cons ?_ (wkH_cons rfl (wkH_nil _))
    simp [fromQ, wholeQ, h0, bs_app, rnCs, rnC]
  · ((conv => whnf); (repeat ((first | refine VrN.norm (wrap_i64 (by omega)) ?_ | refine VrN.keep ?_ | refine DrawN.calm (by decide +kernel) ?_ | refine Nd.mk (by decide +kernel) ?_ | refine Nd.mk (by omega) ?_ | (refine Nd.mk ?_ ?_; focus ((repeat' (first | exact trivial | exact wkE_refl _ | refine And.intro ?_ ?_)); done)) | refine RdN.intro _ rfl (by rfl) ?_); (conv => whnf))))
    refine ⟨⟨ob, oc⟩, ok, rfl, ?_⟩
    refine wkH_cons ?_ (wkH_cons rfl (wkH_nil _))
    simp [fromQ, wholeQ, h0, bs_app]
theorem close_c (s : List UInt8) (at_ : Nat) (text : List UInt8) (from_ : Nat) (whole : Bool) (out : List Part) (o : BSt) (ok : o.ok out.length) (ha : from_ ≤ s.length) (hs : s.length ≤ 1000000) (ho : out.length ≤ 1000000) :
    SpecH Tryd.prog 38 [.c (.lp 0 0)] (QH ⟨s, at_, text, from_, whole, out⟩ o) (RetQ ⟨s, at_, [], from_, whole, outC out text (ln (s.take from_))⟩ unit) := by
  refine ownC hm Tryd.func38 (by kernel_rfl) rfl rfl (fun _ _ => QH_ok _ _) (fun _ _ => Nat.le_refl _) ?_
  obtain ⟨ob, oc⟩ := o
  ((conv => whnf); (repeat ((first | refine VrN.norm (wrap_i64 (by omega)) ?_ | refine VrN.keep ?_ | refine DrawN.calm (by decide +kernel) ?_ | refine Nd.mk (by decide +kernel) ?_ | refine Nd.mk (by omega) ?_ | (refine Nd.mk ?_ ?_; focus ((repeat' (first | exact trivial | exact wkE_refl _ | refine And.intro ?_ ?_)); done)) | refine RdN.intro _ rfl (by rfl) ?_); (conv => whnf))))
  refine brd_not ?_
  rw [empty_iff (by simp)]
  refine brd_intro (fun h0 => ?_) (fun h0 => ?_)
  · ((conv => whnf); (repeat ((first | refine VrN.norm (wrap_i64 (by omega)) ?_ | refine VrN.keep ?_ | refine DrawN.calm (by decide +kernel) ?_ | refine Nd.mk (by decide +kernel) ?_ | refine Nd.mk (by omega) ?_ | (refine Nd.mk ?_ ?_; focus ((repeat' (first | exact trivial | exact wkE_refl _ | refine And.intro ?_ ?_)); done)) | refine RdN.intro _ rfl (by rfl) ?_); (conv => whnf))))
    refine ⟨⟨ob, oc⟩, by simpa [outC, h0] using ok, rfl, ?_⟩
    refine wkH_cons ?_ (wkH_cons ?_ (wkH_nil _))
    · have : text = [] := by simpa using h0
      subst this
      simp [outC]
      rfl
    · simp [outC, h0]
  · ((conv => whnf); (repeat ((first | refine VrN.norm (wrap_i64 (by omega)) ?_ | refine VrN.keep ?_ | refine DrawN.calm (by decide +kernel) ?_ | refine Nd.mk (by decide +kernel) ?_ | refine Nd.mk (by omega) ?_ | (refine Nd.mk ?_ ?_; focus ((repeat' (first | exact trivial | exact wkE_refl _ | refine And.intro ?_ ?_)); done)) | refine RdN.intro _ rfl (by rfl) ?_); (conv => whnf))))
    refine DrawN.plan [0, 1, 5, 9, 14] [(2, 1), (3, 1), (4, 1), (6, 1), (7, 1), (8, 1), (10, 1), (11, 1), (12, 1), (15, 1), (16, 1), (17, 1), (13, 0), (18, 1), (19, 0)] [(20, 0), (21, 0), (22, 0), (23, 0)] (by decide +kernel) ?_
    (((conv => whnf); (repeat ((first | refine VrN.norm (wrap_i64 (by omega)) ?_ | refine VrN.keep ?_ | refine DrawN.calm (by decide +kernel) ?_ | refine Nd.mk (by decide +kernel) ?_ | refine Nd.mk (by omega) ?_ | (refine Nd.mk ?_ ?_; focus ((repeat' (first | exact trivial | exact wkE_refl _ | refine And.intro ?_ ?_)); done)) | refine RdN.intro _ rfl (by rfl) ?_); (conv => whnf)))); first | refine call1 (line_c s from_ ha hs _) ?_ | refine callQ (line_c s from_ ha hs _) ?_)
    ((conv => whnf); (repeat ((first | refine VrN.norm (wrap_i64 (by omega)) ?_ | refine VrN.keep ?_ | refine DrawN.calm (by decide +kernel) ?_ | refine Nd.mk (by decide +kernel) ?_ | refine Nd.mk (by omega) ?_ | (refine Nd.mk ?_ ?_; focus ((repeat' (first | exact trivial | exact wkE_refl _ | refine And.intro ?_ ?_)); done)) | refine RdN.intro _ rfl (by rfl) ?_); (conv => whnf))))
    refine Nd.mk ⟨by omega, rfl, rfl⟩ ?_
    (conv => whnf)
    refine AppN.grow 1 (partsC out) _ rfl rfl ⟨by omega, ⟨by show (out.length + 1) * 32 ≤ _; omega, by show out.length + 1 < _; omega⟩, by decide⟩ fun b' cap' h3 h4 => ?_
    ((conv => whnf); (repeat ((first | refine VrN.norm (wrap_i64 (by omega)) ?_ | refine VrN.keep ?_ | refine DrawN.calm (by decide +kernel) ?_ | refine Nd.mk (by decide +kernel) ?_ | refine Nd.mk (by omega) ?_ | (refine Nd.mk ?_ ?_; focus ((repeat' (first | exact trivial | exact wkE_refl _ | refine And.intro ?_ ?_)); done)) | refine RdN.intro _ rfl (by rfl) ?_); (conv => whnf))))
    refine ⟨⟨some b', cap'⟩, ⟨(fun h => by cases h), by simpa [outC, h0] using h3, fun h => by have h : cap' = 0 := h; omega⟩, rfl, ?_⟩
    refine wkH_cons (by simp [h0, outC, at0, bs]) (wkH_cons ?_ (wkH_nil _))
    simp [h0, outC, at0, partsC_app]
    exact ⟨rfl, rfl⟩
theorem trimQ_c (s : List UInt8) (at_ : Nat) (text : List UInt8) (from_ : Nat) (whole : Bool) (out : List Part) (o : BSt) (ok : o.ok out.length) (hs : text.length ≤ 1000000) :
    SpecH Tryd.prog 50 [.c (.lp 0 0)] (QH ⟨s, at_, text, from_, whole, out⟩ o) (RetQ ⟨s, at_, trimQ text whole, from_, whole, out⟩ unit) := by
  refine ownC hm Tryd.func50 (by kernel_rfl) rfl rfl (fun _ _ => QH_ok _ _) (fun _ _ => Nat.le_refl _) ?_
  obtain ⟨ob, oc⟩ := o
  have hl : (trimR text).length ≤ text.length := by
    unfold trimR
    rw [List.length_reverse]
    exact Nat.le_trans (List.dropWhile_suffix _).length_le (by simp)
  have fin : ∀ b : Bool, ((trimR text).isEmpty && whole || (trimR text).getLast? == some 10) = b → trimQ text whole = if b then trimR text else text := fun b h => by subst h; rfl
  have ht := TrimRight_c text (by omega)
  rw [← trimR_eq] at ht
  (((conv => whnf); (repeat ((first | refine VrN.norm (wrap_i64 (by omega)) ?_ | refine VrN.keep ?_ | refine DrawN.calm (by decide +kernel) ?_ | refine Nd.mk (by decide +kernel) ?_ | refine Nd.mk (by omega) ?_ | (refine Nd.mk ?_ ?_; focus ((repeat' (first | exact trivial | exact wkE_refl _ | refine And.intro ?_ ?_)); done)) | refine RdN.intro _ rfl (by rfl) ?_); (conv => whnf)))); first | refine call1 (ht _) ?_ | refine callQ (ht _) ?_)
  ((conv => whnf); (repeat ((first | refine VrN.norm (wrap_i64 (by omega)) ?_ | refine VrN.keep ?_ | refine DrawN.calm (by decide +kernel) ?_ | refine Nd.mk (by decide +kernel) ?_ | refine Nd.mk (by omega) ?_ | (refine Nd.mk ?_ ?_; focus ((repeat' (first | exact trivial | exact wkE_refl _ | refine And.intro ?_ ?_)); done)) | refine RdN.intro _ rfl (by rfl) ?_); (conv => whnf))))
  rw [empty_iff (by simp)]
  refine brd_intro (fun h0 => ?_) (fun h0 => ?_)
  · ((conv => whnf); (repeat ((first | refine VrN.norm (wrap_i64 (by omega)) ?_ | refine VrN.keep ?_ | refine DrawN.calm (by decide +kernel) ?_ | refine Nd.mk (by decide +kernel) ?_ | refine Nd.mk (by omega) ?_ | (refine Nd.mk ?_ ?_; focus ((repeat' (first | exact trivial | exact wkE_refl _ | refine And.intro ?_ ?_)); done)) | refine RdN.intro _ rfl (by rfl) ?_); (conv => whnf))))
    refine brd_intro (fun h1 => ?_) (fun h1 => ?_)
    · ((conv => whnf); (repeat ((first | refine VrN.norm (wrap_i64 (by omega)) ?_ | refine VrN.keep ?_ | refine DrawN.calm (by decide +kernel) ?_ | refine Nd.mk (by decide +kernel) ?_ | refine Nd.mk (by omega) ?_ | (refine Nd.mk ?_ ?_; focus ((repeat' (first | exact trivial | exact wkE_refl _ | refine And.intro ?_ ?_)); done)) | refine RdN.intro _ rfl (by rfl) ?_); (conv => whnf))))
      refine ⟨⟨ob, oc⟩, ok, rfl, ?_⟩
      rw [fin true (by simp [h0, show whole = true from h1])]
      exact wkH_refl _
    · (((conv => whnf); (repeat ((first | refine VrN.norm (wrap_i64 (by omega)) ?_ | refine VrN.keep ?_ | refine DrawN.calm (by decide +kernel) ?_ | refine Nd.mk (by decide +kernel) ?_ | refine Nd.mk (by omega) ?_ | (refine Nd.mk ?_ ?_; focus ((repeat' (first | exact trivial | exact wkE_refl _ | refine And.intro ?_ ?_)); done)) | refine RdN.intro _ rfl (by rfl) ?_); (conv => whnf)))); first | refine call1 (HasSuffix_c (trimR text) [10] (by omega) _) ?_ | refine callQ (HasSuffix_c (trimR text) [10] (by omega) _) ?_)
      rw [sfx1]
      ((conv => whnf); (repeat ((first | refine VrN.norm (wrap_i64 (by omega)) ?_ | refine VrN.keep ?_ | refine DrawN.calm (by decide +kernel) ?_ | refine Nd.mk (by decide +kernel) ?_ | refine Nd.mk (by omega) ?_ | (refine Nd.mk ?_ ?_; focus ((repeat' (first | exact trivial | exact wkE_refl _ | refine And.intro ?_ ?_)); done)) | refine RdN.intro _ rfl (by rfl) ?_); (conv => whnf))))
      refine brd_intro (fun h2 => ?_) (fun h2 => ?_)
      · ((conv => whnf); (repeat ((first | refine VrN.norm (wrap_i64 (by omega)) ?_ | refine VrN.keep ?_ | refine DrawN.calm (by decide +kernel) ?_ | refine Nd.mk (by decide +kernel) ?_ | refine Nd.mk (by omega) ?_ | (refine Nd.mk ?_ ?_; focus ((repeat' (first | exact trivial | exact wkE_refl _ | refine And.intro ?_ ?_)); done)) | refine RdN.intro _ rfl (by rfl) ?_); (conv => whnf))))
        refine ⟨⟨ob, oc⟩, ok, rfl, ?_⟩
        rw [fin true (by simp [h2])]
        exact wkH_refl _
      · ((conv => whnf); (repeat ((first | refine VrN.norm (wrap_i64 (by omega)) ?_ | refine VrN.keep ?_ | refine DrawN.calm (by decide +kernel) ?_ | refine Nd.mk (by decide +kernel) ?_ | refine Nd.mk (by omega) ?_ | (refine Nd.mk ?_ ?_; focus ((repeat' (first | exact trivial | exact wkE_refl _ | refine And.intro ?_ ?_)); done)) | refine RdN.intro _ rfl (by rfl) ?_); (conv => whnf))))
        refine ⟨⟨ob, oc⟩, ok, rfl, ?_⟩
        rw [fin false (by simp [h2, show whole = false from h1])]
        exact wkH_refl _
  · (((conv => whnf); (repeat ((first | refine VrN.norm (wrap_i64 (by omega)) ?_ | refine VrN.keep ?_ | refine DrawN.calm (by decide +kernel) ?_ | refine Nd.mk (by decide +kernel) ?_ | refine Nd.mk (by omega) ?_ | (refine Nd.mk ?_ ?_; focus ((repeat' (first | exact trivial | exact wkE_refl _ | refine And.intro ?_ ?_)); done)) | refine RdN.intro _ rfl (by rfl) ?_); (conv => whnf)))); first | refine call1 (HasSuffix_c (trimR text) [10] (by omega) _) ?_ | refine callQ (HasSuffix_c (trimR text) [10] (by omega) _) ?_)
    rw [sfx1]
    ((conv => whnf); (repeat ((first | refine VrN.norm (wrap_i64 (by omega)) ?_ | refine VrN.keep ?_ | refine DrawN.calm (by decide +kernel) ?_ | refine Nd.mk (by decide +kernel) ?_ | refine Nd.mk (by omega) ?_ | (refine Nd.mk ?_ ?_; focus ((repeat' (first | exact trivial | exact wkE_refl _ | refine And.intro ?_ ?_)); done)) | refine RdN.intro _ rfl (by rfl) ?_); (conv => whnf))))
    refine brd_intro (fun h2 => ?_) (fun h2 => ?_)
    · ((conv => whnf); (repeat ((first | refine VrN.norm (wrap_i64 (by omega)) ?_ | refine VrN.keep ?_ | refine DrawN.calm (by decide +kernel) ?_ | refine Nd.mk (by decide +kernel) ?_ | refine Nd.mk (by omega) ?_ | (refine Nd.mk ?_ ?_; focus ((repeat' (first | exact trivial | exact wkE_refl _ | refine And.intro ?_ ?_)); done)) | refine RdN.intro _ rfl (by rfl) ?_); (conv => whnf))))
      refine ⟨⟨ob, oc⟩, ok, rfl, ?_⟩
      rw [fin true (by simp [h2])]
      exact wkH_refl _
    · ((conv => whnf); (repeat ((first | refine VrN.norm (wrap_i64 (by omega)) ?_ | refine VrN.keep ?_ | refine DrawN.calm (by decide +kernel) ?_ | refine Nd.mk (by decide +kernel) ?_ | refine Nd.mk (by omega) ?_ | (refine Nd.mk ?_ ?_; focus ((repeat' (first | exact trivial | exact wkE_refl _ | refine And.intro ?_ ?_)); done)) | refine RdN.intro _ rfl (by rfl) ?_); (conv => whnf))))
      refine ⟨⟨ob, oc⟩, ok, rfl, ?_⟩
      rw [fin false (by simp [h2, h0])]
      exact wkH_refl _
theorem cut10_fst (l : List UInt8) : (Lib.cut l [10]).1 = l.takeWhile (· != 10) := by
  rcases split10 l with h | ⟨t, r, rfl, h⟩
  · rw [cut10_no h, takeW_no h]
  · rw [cut10_at h, takeW_at h]
theorem row_c (pre : List UInt8) (c : UInt8) (r text : List UInt8) (from_ : Nat) (whole : Bool) (out : List Part) (o : BSt) (ok : o.ok out.length) (ha : from_ ≤ (pre ++ c :: r).length) (hs : (pre ++ c :: r).length ≤ 1000000) (ho : out.length ≤ 900000) :
    SpecH Tryd.prog 35 [.c (.lp 0 0)] (QH ⟨pre ++ c :: r, pre.length, text, from_, whole, out⟩ o ++ [.fact MaxF])
    (RetG (ι := BSt) (fun o => o.ok (outC out text (ln ((pre ++ c :: r).take from_)) ++ [(⟨1, ln pre, r.takeWhile (· != 10)⟩ : Part)]).length) (fun _ => unit) fun o => QH ⟨pre ++ c :: r, (pre ++ (c :: r).take (1 + (r.takeWhile (· != 10)).length + 1)).length, [], from_, whole, outC out text (ln ((pre ++ c :: r).take from_)) ++ [⟨1, ln pre, r.takeWhile (· != 10)⟩]⟩ o ++ [.fact MaxF]) := by
  refine ownC hm Tryd.func35 (by kernel_rfl) rfl rfl (fun _ _ => QHf_ok _ _) (fun _ _ => Nat.le_refl _) ?_
  have hol := outC_len out text (ln ((pre ++ c :: r).take from_))
  have hlen : (pre ++ c :: r).length = pre.length + r.length + 1 := by simp; omega
  have hd : (pre ++ c :: r).drop (pre.length + 1) = r := by rw [List.drop_append]; simp
  have htk : (pre ++ c :: r).take pre.length = pre := List.take_left
  have hw1 : IntKind.wrap .i64 ((pre.length : Int) + 1) = ((pre.length + 1 : Nat) : Int) := by rw [wrap_i64 (by omega)]; omega
  have hC := Cut_c r [10] (by omega)
  have hL := line_c (pre ++ c :: r) pre.length (by omega) (by omega)
  rw [htk] at hL
  have hT := cut10_fst r
  have hTl : (r.takeWhile (· != 10)).length ≤ r.length := (List.takeWhile_prefix _).length_le
  generalize Lib.cut r [10] = C at hC hT
  obtain ⟨c1, c2, c3⟩ := C
  simp only at hT
  subst hT
  generalize hTe : r.takeWhile (· != 10) = T at *
  ((conv => whnf); (repeat ((first | refine VrN.norm (wrap_i64 (by omega)) ?_ | refine VrN.keep ?_ | refine DrawN.calm (by decide +kernel) ?_ | refine Nd.mk (by decide +kernel) ?_ | refine Nd.mk (by omega) ?_ | (refine Nd.mk ?_ ?_; focus ((repeat' (first | exact trivial | exact wkE_refl _ | refine And.intro ?_ ?_)); done)) | refine RdN.intro _ rfl (by rfl) ?_); (conv => whnf))))
  refine callG (close_c (pre ++ c :: r) pre.length text from_ whole out o ok ha (by omega) (by omega)) [0, 1] rfl ⟨rfl, rfl, trivial⟩ rfl fun o' ok' => ?_
  obtain ⟨ob, oc⟩ := o'
  ((conv => whnf); (repeat ((first | refine VrN.norm (wrap_i64 (by omega)) ?_ | refine VrN.keep ?_ | refine DrawN.calm (by decide +kernel) ?_ | refine Nd.mk (by decide +kernel) ?_ | refine Nd.mk (by omega) ?_ | (refine Nd.mk ?_ ?_; focus ((repeat' (first | exact trivial | exact wkE_refl _ | refine And.intro ?_ ?_)); done)) | refine RdN.intro _ rfl (by rfl) ?_); (conv => whnf))))
  rw [hw1]
  refine ReadW.sl_l (pre.length + 1) rfl (by kernel_rfl) rfl rfl ⟨rfl, by show pre.length + 1 ≤ (pre ++ c :: r).length; omega⟩ ?_
  rw [hd]
  (((conv => whnf); (repeat ((first | refine VrN.norm (wrap_i64 (by omega)) ?_ | refine VrN.keep ?_ | refine DrawN.calm (by decide +kernel) ?_ | refine Nd.mk (by decide +kernel) ?_ | refine Nd.mk (by omega) ?_ | (refine Nd.mk ?_ ?_; focus ((repeat' (first | exact trivial | exact wkE_refl _ | refine And.intro ?_ ?_)); done)) | refine RdN.intro _ rfl (by rfl) ?_); (conv => whnf)))); first | refine call1 (hC _ fun w hw => hw.2.1) ?_ | refine callQ (hC _ fun w hw => hw.2.1) ?_)
  ((conv => whnf); (repeat ((first | refine VrN.norm (wrap_i64 (by omega)) ?_ | refine VrN.keep ?_ | refine DrawN.calm (by decide +kernel) ?_ | refine Nd.mk (by decide +kernel) ?_ | refine Nd.mk (by omega) ?_ | (refine Nd.mk ?_ ?_; focus ((repeat' (first | exact trivial | exact wkE_refl _ | refine And.intro ?_ ?_)); done)) | refine RdN.intro _ rfl (by rfl) ?_); (conv => whnf))))
  refine DrawN.plan [0, 1, 5, 9, 14] [(2, 1), (3, 1), (4, 1), (6, 1), (7, 1), (8, 1), (10, 1), (11, 1), (12, 1), (13, 0), (15, 1), (16, 0)] [(17, 0), (18, 0), (19, 0), (20, 0)] (by decide +kernel) ?_
  (((conv => whnf); (repeat ((first | refine VrN.norm (wrap_i64 (by omega)) ?_ | refine VrN.keep ?_ | refine DrawN.calm (by decide +kernel) ?_ | refine Nd.mk (by decide +kernel) ?_ | refine Nd.mk (by omega) ?_ | (refine Nd.mk ?_ ?_; focus ((repeat' (first | exact trivial | exact wkE_refl _ | refine And.intro ?_ ?_)); done)) | refine RdN.intro _ rfl (by rfl) ?_); (conv => whnf)))); first | refine call1 (hL _) ?_ | refine callQ (hL _) ?_)
  ((conv => whnf); (repeat ((first | refine VrN.norm (wrap_i64 (by omega)) ?_ | refine VrN.keep ?_ | refine DrawN.calm (by decide +kernel) ?_ | refine Nd.mk (by decide +kernel) ?_ | refine Nd.mk (by omega) ?_ | (refine Nd.mk ?_ ?_; focus ((repeat' (first | exact trivial | exact wkE_refl _ | refine And.intro ?_ ?_)); done)) | refine RdN.intro _ rfl (by rfl) ?_); (conv => whnf))))
  refine Nd.mk ⟨by omega, rfl, rfl⟩ ?_
  (conv => whnf)
  refine AppN.grow 1 (partsC (outC out text (ln ((pre ++ c :: r).take from_)))) _ rfl rfl ⟨by omega, ⟨by show ((outC out text (ln ((pre ++ c :: r).take from_))).length + 1) * 32 ≤ _; omega, by show (outC out text (ln ((pre ++ c :: r).take from_))).length + 1 < _; omega⟩, by decide⟩ fun b' cap' h3 h4 => ?_
  ((conv => whnf); (repeat ((first | refine VrN.norm (wrap_i64 (by omega)) ?_ | refine VrN.keep ?_ | refine DrawN.calm (by decide +kernel) ?_ | refine Nd.mk (by decide +kernel) ?_ | refine Nd.mk (by omega) ?_ | (refine Nd.mk ?_ ?_; focus ((repeat' (first | exact trivial | exact wkE_refl _ | refine And.intro ?_ ?_)); done)) | refine RdN.intro _ rfl (by rfl) ?_); (conv => whnf))))
  refine DrawN.plan [0, 1, 5, 9] [(2, 1), (3, 1), (4, 1), (6, 1), (7, 1), (8, 1), (10, 1), (11, 1), (12, 1), (13, 1), (14, 1), (15, 1), (16, 1)] [(17, 0)] (by decide +kernel) ?_
  ((conv => whnf); (repeat ((first | refine VrN.norm (wrap_i64 (by omega)) ?_ | refine VrN.keep ?_ | refine DrawN.calm (by decide +kernel) ?_ | refine Nd.mk (by decide +kernel) ?_ | refine Nd.mk (by omega) ?_ | (refine Nd.mk ?_ ?_; focus ((repeat' (first | exact trivial | exact wkE_refl _ | refine And.intro ?_ ?_)); done)) | refine RdN.intro _ rfl (by rfl) ?_); (conv => whnf))))
  refine ⟨⟨some b', cap'⟩, ⟨(fun h => by cases h), by rw [List.length_append]; exact h3, fun h => by have h : cap' = 0 := h; omega⟩, rfl, ?_⟩
  have e1 : minI (IntKind.wrap .i64 (IntKind.wrap .i64 ((pre.length : Int) + ((bs T).size : Int)) + 2)) ((bs (pre ++ c :: r)).size : Int) = ((pre ++ (c :: r).take (1 + T.length + 1)).length : Int) := by
    rw [bs_size, bs_size, wrap_i64 (x := (pre.length : Int) + (T.length : Int)) (by omega), wrap_i64 (by omega), hlen]
    simp only [List.length_append, List.length_take, List.length_cons]
    unfold minI
    split <;> omega
  refine wkH_cons ?_ (wkH_cons ?_ (wkH_cons rfl (wkH_nil _)))
  · simp only [rnCs, rnC]
    rw [e1]
    simp [at0, bs]
  · simp [at0, partsC_app]
    exact ⟨rfl, rfl⟩
end Go.Proofs.YtfcjgklghgpddaaDoor
