/-
  Contract: writes.
-/
import Derived.Test.YtfcjgklghgpddaaDoorH6
namespace Go.Proofs.YtfcjgklghgpddaaDoor
open Go.AX Go.RowKit Go.Erb
set_option maxRecDepth 20000

theorem sameB_bare : ∀ l m : List Part, l.map bare = m.map bare → sameB false l m = true
  | [], [], _ => rfl
  | [], _ :: _, h => by simp at h
  | _ :: _, [], h => by simp at h
  | a :: l, b :: m, h => by
    simp only [List.map_cons, List.cons.injEq, bare, Prod.mk.injEq] at h
    simp [sameB, sameP, h.1.1, h.1.2, sameB_bare l m h.2]
theorem at0_none {ob : Option Nat} {P : Prop} (h : ob = none → P) : at0 ob = none → P := fun e => h (by cases ob with | none => rfl | some _ => cases e)
set_option maxHeartbeats 1000000 in
theorem writes_c (a : Option Addr) (cap : Nat) (l : List Part) (hl : l.length ≤ 1000000) (htl : ∀ p ∈ l, p.text.length ≤ 100000) (hx : (text l).length ≤ 50000) (ha : a = none → l = []) : ∀ H, (∀ w, Facts H w → MaxF w ∧ SlAt a (l.length * 3) (partsC l) w) →
    SpecH Tryd.prog 11 (pvs [.slice a l.length cap]) H (Ret (.bool true) H) := by
  refine factC hm Tryd.func11 (by kernel_rfl) rfl rfl ?_
  have hT := Text_c a cap l hl htl (by omega) ha
  have hF := fun (b : Option Nat) (c : Nat) (h : b = none → l = []) => Fits_c (at0 b) c l hl (fun p hp => Nat.le_trans (htl p hp) (by omega)) (at0_none h)
  cases hf : fits false l with
  | false =>
    rw [textV, hf] at hT
    simp only [Bool.false_eq_true, if_false] at hT
    rw [hf] at hF
    (((conv => whnf); (repeat ((first | refine VrN.norm (wrap_i64 (by omega)) ?_ | refine VrN.keep ?_ | refine DrawN.calm (by decide +kernel) ?_ | refine Nd.mk (by decide +kernel) ?_ | refine Nd.mk (by omega) ?_ | (refine Nd.mk ?_ ?_; focus ((repeat' (first | exact trivial | exact wkE_refl _ | refine And.intro ?_ ?_)); done)) | refine RdN.intro _ rfl (by rfl) ?_); (conv => whnf)))); first | refine call1 (hT _ fun w hw => hw.1) ?_ | refine callQ (hT _ fun w hw => hw.1) ?_)
    ((conv => whnf); (repeat ((first | refine VrN.norm (wrap_i64 (by omega)) ?_ | refine VrN.keep ?_ | refine DrawN.calm (by decide +kernel) ?_ | refine Nd.mk (by decide +kernel) ?_ | refine Nd.mk (by omega) ?_ | (refine Nd.mk ?_ ?_; focus ((repeat' (first | exact trivial | exact wkE_refl _ | refine And.intro ?_ ?_)); done)) | refine RdN.intro _ rfl (by rfl) ?_); (conv => whnf))))
    refine SpecF.call (as_c a cap l hl ha) (fun w hw => hw.1.2) fun v G hR => ?_
    obtain ⟨ob, c, rfl, hn, hG⟩ := hR
    (((conv => whnf); (repeat ((first | refine VrN.norm (wrap_i64 (by omega)) ?_ | refine VrN.keep ?_ | refine DrawN.calm (by decide +kernel) ?_ | refine Nd.mk (by decide +kernel) ?_ | refine Nd.mk (by omega) ?_ | (refine Nd.mk ?_ ?_; focus ((repeat' (first | exact trivial | exact wkE_refl _ | refine And.intro ?_ ?_)); done)) | refine RdN.intro _ rfl (by rfl) ?_); (conv => whnf)))); first | refine call1 (hF ob c hn _ fun w hw => hG w hw.2.1) ?_ | refine callQ (hF ob c hn _ fun w hw => hG w hw.2.1) ?_)
    ((conv => whnf); (repeat ((first | refine VrN.norm (wrap_i64 (by omega)) ?_ | refine VrN.keep ?_ | refine DrawN.calm (by decide +kernel) ?_ | refine Nd.mk (by decide +kernel) ?_ | refine Nd.mk (by omega) ?_ | (refine Nd.mk ?_ ?_; focus ((repeat' (first | exact trivial | exact wkE_refl _ | refine And.intro ?_ ?_)); done)) | refine RdN.intro _ rfl (by rfl) ?_); (conv => whnf))))
    rfl
  | true =>
    rw [textV, hf] at hT
    simp only [if_true] at hT
    rw [hf] at hF
    obtain ⟨ps, hps, hbare⟩ := rd_text l false hf [] [] [] [] (fun _ => rfl)
    have hcl : close [] [] [] = ([] : List Part) := rfl
    rw [hcl, List.nil_append] at hps
    have hpp : parts (text l) false = (ps, 0, 0) := by rw [parts_ok _ _ hx, hps]
    have hpl : ps.length = l.length := by simpa using congrArg List.length hbare
    have hP := Parts_c (text l) false (by omega)
    have hQ := RParts_c (text l) false (by omega)
    rw [hpp] at hP hQ
    (((conv => whnf); (repeat ((first | refine VrN.norm (wrap_i64 (by omega)) ?_ | refine VrN.keep ?_ | refine DrawN.calm (by decide +kernel) ?_ | refine Nd.mk (by decide +kernel) ?_ | refine Nd.mk (by omega) ?_ | (refine Nd.mk ?_ ?_; focus ((repeat' (first | exact trivial | exact wkE_refl _ | refine And.intro ?_ ?_)); done)) | refine RdN.intro _ rfl (by rfl) ?_); (conv => whnf)))); first | refine call1 (hT _ fun w hw => hw.1) ?_ | refine callQ (hT _ fun w hw => hw.1) ?_)
    ((conv => whnf); (repeat ((first | refine VrN.norm (wrap_i64 (by omega)) ?_ | refine VrN.keep ?_ | refine DrawN.calm (by decide +kernel) ?_ | refine Nd.mk (by decide +kernel) ?_ | refine Nd.mk (by omega) ?_ | (refine Nd.mk ?_ ?_; focus ((repeat' (first | exact trivial | exact wkE_refl _ | refine And.intro ?_ ?_)); done)) | refine RdN.intro _ rfl (by rfl) ?_); (conv => whnf))))
    refine SpecF.call (as_c a cap l hl ha) (fun w hw => hw.1.2) fun v G hR => ?_
    obtain ⟨ob, c, rfl, hn, hG⟩ := hR
    (((conv => whnf); (repeat ((first | refine VrN.norm (wrap_i64 (by omega)) ?_ | refine VrN.keep ?_ | refine DrawN.calm (by decide +kernel) ?_ | refine Nd.mk (by decide +kernel) ?_ | refine Nd.mk (by omega) ?_ | (refine Nd.mk ?_ ?_; focus ((repeat' (first | exact trivial | exact wkE_refl _ | refine And.intro ?_ ?_)); done)) | refine RdN.intro _ rfl (by rfl) ?_); (conv => whnf)))); first | refine call1 (hF ob c hn _ fun w hw => hG w hw.2.1) ?_ | refine callQ (hF ob c hn _ fun w hw => hG w hw.2.1) ?_)
    ((conv => whnf); (repeat ((first | refine VrN.norm (wrap_i64 (by omega)) ?_ | refine VrN.keep ?_ | refine DrawN.calm (by decide +kernel) ?_ | refine Nd.mk (by decide +kernel) ?_ | refine Nd.mk (by omega) ?_ | (refine Nd.mk ?_ ?_; focus ((repeat' (first | exact trivial | exact wkE_refl _ | refine And.intro ?_ ?_)); done)) | refine RdN.intro _ rfl (by rfl) ?_); (conv => whnf))))
    refine SpecF.call hP (fun w hw => hw.1.1) fun v G2 hR => ?_
    obtain ⟨ob2, c2, rfl, hn2, hG2⟩ := hR
    ((conv => whnf); (repeat ((first | refine VrN.norm (wrap_i64 (by omega)) ?_ | refine VrN.keep ?_ | refine DrawN.calm (by decide +kernel) ?_ | refine Nd.mk (by decide +kernel) ?_ | refine Nd.mk (by omega) ?_ | (refine Nd.mk ?_ ?_; focus ((repeat' (first | exact trivial | exact wkE_refl _ | refine And.intro ?_ ?_)); done)) | refine RdN.intro _ rfl (by rfl) ?_); (conv => whnf))))
    refine SpecF.call hQ (fun w hw => hw.1.1) fun v G3 hR => ?_
    obtain ⟨ob3, c3, rfl, hn3, hG3⟩ := hR
    ((conv => whnf); (repeat ((first | refine VrN.norm (wrap_i64 (by omega)) ?_ | refine VrN.keep ?_ | refine DrawN.calm (by decide +kernel) ?_ | refine Nd.mk (by decide +kernel) ?_ | refine Nd.mk (by omega) ?_ | (refine Nd.mk ?_ ?_; focus ((repeat' (first | exact trivial | exact wkE_refl _ | refine And.intro ?_ ?_)); done)) | refine RdN.intro _ rfl (by rfl) ?_); (conv => whnf))))
    refine SpecF.call (as_c a cap l hl ha) (fun w hw => hw.1.2) fun v G4 hR => ?_
    obtain ⟨ob4, c4, rfl, hn4, hG4⟩ := hR
    (((conv => whnf); (repeat ((first | refine VrN.norm (wrap_i64 (by omega)) ?_ | refine VrN.keep ?_ | refine DrawN.calm (by decide +kernel) ?_ | refine Nd.mk (by decide +kernel) ?_ | refine Nd.mk (by omega) ?_ | (refine Nd.mk ?_ ?_; focus ((repeat' (first | exact trivial | exact wkE_refl _ | refine And.intro ?_ ?_)); done)) | refine RdN.intro _ rfl (by rfl) ?_); (conv => whnf)))); first | refine call1 (same_c (at0 ob2) c2 ps (at0 ob4) c4 l false (by omega) (at0_none hn2) (at0_none hn4) _ fun w hw => ⟨hG2 w hw.2.2.1, hG4 w hw.2.2.2.2.1⟩) ?_ | refine callQ (same_c (at0 ob2) c2 ps (at0 ob4) c4 l false (by omega) (at0_none hn2) (at0_none hn4) _ fun w hw => ⟨hG2 w hw.2.2.1, hG4 w hw.2.2.2.2.1⟩) ?_)
    rw [sameB_bare ps l hbare]
    ((conv => whnf); (repeat ((first | refine VrN.norm (wrap_i64 (by omega)) ?_ | refine VrN.keep ?_ | refine DrawN.calm (by decide +kernel) ?_ | refine Nd.mk (by decide +kernel) ?_ | refine Nd.mk (by omega) ?_ | (refine Nd.mk ?_ ?_; focus ((repeat' (first | exact trivial | exact wkE_refl _ | refine And.intro ?_ ?_)); done)) | refine RdN.intro _ rfl (by rfl) ?_); (conv => whnf))))
    refine call1 (same_c (at0 ob2) c2 ps (at0 ob3) c3 ps true (by omega) (at0_none hn2) (at0_none hn3) _ fun w hw => ⟨hG2 w hw.2.2.1, hG3 w hw.2.2.2.1⟩) ?_
    rw [sameB_refl]
    ((conv => whnf); (repeat ((first | refine VrN.norm (wrap_i64 (by omega)) ?_ | refine VrN.keep ?_ | refine DrawN.calm (by decide +kernel) ?_ | refine Nd.mk (by decide +kernel) ?_ | refine Nd.mk (by omega) ?_ | (refine Nd.mk ?_ ?_; focus ((repeat' (first | exact trivial | exact wkE_refl _ | refine And.intro ?_ ?_)); done)) | refine RdN.intro _ rfl (by rfl) ?_); (conv => whnf))))
end Go.Proofs.YtfcjgklghgpddaaDoor
