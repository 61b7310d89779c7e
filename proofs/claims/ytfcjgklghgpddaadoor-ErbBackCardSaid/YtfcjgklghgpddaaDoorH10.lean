/-
  Contract: the law ErbBack.
-/
import Derived.Test.YtfcjgklghgpddaaDoorH9
namespace Go.Proofs.YtfcjgklghgpddaaDoor
open Go.AX Go.RowKit Go.Erb
set_option maxRecDepth 20000

/-- Parts of a short template are written. -/
theorem writes_parts (s : List UInt8) (lines : Bool) (hs : s.length ≤ 1000) (ob : Option Nat) (c : Nat) (hn : ob = none → (parts s lines).1 = []) : ∀ H, (∀ w, Facts H w → MaxF w ∧ SlAt (at0 ob) ((parts s lines).1.length * 3) (partsC (parts s lines).1) w) →
    SpecH Tryd.prog 11 (pvs [.slice (at0 ob) (parts s lines).1.length c]) H (Ret (.bool true) H) := by
  have hm := parts_mass s lines
  have hl := mass_len (parts s lines).1
  have ht := text_len (parts s lines).1
  exact writes_c (at0 ob) c (parts s lines).1 (by omega) (fun p hp => by have := mass_mem hp; omega) (by omega) (at0_none hn)
theorem ErbBack_c (a : Option Addr) (cap : Nat) (l : List Int) (lines : Bool) (hl : l.length ≤ 200000000000000) (ha : a.isSome = true ∨ l.length = 0) : ∀ H, (∀ w, Facts H w → MaxF w ∧ SlAt a l.length (intsC l) w) →
    SpecH Tryd.prog 5 (pvs [.slice a l.length cap, .bool lines]) H (Ret (.bool true) H) := by
  refine factC hm Tryd.func5 (by kernel_rfl) rfl rfl ?_
  ((conv => whnf); (repeat ((first | refine VrN.norm (wrap_i64 (by omega)) ?_ | refine VrN.keep ?_ | refine DrawN.calm (by decide +kernel) ?_ | refine Nd.mk (by decide +kernel) ?_ | refine Nd.mk (by omega) ?_ | (refine Nd.mk ?_ ?_; focus ((repeat' (first | exact trivial | exact wkE_refl _ | refine And.intro ?_ ?_)); done)) | refine RdN.intro _ rfl (by rfl) ?_); (conv => whnf))))
  refine callR (Grown_c a cap l hl ha _ fun w hw => hw.1.2) fun x hx => ?_
  obtain ⟨s, rfl, hs⟩ := hx
  ((conv => whnf); (repeat ((first | refine VrN.norm (wrap_i64 (by omega)) ?_ | refine VrN.keep ?_ | refine DrawN.calm (by decide +kernel) ?_ | refine Nd.mk (by decide +kernel) ?_ | refine Nd.mk (by omega) ?_ | (refine Nd.mk ?_ ?_; focus ((repeat' (first | exact trivial | exact wkE_refl _ | refine And.intro ?_ ?_)); done)) | refine RdN.intro _ rfl (by rfl) ?_); (conv => whnf))))
  refine SpecF.call (Parts_c s lines (by omega)) (fun w hw => hw.1.1) fun v G hR => ?_
  obtain ⟨ob, c, rfl, hn, hG⟩ := hR
  ((conv => whnf); (repeat ((first | refine VrN.norm (wrap_i64 (by omega)) ?_ | refine VrN.keep ?_ | refine DrawN.calm (by decide +kernel) ?_ | refine Nd.mk (by decide +kernel) ?_ | refine Nd.mk (by omega) ?_ | (refine Nd.mk ?_ ?_; focus ((repeat' (first | exact trivial | exact wkE_refl _ | refine And.intro ?_ ?_)); done)) | refine RdN.intro _ rfl (by rfl) ?_); (conv => whnf))))
  refine brd_ne (fun h => ?_) (fun h => ?_)
  · (((conv => whnf); (repeat ((first | refine VrN.norm (wrap_i64 (by omega)) ?_ | refine VrN.keep ?_ | refine DrawN.calm (by decide +kernel) ?_ | refine Nd.mk (by decide +kernel) ?_ | refine Nd.mk (by omega) ?_ | (refine Nd.mk ?_ ?_; focus ((repeat' (first | exact trivial | exact wkE_refl _ | refine And.intro ?_ ?_)); done)) | refine RdN.intro _ rfl (by rfl) ?_); (conv => whnf)))); first | refine call1 (sane_c _ fun w hw => hw.1.1) ?_ | refine callQ (sane_c _ fun w hw => hw.1.1) ?_)
    ((conv => whnf); (repeat ((first | refine VrN.norm (wrap_i64 (by omega)) ?_ | refine VrN.keep ?_ | refine DrawN.calm (by decide +kernel) ?_ | refine Nd.mk (by decide +kernel) ?_ | refine Nd.mk (by omega) ?_ | (refine Nd.mk ?_ ?_; focus ((repeat' (first | exact trivial | exact wkE_refl _ | refine And.intro ?_ ?_)); done)) | refine RdN.intro _ rfl (by rfl) ?_); (conv => whnf))))
  · (((conv => whnf); (repeat ((first | refine VrN.norm (wrap_i64 (by omega)) ?_ | refine VrN.keep ?_ | refine DrawN.calm (by decide +kernel) ?_ | refine Nd.mk (by decide +kernel) ?_ | refine Nd.mk (by omega) ?_ | (refine Nd.mk ?_ ?_; focus ((repeat' (first | exact trivial | exact wkE_refl _ | refine And.intro ?_ ?_)); done)) | refine RdN.intro _ rfl (by rfl) ?_); (conv => whnf)))); first | refine call1 (writes_parts s lines (by omega) ob c hn _ fun w hw => ⟨hw.1.1, hG w hw.2.1⟩) ?_ | refine callQ (writes_parts s lines (by omega) ob c hn _ fun w hw => ⟨hw.1.1, hG w hw.2.1⟩) ?_)
    (((conv => whnf); (repeat ((first | refine VrN.norm (wrap_i64 (by omega)) ?_ | refine VrN.keep ?_ | refine DrawN.calm (by decide +kernel) ?_ | refine Nd.mk (by decide +kernel) ?_ | refine Nd.mk (by omega) ?_ | (refine Nd.mk ?_ ?_; focus ((repeat' (first | exact trivial | exact wkE_refl _ | refine And.intro ?_ ?_)); done)) | refine RdN.intro _ rfl (by rfl) ?_); (conv => whnf)))); first | refine call1 (sane_c _ fun w hw => hw.1.1) ?_ | refine callQ (sane_c _ fun w hw => hw.1.1) ?_)
    ((conv => whnf); (repeat ((first | refine VrN.norm (wrap_i64 (by omega)) ?_ | refine VrN.keep ?_ | refine DrawN.calm (by decide +kernel) ?_ | refine Nd.mk (by decide +kernel) ?_ | refine Nd.mk (by omega) ?_ | (refine Nd.mk ?_ ?_; focus ((repeat' (first | exact trivial | exact wkE_refl _ | refine And.intro ?_ ?_)); done)) | refine RdN.intro _ rfl (by rfl) ?_); (conv => whnf))))
end Go.Proofs.YtfcjgklghgpddaaDoor
