/-
  Contract: Parts.
-/
import Derived.Test.YtfcjgklghgpddaaDoorG9
namespace Go.Proofs.YtfcjgklghgpddaaDoor
open Go.AX Go.RowKit Go.Erb
set_option maxRecDepth 20000

/-- Parts, a line, an error number; the parts in memory that nobody writes. -/
def PartsR (p : List Part × Int × Int) (v : Value) (G : World → Prop) : Prop :=
  ∃ ob cap, v = .tuple #[.slice (at0 ob) p.1.length cap, .int .i64 p.2.1, .int .i64 p.2.2] ∧ (ob = none → p.1 = []) ∧ ∀ w, G w → SlAt (at0 ob) (p.1.length * 3) (partsC p.1) w
theorem parts_ok (s : List UInt8) (lines : Bool) (hs : s.length ≤ 50000) : parts s lines = match rdN lines [] s [] [] [] with | .ok l => (l, 0, 0) | .error n => ([], n, 14) := by
  unfold parts
  rw [if_neg (by omega)]
  rfl
theorem Parts_c (s : List UInt8) (lines : Bool) (hs : s.length ≤ 1000000000000) : SpecF Tryd.prog 8 [.string (bs s), .bool lines] MaxF (PartsR (parts s lines)) := by
  refine specF hm Tryd.func8 (by kernel_rfl) rfl rfl ?_
  ((conv => whnf); (repeat ((first | refine VrN.norm (wrap_i64 (by omega)) ?_ | refine VrN.keep ?_ | refine DrawN.calm (by decide +kernel) ?_ | refine Nd.mk (by decide +kernel) ?_ | refine Nd.mk (by omega) ?_ | (refine Nd.mk ?_ ?_; focus ((repeat' (first | exact trivial | exact wkE_refl _ | refine And.intro ?_ ?_)); done)) | refine RdN.intro _ rfl (by rfl) ?_); (conv => whnf))))
  rw [bs_size]
  refine brd_dec (fun h => ?_) (fun h => ?_)
  · have hp : parts s lines = ([], 0, 2) := by unfold parts; rw [if_pos (by omega)]
    rw [hp]
    ((conv => whnf); (repeat ((first | refine VrN.norm (wrap_i64 (by omega)) ?_ | refine VrN.keep ?_ | refine DrawN.calm (by decide +kernel) ?_ | refine Nd.mk (by decide +kernel) ?_ | refine Nd.mk (by omega) ?_ | (refine Nd.mk ?_ ?_; focus ((repeat' (first | exact trivial | exact wkE_refl _ | refine And.intro ?_ ?_)); done)) | refine RdN.intro _ rfl (by rfl) ?_); (conv => whnf))))
    exact fin_p (fun w => MaxF w) ⟨none, 0, rfl, fun _ => rfl, fun _ _ => SlAt.nil⟩ (fun w hw => hw.1)
  · have hl : s.length ≤ 50000 := by omega
    rw [parts_ok s lines hl]
    have hr := read_c s lines (by omega)
    ((conv => whnf); (repeat ((first | refine VrN.norm (wrap_i64 (by omega)) ?_ | refine VrN.keep ?_ | refine DrawN.calm (by decide +kernel) ?_ | refine Nd.mk (by decide +kernel) ?_ | refine Nd.mk (by omega) ?_ | (refine Nd.mk ?_ ?_; focus ((repeat' (first | exact trivial | exact wkE_refl _ | refine And.intro ?_ ?_)); done)) | refine RdN.intro _ rfl (by rfl) ?_); (conv => whnf))))
    refine SpecH.pad [.app 35 3 [] none 0 0, .app 5 1 [] none 0 0] rfl ?_
    refine callG hr [1, 2, 3, 0] rfl ⟨rfl, rfl, rfl, rfl, trivial⟩ rfl fun i hi => ?_
    obtain ⟨⟨s', at', line', lines', out', plain', begun'⟩, m'⟩ := i
    obtain ⟨ok', hRP⟩ := hi
    cases hR : rdN lines [] s [] [] [] with
    | ok l =>
      rw [hR] at hRP
      have hRP : out' = l := hRP
      subst hRP
      ((conv => whnf); (repeat ((first | refine VrN.norm (wrap_i64 (by omega)) ?_ | refine VrN.keep ?_ | refine DrawN.calm (by decide +kernel) ?_ | refine Nd.mk (by decide +kernel) ?_ | refine Nd.mk (by omega) ?_ | (refine Nd.mk ?_ ?_; focus ((repeat' (first | exact trivial | exact wkE_refl _ | refine And.intro ?_ ?_)); done)) | refine RdN.intro _ rfl (by rfl) ?_); (conv => whnf))))
      refine fin_p (fun w => SlAt (at0 m'.o.ob) (out'.length * 3) (partsC out') w) ⟨m'.o.ob, m'.o.cap, rfl, fun h => ?_, fun _ h => h⟩ (fun w hw => hw.2.1)
      exact List.eq_nil_of_length_eq_zero (ok'.1.1 h).1
    | error n =>
      rw [hR] at hRP
      have hRP : line' = n := hRP
      subst hRP
      ((conv => whnf); (repeat ((first | refine VrN.norm (wrap_i64 (by omega)) ?_ | refine VrN.keep ?_ | refine DrawN.calm (by decide +kernel) ?_ | refine Nd.mk (by decide +kernel) ?_ | refine Nd.mk (by omega) ?_ | (refine Nd.mk ?_ ?_; focus ((repeat' (first | exact trivial | exact wkE_refl _ | refine And.intro ?_ ?_)); done)) | refine RdN.intro _ rfl (by rfl) ?_); (conv => whnf))))
      exact fin_p (fun w => MaxF w) ⟨none, 0, rfl, fun _ => rfl, fun _ _ => SlAt.nil⟩ (fun w hw => hw.1)
end Go.Proofs.YtfcjgklghgpddaaDoor
