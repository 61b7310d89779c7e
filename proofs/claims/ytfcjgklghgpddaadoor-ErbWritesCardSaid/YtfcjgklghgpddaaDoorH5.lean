/-
  Contracts: parts copied; parts written as a template (Text).
-/
import Derived.Test.YtfcjgklghgpddaaDoorH4
import Derived.Test.YtfcjgklghgpddaaDoorAx26
namespace Go.Proofs.YtfcjgklghgpddaaDoor
open Go.AX Go.RowKit Go.Erb
set_option maxRecDepth 20000

def RowR (l : List Part) (v : Value) (G : World → Prop) : Prop := ∃ ob cap, v = .slice (at0 ob) l.length cap ∧ (ob = none → l = []) ∧ ∀ w, G w → SlAt (at0 ob) (l.length * 3) (partsC l) w
theorem as_c (a : Option Addr) (cap : Nat) (l : List Part) (hl : l.length ≤ 1000000) (ha : a = none → l = []) : SpecF Tryd.prog 19 [.slice a l.length cap] (fun w => SlAt a (l.length * 3) (partsC l) w) (RowR l) := by
  refine specF hm Tryd.func19 (by kernel_rfl) rfl rfl ?_
  ((conv => whnf); (repeat ((first | refine VrN.norm (wrap_i64 (by omega)) ?_ | refine VrN.keep ?_ | refine DrawN.calm (by decide +kernel) ?_ | refine Nd.mk (by decide +kernel) ?_ | refine Nd.mk (by omega) ?_ | (refine Nd.mk ?_ ?_; focus ((repeat' (first | exact trivial | exact wkE_refl _ | refine And.intro ?_ ?_)); done)) | refine RdN.intro _ rfl (by rfl) ?_); (conv => whnf))))
  refine LoopN.intro (Nat × BSt) (fun ⟨i, o⟩ => i ≤ l.length ∧ o.ok i) (fun ⟨i, o⟩ => mkS Tryd.f19.ntmps 0 [(0, .c (.v (.slice a l.length cap))), (3, .c (.v (.slice (at0 o.ob) i o.cap))), (4, .c (.v (.int .i64 (i : Int))))])
    (fun ⟨i, o⟩ => [.fact fun w => SlAt a (l.length * 3) (partsC l) w, .app 32 3 (partsC (l.take i)) (at0 o.ob) i o.cap]) (fun ⟨i, _⟩ => l.length - i) [.app 0 0 [] none 0 0] rfl
    (fun _ => rfl) (fun _ => rfl) (fun _ _ => okHB_eq rfl) ⟨(0, ⟨none, 0⟩), ⟨Nat.zero_le _, ⟨fun _ => ⟨rfl, rfl⟩, Nat.le_refl _, fun _ => rfl⟩⟩, ?_, ⟨wkE_refl _, wkE_nil, wkH_nil _⟩⟩ ?_
  · (repeat' (first | exact trivial | refine And.intro (by with_reducible rfl) ?_ | (with_reducible exact wkC_refl _) | (with_reducible exact wkCs_refl _) | refine And.intro ?_ ?_))
    all_goals rfl
  rintro ⟨i, ⟨ob, oc⟩⟩ ⟨hi, ok⟩
  ((conv => whnf); (repeat ((first | refine VrN.norm (wrap_i64 (by omega)) ?_ | refine VrN.keep ?_ | refine DrawN.calm (by decide +kernel) ?_ | refine Nd.mk (by decide +kernel) ?_ | refine Nd.mk (by omega) ?_ | (refine Nd.mk ?_ ?_; focus ((repeat' (first | exact trivial | exact wkE_refl _ | refine And.intro ?_ ?_)); done)) | refine RdN.intro _ rfl (by rfl) ?_); (conv => whnf))))
  refine brd_dec (fun h1 => ?_) (fun h1 => ?_)
  · have hp : ∃ p, l[i]? = some p := ⟨_, List.getElem?_eq_getElem (by omega)⟩
    obtain ⟨p, hp⟩ := hp
    have hsa : a.isSome = true := by
      cases a with
      | none => rw [ha rfl] at hp; cases hp
      | some _ => rfl
    ((conv => whnf); (repeat ((first | refine VrN.norm (wrap_i64 (by omega)) ?_ | refine VrN.keep ?_ | refine DrawN.calm (by decide +kernel) ?_ | refine Nd.mk (by decide +kernel) ?_ | refine Nd.mk (by omega) ?_ | (refine Nd.mk ?_ ?_; focus ((repeat' (first | exact trivial | exact wkE_refl _ | refine And.intro ?_ ?_)); done)) | refine RdN.intro _ rfl (by rfl) ?_); (conv => whnf))))
    refine DrawN.plan [0, 1, 2, 6, 7, 11, 12] [(3, 1), (4, 1), (5, 1), (8, 1), (9, 1), (10, 1), (13, 1), (14, 1), (15, 1), (16, 1), (17, 0)] [(18, 0), (19, 0)] (by decide +kernel) ?_
    ((conv => whnf); (repeat ((first | refine VrN.norm (wrap_i64 (by omega)) ?_ | refine VrN.keep ?_ | refine DrawN.calm (by decide +kernel) ?_ | refine Nd.mk (by decide +kernel) ?_ | refine Nd.mk (by omega) ?_ | (refine Nd.mk ?_ ?_; focus ((repeat' (first | exact trivial | exact wkE_refl _ | refine And.intro ?_ ?_)); done)) | refine RdN.intro _ rfl (by rfl) ?_); (conv => whnf))))
    refine Nd.mk ⟨hsa, by omega, by omega⟩ ?_
    ((conv => whnf); (repeat ((first | refine VrN.norm (wrap_i64 (by omega)) ?_ | refine VrN.keep ?_ | refine DrawN.calm (by decide +kernel) ?_ | refine Nd.mk (by decide +kernel) ?_ | refine Nd.mk (by omega) ?_ | (refine Nd.mk ?_ ?_; focus ((repeat' (first | exact trivial | exact wkE_refl _ | refine And.intro ?_ ?_)); done)) | refine RdN.intro _ rfl (by rfl) ?_); (conv => whnf))))
    refine LdN.fld (.int .i64 p.kind) rfl (fun w hw => hw.1) (by rw [Int.toNat_natCast]; exact partsC_get l i 0 (by decide) hp) ?_
    ((conv => whnf); (repeat ((first | refine VrN.norm (wrap_i64 (by omega)) ?_ | refine VrN.keep ?_ | refine DrawN.calm (by decide +kernel) ?_ | refine Nd.mk (by decide +kernel) ?_ | refine Nd.mk (by omega) ?_ | (refine Nd.mk ?_ ?_; focus ((repeat' (first | exact trivial | exact wkE_refl _ | refine And.intro ?_ ?_)); done)) | refine RdN.intro _ rfl (by rfl) ?_); (conv => whnf))))
    refine Nd.mk ⟨hsa, by omega, by omega⟩ ?_
    ((conv => whnf); (repeat ((first | refine VrN.norm (wrap_i64 (by omega)) ?_ | refine VrN.keep ?_ | refine DrawN.calm (by decide +kernel) ?_ | refine Nd.mk (by decide +kernel) ?_ | refine Nd.mk (by omega) ?_ | (refine Nd.mk ?_ ?_; focus ((repeat' (first | exact trivial | exact wkE_refl _ | refine And.intro ?_ ?_)); done)) | refine RdN.intro _ rfl (by rfl) ?_); (conv => whnf))))
    refine LdN.fld (.int .i64 p.line) rfl (fun w hw => hw.1) (by rw [Int.toNat_natCast]; exact partsC_get l i 1 (by decide) hp) ?_
    ((conv => whnf); (repeat ((first | refine VrN.norm (wrap_i64 (by omega)) ?_ | refine VrN.keep ?_ | refine DrawN.calm (by decide +kernel) ?_ | refine Nd.mk (by decide +kernel) ?_ | refine Nd.mk (by omega) ?_ | (refine Nd.mk ?_ ?_; focus ((repeat' (first | exact trivial | exact wkE_refl _ | refine And.intro ?_ ?_)); done)) | refine RdN.intro _ rfl (by rfl) ?_); (conv => whnf))))
    refine Nd.mk ⟨hsa, by omega, by omega⟩ ?_
    ((conv => whnf); (repeat ((first | refine VrN.norm (wrap_i64 (by omega)) ?_ | refine VrN.keep ?_ | refine DrawN.calm (by decide +kernel) ?_ | refine Nd.mk (by decide +kernel) ?_ | refine Nd.mk (by omega) ?_ | (refine Nd.mk ?_ ?_; focus ((repeat' (first | exact trivial | exact wkE_refl _ | refine And.intro ?_ ?_)); done)) | refine RdN.intro _ rfl (by rfl) ?_); (conv => whnf))))
    refine LdN.fld (.string (bs p.text)) rfl (fun w hw => hw.1) (by rw [Int.toNat_natCast]; exact partsC_get l i 2 (by decide) hp) ?_
    ((conv => whnf); (repeat ((first | refine VrN.norm (wrap_i64 (by omega)) ?_ | refine VrN.keep ?_ | refine DrawN.calm (by decide +kernel) ?_ | refine Nd.mk (by decide +kernel) ?_ | refine Nd.mk (by omega) ?_ | (refine Nd.mk ?_ ?_; focus ((repeat' (first | exact trivial | exact wkE_refl _ | refine And.intro ?_ ?_)); done)) | refine RdN.intro _ rfl (by rfl) ?_); (conv => whnf))))
    refine Nd.mk ⟨by omega, rfl, rfl⟩ ?_
    (conv => whnf)
    refine AppN.grow 1 (partsC (l.take i)) _ rfl rfl ⟨by omega, ⟨by show (i + 1) * 32 ≤ _; omega, by show i + 1 < _; omega⟩, by decide⟩ fun b' cap' h3 h4 => ?_
    ((conv => whnf); (repeat ((first | refine VrN.norm (wrap_i64 (by omega)) ?_ | refine VrN.keep ?_ | refine DrawN.calm (by decide +kernel) ?_ | refine Nd.mk (by decide +kernel) ?_ | refine Nd.mk (by omega) ?_ | (refine Nd.mk ?_ ?_; focus ((repeat' (first | exact trivial | exact wkE_refl _ | refine And.intro ?_ ?_)); done)) | refine RdN.intro _ rfl (by rfl) ?_); (conv => whnf))))
    refine ⟨(i + 1, ⟨some b', cap'⟩), ⟨by omega, ⟨(fun h => by cases h), h3, fun h => by have h : cap' = 0 := h; omega⟩⟩, by show l.length - (i + 1) < l.length - i; omega, ?_, ⟨wkE_refl _, wkH_cons ?_ (wkH_nil _)⟩⟩
    · (repeat' (first | exact trivial | refine And.intro (by with_reducible rfl) ?_ | (with_reducible exact wkC_refl _) | (with_reducible exact wkCs_refl _) | refine And.intro ?_ ?_))
      all_goals first | rfl | exact av_int (by first | omega | (rw [wrap_i64 (by omega)]; omega))
    · rw [take_snoc hp, partsC_app]
      rfl
  · have hil : i = l.length := by omega
    subst hil
    rw [List.take_length]
    ((conv => whnf); (repeat ((first | refine VrN.norm (wrap_i64 (by omega)) ?_ | refine VrN.keep ?_ | refine DrawN.calm (by decide +kernel) ?_ | refine Nd.mk (by decide +kernel) ?_ | refine Nd.mk (by omega) ?_ | (refine Nd.mk ?_ ?_; focus ((repeat' (first | exact trivial | exact wkE_refl _ | refine And.intro ?_ ?_)); done)) | refine RdN.intro _ rfl (by rfl) ?_); (conv => whnf))))
    refine fin_p (fun w => SlAt (at0 ob) (l.length * 3) (partsC l) w) ⟨ob, oc, rfl, fun h => ?_, fun _ h => h⟩ (fun w hw => hw.2.1)
    exact List.eq_nil_of_length_eq_zero (ok.1 h).1
end Go.Proofs.YtfcjgklghgpddaaDoor
