/-
  Contract: the law ErbEscapes.
-/
import Derived.Test.YtfcjgklghgpddaaDoorG12
namespace Go.Proofs.YtfcjgklghgpddaaDoor
open Go.AX Go.RowKit Go.Erb
set_option maxRecDepth 20000
theorem esc_big (s : List UInt8) (hs : 3000 < s.length) : ∀ H, (∀ w, Facts H w → MaxF w) → SpecH Tryd.prog 3 (pvs [.string (bs s)]) H (Ret (.bool true) H) := by
  refine factC hm Tryd.func3 (by kernel_rfl) rfl rfl ?_
  ((conv => whnf); (repeat ((first | refine VrN.norm (wrap_i64 (by omega)) ?_ | refine VrN.keep ?_ | refine DrawN.calm (by decide +kernel) ?_ | refine Nd.mk (by decide +kernel) ?_ | refine Nd.mk (by omega) ?_ | (refine Nd.mk ?_ ?_; focus ((repeat' (first | exact trivial | exact wkE_refl _ | refine And.intro ?_ ?_)); done)) | refine RdN.intro _ rfl (by rfl) ?_); (conv => whnf))))
  rw [bs_size]
  refine brd_dec (fun h0 => ?_) (fun h0 => ?_)
  · ((conv => whnf); (repeat ((first | refine VrN.norm (wrap_i64 (by omega)) ?_ | refine VrN.keep ?_ | refine DrawN.calm (by decide +kernel) ?_ | refine Nd.mk (by decide +kernel) ?_ | refine Nd.mk (by omega) ?_ | (refine Nd.mk ?_ ?_; focus ((repeat' (first | exact trivial | exact wkE_refl _ | refine And.intro ?_ ?_)); done)) | refine RdN.intro _ rfl (by rfl) ?_); (conv => whnf)))); refine call1 (sane_c _ fun w hw => hw.1) ?_
    ((conv => whnf); (repeat ((first | refine VrN.norm (wrap_i64 (by omega)) ?_ | refine VrN.keep ?_ | refine DrawN.calm (by decide +kernel) ?_ | refine Nd.mk (by decide +kernel) ?_ | refine Nd.mk (by omega) ?_ | (refine Nd.mk ?_ ?_; focus ((repeat' (first | exact trivial | exact wkE_refl _ | refine And.intro ?_ ?_)); done)) | refine RdN.intro _ rfl (by rfl) ?_); (conv => whnf))))
  omega
abbrev EscC (s t : List UInt8) : Prop := ∀ H, (∀ w, Facts H w → MaxF w) → SpecH Tryd.prog 7 (pvs [.string (bs s)]) H (Ret (.string (bs t)) H)
abbrev PlainC (t : List UInt8) (b : Bool) (n : Int) : Prop := ∀ H, (∀ w, Facts H w → MaxF w) → SpecH Tryd.prog 9 (pvs [.string (bs t), .bool false]) H (Ret (.tuple #[.bool b, .int .i64 n]) H)
theorem bs_empty (s : List UInt8) (l : List UInt8) (hl : l = []) : ((bs s).data.toList == l) = s.isEmpty := by subst hl; rw [bs_list]; cases s <;> rfl
theorem esc_nil (s t : List UInt8) (hs : s.length ≤ 3000) (he : s.isEmpty = true) (hte : t.isEmpty = true) (hE : EscC s t) (hP : SpecF Tryd.prog 8 [.string (bs t), .bool false] MaxF (PartsR ([], 0, 0))) (hpl : PlainC t true 0) :
    ∀ H, (∀ w, Facts H w → MaxF w) → SpecH Tryd.prog 3 (pvs [.string (bs s)]) H (Ret (.bool true) H) := by
  refine factC hm Tryd.func3 (by kernel_rfl) rfl rfl ?_
  ((conv => whnf); (repeat ((first | refine VrN.norm (wrap_i64 (by omega)) ?_ | refine VrN.keep ?_ | refine DrawN.calm (by decide +kernel) ?_ | refine Nd.mk (by decide +kernel) ?_ | refine Nd.mk (by omega) ?_ | (refine Nd.mk ?_ ?_; focus ((repeat' (first | exact trivial | exact wkE_refl _ | refine And.intro ?_ ?_)); done)) | refine RdN.intro _ rfl (by rfl) ?_); (conv => whnf))))
  rw [bs_size]
  refine brd_dec (fun h0 => ?_) (fun h0 => ?_)
  · omega
  ((conv => whnf); (repeat ((first | refine VrN.norm (wrap_i64 (by omega)) ?_ | refine VrN.keep ?_ | refine DrawN.calm (by decide +kernel) ?_ | refine Nd.mk (by decide +kernel) ?_ | refine Nd.mk (by omega) ?_ | (refine Nd.mk ?_ ?_; focus ((repeat' (first | exact trivial | exact wkE_refl _ | refine And.intro ?_ ?_)); done)) | refine RdN.intro _ rfl (by rfl) ?_); (conv => whnf)))); refine call1 (hE _ fun w hw => hw.1) ?_
  ((conv => whnf); (repeat ((first | refine VrN.norm (wrap_i64 (by omega)) ?_ | refine VrN.keep ?_ | refine DrawN.calm (by decide +kernel) ?_ | refine Nd.mk (by decide +kernel) ?_ | refine Nd.mk (by omega) ?_ | (refine Nd.mk ?_ ?_; focus ((repeat' (first | exact trivial | exact wkE_refl _ | refine And.intro ?_ ?_)); done)) | refine RdN.intro _ rfl (by rfl) ?_); (conv => whnf)))); refine SpecF.call hP (fun w hw => hw.1) fun v G hR => ?_
  obtain ⟨ob, cap, rfl, hn, hG⟩ := hR
  ((conv => whnf); (repeat ((first | refine VrN.norm (wrap_i64 (by omega)) ?_ | refine VrN.keep ?_ | refine DrawN.calm (by decide +kernel) ?_ | refine Nd.mk (by decide +kernel) ?_ | refine Nd.mk (by omega) ?_ | (refine Nd.mk ?_ ?_; focus ((repeat' (first | exact trivial | exact wkE_refl _ | refine And.intro ?_ ?_)); done)) | refine RdN.intro _ rfl (by rfl) ?_); (conv => whnf)))); refine call1 (hpl _ fun w hw => hw.1) ?_
  ((conv => whnf); (repeat ((first | refine VrN.norm (wrap_i64 (by omega)) ?_ | refine VrN.keep ?_ | refine DrawN.calm (by decide +kernel) ?_ | refine Nd.mk (by decide +kernel) ?_ | refine Nd.mk (by omega) ?_ | (refine Nd.mk ?_ ?_; focus ((repeat' (first | exact trivial | exact wkE_refl _ | refine And.intro ?_ ?_)); done)) | refine RdN.intro _ rfl (by rfl) ?_); (conv => whnf))))
  refine brdT ((bs_empty s _ (by simp)).trans he) ?_
  ((conv => whnf); (repeat ((first | refine VrN.norm (wrap_i64 (by omega)) ?_ | refine VrN.keep ?_ | refine DrawN.calm (by decide +kernel) ?_ | refine Nd.mk (by decide +kernel) ?_ | refine Nd.mk (by omega) ?_ | (refine Nd.mk ?_ ?_; focus ((repeat' (first | exact trivial | exact wkE_refl _ | refine And.intro ?_ ?_)); done)) | refine RdN.intro _ rfl (by rfl) ?_); (conv => whnf))))
  refine brdT ((bs_empty t _ (by simp)).trans hte) ?_
  ((conv => whnf); (repeat ((first | refine VrN.norm (wrap_i64 (by omega)) ?_ | refine VrN.keep ?_ | refine DrawN.calm (by decide +kernel) ?_ | refine Nd.mk (by decide +kernel) ?_ | refine Nd.mk (by omega) ?_ | (refine Nd.mk ?_ ?_; focus ((repeat' (first | exact trivial | exact wkE_refl _ | refine And.intro ?_ ?_)); done)) | refine RdN.intro _ rfl (by rfl) ?_); (conv => whnf))))
  refine call1 (sane_c _ fun w hw => hw.1) ?_
  ((conv => whnf); (repeat ((first | refine VrN.norm (wrap_i64 (by omega)) ?_ | refine VrN.keep ?_ | refine DrawN.calm (by decide +kernel) ?_ | refine Nd.mk (by decide +kernel) ?_ | refine Nd.mk (by omega) ?_ | (refine Nd.mk ?_ ?_; focus ((repeat' (first | exact trivial | exact wkE_refl _ | refine And.intro ?_ ?_)); done)) | refine RdN.intro _ rfl (by rfl) ?_); (conv => whnf))))
theorem esc_some (s t : List UInt8) (hs : s.length ≤ 3000) (he : s.isEmpty = false) (hE : EscC s t) (hP : SpecF Tryd.prog 8 [.string (bs t), .bool false] MaxF (PartsR ([⟨0, 1, s⟩], 0, 0))) (hpl : PlainC t true 0) :
    ∀ H, (∀ w, Facts H w → MaxF w) → SpecH Tryd.prog 3 (pvs [.string (bs s)]) H (Ret (.bool true) H) := by
  refine factC hm Tryd.func3 (by kernel_rfl) rfl rfl ?_
  ((conv => whnf); (repeat ((first | refine VrN.norm (wrap_i64 (by omega)) ?_ | refine VrN.keep ?_ | refine DrawN.calm (by decide +kernel) ?_ | refine Nd.mk (by decide +kernel) ?_ | refine Nd.mk (by omega) ?_ | (refine Nd.mk ?_ ?_; focus ((repeat' (first | exact trivial | exact wkE_refl _ | refine And.intro ?_ ?_)); done)) | refine RdN.intro _ rfl (by rfl) ?_); (conv => whnf))))
  rw [bs_size]
  refine brd_dec (fun h0 => ?_) (fun h0 => ?_)
  · omega
  ((conv => whnf); (repeat ((first | refine VrN.norm (wrap_i64 (by omega)) ?_ | refine VrN.keep ?_ | refine DrawN.calm (by decide +kernel) ?_ | refine Nd.mk (by decide +kernel) ?_ | refine Nd.mk (by omega) ?_ | (refine Nd.mk ?_ ?_; focus ((repeat' (first | exact trivial | exact wkE_refl _ | refine And.intro ?_ ?_)); done)) | refine RdN.intro _ rfl (by rfl) ?_); (conv => whnf)))); refine call1 (hE _ fun w hw => hw.1) ?_
  ((conv => whnf); (repeat ((first | refine VrN.norm (wrap_i64 (by omega)) ?_ | refine VrN.keep ?_ | refine DrawN.calm (by decide +kernel) ?_ | refine Nd.mk (by decide +kernel) ?_ | refine Nd.mk (by omega) ?_ | (refine Nd.mk ?_ ?_; focus ((repeat' (first | exact trivial | exact wkE_refl _ | refine And.intro ?_ ?_)); done)) | refine RdN.intro _ rfl (by rfl) ?_); (conv => whnf)))); refine SpecF.call hP (fun w hw => hw.1) fun v G hR => ?_
  obtain ⟨ob, cap, rfl, hn, hG⟩ := hR
  ((conv => whnf); (repeat ((first | refine VrN.norm (wrap_i64 (by omega)) ?_ | refine VrN.keep ?_ | refine DrawN.calm (by decide +kernel) ?_ | refine Nd.mk (by decide +kernel) ?_ | refine Nd.mk (by omega) ?_ | (refine Nd.mk ?_ ?_; focus ((repeat' (first | exact trivial | exact wkE_refl _ | refine And.intro ?_ ?_)); done)) | refine RdN.intro _ rfl (by rfl) ?_); (conv => whnf)))); refine call1 (hpl _ fun w hw => hw.1) ?_
  ((conv => whnf); (repeat ((first | refine VrN.norm (wrap_i64 (by omega)) ?_ | refine VrN.keep ?_ | refine DrawN.calm (by decide +kernel) ?_ | refine Nd.mk (by decide +kernel) ?_ | refine Nd.mk (by omega) ?_ | (refine Nd.mk ?_ ?_; focus ((repeat' (first | exact trivial | exact wkE_refl _ | refine And.intro ?_ ?_)); done)) | refine RdN.intro _ rfl (by rfl) ?_); (conv => whnf))))
  refine brdF ((bs_empty s _ (by simp)).trans he) ?_
  ((conv => whnf); (repeat ((first | refine VrN.norm (wrap_i64 (by omega)) ?_ | refine VrN.keep ?_ | refine DrawN.calm (by decide +kernel) ?_ | refine Nd.mk (by decide +kernel) ?_ | refine Nd.mk (by omega) ?_ | (refine Nd.mk ?_ ?_; focus ((repeat' (first | exact trivial | exact wkE_refl _ | refine And.intro ?_ ?_)); done)) | refine RdN.intro _ rfl (by rfl) ?_); (conv => whnf))))
  refine SpecH.freeze (callOk Tryd.func10 (by kernel_rfl) rfl) 2 rfl rfl fun b c hbc => ?_
  refine SpecH.plain rfl ?_
  refine call1 (same_c (at0 ob) cap [⟨0, 1, s⟩] (some ⟨b, 0, none⟩) c [⟨0, 1, s⟩] true (by simp) (fun h => hn (by cases ob <;> simp_all [at0])) (fun h => by cases h) _ fun w hw => ⟨hG w hw.2.1, RowF.sl hw.2.2.1⟩) ?_
  rw [sameB_refl]
  ((conv => whnf); (repeat ((first | refine VrN.norm (wrap_i64 (by omega)) ?_ | refine VrN.keep ?_ | refine DrawN.calm (by decide +kernel) ?_ | refine Nd.mk (by decide +kernel) ?_ | refine Nd.mk (by omega) ?_ | (refine Nd.mk ?_ ?_; focus ((repeat' (first | exact trivial | exact wkE_refl _ | refine And.intro ?_ ?_)); done)) | refine RdN.intro _ rfl (by rfl) ?_); (conv => whnf))))
  refine call1 (sane_c _ fun w hw => hw.1) ?_
  ((conv => whnf); (repeat ((first | refine VrN.norm (wrap_i64 (by omega)) ?_ | refine VrN.keep ?_ | refine DrawN.calm (by decide +kernel) ?_ | refine Nd.mk (by decide +kernel) ?_ | refine Nd.mk (by omega) ?_ | (refine Nd.mk ?_ ?_; focus ((repeat' (first | exact trivial | exact wkE_refl _ | refine And.intro ?_ ?_)); done)) | refine RdN.intro _ rfl (by rfl) ?_); (conv => whnf))))
theorem ErbEscapes_c (s : List UInt8) (hs : s.length ≤ 200000000000000) : ∀ H, (∀ w, Facts H w → MaxF w) → SpecH Tryd.prog 3 (pvs [.string (bs s)]) H (Ret (.bool true) H) := by
  by_cases hs3 : s.length ≤ 3000
  · have hel := esc_len _ s (Nat.le_refl _)
    have hP := Parts_c (esc s) false (by omega)
    have hp := parts_esc s hs3
    have hpl := Plain_c (esc s) false (by omega)
    have hpp : plainP (esc s) false = (true, 0) := by
      unfold plainP
      rw [hp]
      cases s <;> rfl
    rw [hpp] at hpl
    rw [hp] at hP
    have hE := Escape_c s (by omega)
    have hte : s.isEmpty = true → (esc s).isEmpty = true := fun h => by
      have : s = [] := by simpa using h
      rw [this]
      simp [esc]
    generalize esc s = t at *
    cases hse : s.isEmpty with
    | true =>
      rw [hse] at hP
      simp only [if_true] at hP
      exact esc_nil s t hs3 hse (hte hse) hE hP hpl
    | false =>
      rw [hse] at hP
      simp only [Bool.false_eq_true, if_false] at hP
      exact esc_some s t hs3 hse hE hP hpl
  · exact esc_big s (by omega)
end Go.Proofs.YtfcjgklghgpddaaDoor
