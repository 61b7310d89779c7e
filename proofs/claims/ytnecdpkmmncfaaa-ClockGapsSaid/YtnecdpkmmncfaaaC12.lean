/-
  Contracts of the document's Of, Leap, Days and Moment.
-/
import Derived.Test.YtnecdpkmmncfaaaC10
namespace Go.Proofs.Ytnecdpkmmncfaaa
open Go.AX
set_option maxRecDepth 20000

theorem rMoment_c (y m d h i s : Int) : ∀ H, SpecH Try.prog 49 (pvs [dt y m d h i s]) H (Ret (if Cal.validB y m d h i s then ansM (Cal.secs y m d h i s) else ie 0 1) H) := by
  refine pureC hm Try.func49 (by kernel_rfl) rfl rfl ?_
  ((conv => whnf); (repeat ((refine VrN.keep ?_); (conv => whnf)))); refine call1 (rvalid_c y m d h i s _) ?_
  ((conv => whnf); (repeat ((refine VrN.keep ?_); (conv => whnf))))
  refine brd_not (brd_intro (fun hv => ?_) (fun hv => ?_))
  · have hv' := of_decide_eq_true hv
    unfold Cal.validP at hv'
    have hmd := Cal.mlen_pos y m
    ((conv => whnf); (repeat ((refine VrN.keep ?_); (conv => whnf)))); refine call1 (rseconds_c y m d h i s (by omega) (by omega) (by omega) (by omega) (by omega) (by omega) (by omega) _) ?_
    rw [if_pos hv, ansM]
    ((conv => whnf); (repeat ((refine VrN.keep ?_); (conv => whnf)))); refine call1 (rin_c _ _ _ _) ?_
    ((conv => whnf); (repeat ((refine VrN.keep ?_); (conv => whnf)))); refine brd_not (brd_dec (fun hin => ?_) (fun hin => ?_))
    · rw [if_pos hin]; ((conv => whnf); (repeat ((refine VrN.keep ?_); (conv => whnf)))); try rfl
    · rw [if_neg hin]; ((conv => whnf); (repeat ((refine VrN.keep ?_); (conv => whnf)))); try rfl
  · rw [if_neg (by simp [hv])]; ((conv => whnf); (repeat ((refine VrN.keep ?_); (conv => whnf)))); try rfl

theorem rOf_c (n : Int) : ∀ H, SpecH Try.prog 14 (pvs [.int .i64 n]) H
    (Ret (if -100000000000 ≤ n ∧ n ≤ 100000000000 then .tuple #[dtOf n, .int .i64 0] else .tuple #[dt 0 0 0 0 0 0, .int .i64 5]) H) := by
  refine pureC hm Try.func14 (by kernel_rfl) rfl rfl ?_
  ((conv => whnf); (repeat ((refine VrN.keep ?_); (conv => whnf)))); refine call1 (rin_c _ _ _ _) ?_
  ((conv => whnf); (repeat ((refine VrN.keep ?_); (conv => whnf)))); refine brd_not (brd_dec (fun hin => ?_) (fun hin => ?_))
  · rw [if_pos hin]; ((conv => whnf); (repeat ((refine VrN.keep ?_); (conv => whnf)))); refine call1 (rof_c n (by omega) _) ?_
    ((conv => whnf); (repeat ((refine VrN.keep ?_); (conv => whnf)))); try rfl
  · rw [if_neg hin]; ((conv => whnf); (repeat ((refine VrN.keep ?_); (conv => whnf)))); try rfl

theorem rLeap_c (y : Int) : ∀ H, SpecH Try.prog 18 (pvs [.int .i64 y]) H (Ret (if -2000 ≤ y ∧ y ≤ 6000 then .tuple #[.bool (Cal.leapB y), .int .i64 0] else .tuple #[.bool false, .int .i64 1]) H) := by
  refine pureC hm Try.func18 (by kernel_rfl) rfl rfl ?_
  ((conv => whnf); (repeat ((refine VrN.keep ?_); (conv => whnf)))); refine call1 (rin_c _ _ _ _) ?_
  ((conv => whnf); (repeat ((refine VrN.keep ?_); (conv => whnf)))); refine brd_not (brd_dec (fun hin => ?_) (fun hin => ?_))
  · rw [if_pos hin]; ((conv => whnf); (repeat ((refine VrN.keep ?_); (conv => whnf)))); refine call1 (rleap_c y _) ?_
    ((conv => whnf); (repeat ((refine VrN.keep ?_); (conv => whnf)))); try rfl
  · rw [if_neg hin]; ((conv => whnf); (repeat ((refine VrN.keep ?_); (conv => whnf)))); try rfl

theorem rDays_c (y m : Int) : ∀ H, SpecH Try.prog 20 (pvs [.int .i64 y, .int .i64 m]) H (Ret (if (-2000 ≤ y ∧ y ≤ 6000) ∧ 1 ≤ m ∧ m ≤ 12 then ie (Cal.mlen y m) 0 else ie 0 1) H) := by
  refine pureC hm Try.func20 (by kernel_rfl) rfl rfl ?_
  ((conv => whnf); (repeat ((refine VrN.keep ?_); (conv => whnf)))); refine call1 (rin_c _ _ _ _) ?_
  ((conv => whnf); (repeat ((first | refine VrN.norm (wrap_i64 (by omega)) ?_ | refine VrN.keep ?_ | refine DrawN.calm (by decide +kernel) ?_ | refine Nd.mk (by decide +kernel) ?_ | refine Nd.mk (by omega) ?_ | (refine Nd.mk ?_ ?_; focus ((repeat' (first | exact trivial | exact wkE_refl _ | refine And.intro ?_ ?_)); done)) | refine RdN.intro _ rfl (by rfl) ?_); (conv => whnf)))); refine brd_not (brd_dec (fun h1 => ?_) (fun h1 => ?_))
  · ((conv => whnf); (repeat ((refine VrN.keep ?_); (conv => whnf)))); refine call1 (rin_c _ _ _ _) ?_
    ((conv => whnf); (repeat ((first | refine VrN.norm (wrap_i64 (by omega)) ?_ | refine VrN.keep ?_ | refine DrawN.calm (by decide +kernel) ?_ | refine Nd.mk (by decide +kernel) ?_ | refine Nd.mk (by omega) ?_ | (refine Nd.mk ?_ ?_; focus ((repeat' (first | exact trivial | exact wkE_refl _ | refine And.intro ?_ ?_)); done)) | refine RdN.intro _ rfl (by rfl) ?_); (conv => whnf)))); refine brd_not (brd_dec (fun h2 => ?_) (fun h2 => ?_))
    · rw [if_pos ⟨h1, h2⟩]; ((conv => whnf); (repeat ((refine VrN.keep ?_); (conv => whnf)))); refine call1 (rlong_c y m (by omega) (by omega) _) ?_
      ((conv => whnf); (repeat ((refine VrN.keep ?_); (conv => whnf)))); try rfl
    · rw [if_neg (fun h => h2 h.2)]; ((conv => whnf); (repeat ((refine VrN.keep ?_); (conv => whnf)))); try rfl
  · rw [if_neg (fun h => h1 h.1)]; ((conv => whnf); (repeat ((refine VrN.keep ?_); (conv => whnf)))); try rfl
end Go.Proofs.Ytnecdpkmmncfaaa
