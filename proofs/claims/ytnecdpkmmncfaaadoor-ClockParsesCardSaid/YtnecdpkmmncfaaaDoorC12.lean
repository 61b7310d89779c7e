/-
  Contracts of the document's Of, Leap, Days and Moment.
-/
import Derived.Test.YtnecdpkmmncfaaaDoorC10
namespace Go.Proofs.YtnecdpkmmncfaaaDoor
open Go.AX
set_option maxRecDepth 20000

theorem rMoment_c (y m d h i s : Int) : ∀ H, SpecH Tryd.prog 14 (pvs [dt y m d h i s]) H (Ret (if Cal.validB y m d h i s then ansM (Cal.secs y m d h i s) else ie 0 1) H) := by
  refine pureC hm Tryd.func14 (by kernel_rfl) rfl rfl ?_
  ((conv => whnf); (repeat ((refine VrN.keep ?_); (conv => whnf)))); refine call1 (rvalid_c y m d h i s _) ?_
  ((conv => whnf); (repeat ((refine VrN.keep ?_); (conv => whnf))))
  refine brd_not (brd_intro (fun hv => ?_) (fun hv => ?_))
  · have hv' := of_decide_eq_true hv
    unfold Cal.validP at hv'
    have hmd := Cal.mlen_pos y m
    ((conv => whnf); (repeat ((refine VrN.keep ?_); (conv => whnf)))); refine call1 (rseconds_c y m d h i s (by omega) (by omega) (by omega) (by omega) (by omega) (by omega) (by omega) _) ?_
    rw [if_pos hv, ansM]
    ((conv => whnf); (repeat ((refine VrN.keep ?_); (conv => whnf)))); refine call1 (rin_c _ _ _ _) ?_
    ((conv => whnf); (repeat ((refine VrN.keep ?_); (conv => whnf)))); refine brd_not (brd_dec (fun hin => ?_) (fun hin => ?_))
    · rw [if_pos hin]; ((conv => whnf); (repeat ((refine VrN.keep ?_); (conv => whnf)))); try rfl
    · rw [if_neg hin]; ((conv => whnf); (repeat ((refine VrN.keep ?_); (conv => whnf)))); try rfl
  · rw [if_neg (by simp [hv])]; ((conv => whnf); (repeat ((refine VrN.keep ?_); (conv => whnf)))); try rfl

end Go.Proofs.YtnecdpkmmncfaaaDoor
