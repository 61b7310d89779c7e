/-
  Contracts of clock's Valid and seconds.
-/
import Derived.Test.YtnecdpkmmncfaaaDoorC1
namespace Go.Proofs.YtnecdpkmmncfaaaDoor
open Go.AX
set_option maxRecDepth 20000

/-- A date as a value. -/
def dt (y m d h i s : Int) : Value := .agg #[.int .i64 y, .int .i64 m, .int .i64 d, .int .i64 h, .int .i64 i, .int .i64 s]

theorem valid_c (y m d h i s : Int) : ∀ H, SpecH Tryd.prog 22 (pvs [dt y m d h i s]) H (Ret (.bool (Cal.validB y m d h i s)) H) := by
  refine pureC hm Tryd.func22 (by kernel_rfl) rfl rfl ?_
  (conv => whnf)
  refine DrawN.quiet (by decide +kernel) ?_
  ((conv => whnf); (repeat ((refine VrN.keep ?_); (conv => whnf))))
  refine callQ (isYear_c y _) ?_
  repeat' ((conv => whnf); first | refine VrN.keep ?_ | refine brd_dec (fun h => ?_) (fun h => ?_) | refine brd_eq (fun h => ?_) (fun h => ?_) | refine brd_ne (fun h => ?_) (fun h => ?_))
  all_goals (try refine callQ (month_c y m (by omega) (by omega) _) ?_)
  repeat' ((conv => whnf); first | refine VrN.keep ?_ | refine brd_dec (fun h => ?_) (fun h => ?_) | refine brd_eq (fun h => ?_) (fun h => ?_) | refine brd_ne (fun h => ?_) (fun h => ?_))
  all_goals (((conv => whnf); (repeat ((refine VrN.keep ?_); (conv => whnf)))); first
    | exact out_bool (by rw [Cal.validB, eq_comm, decide_eq_false_iff_not, Cal.validP]; omega)
    | exact out_bool (by rw [Cal.validB, decide_eq_decide, Cal.validP]; omega))

theorem seconds_c (y m d h i s : Int) (hy : -100000 ≤ y ∧ y ≤ 100000) (h1 : 1 ≤ m) (h2 : m ≤ 12) (hd : 1 ≤ d ∧ d ≤ 31) (hh : 0 ≤ h ∧ h < 24) (hi : 0 ≤ i ∧ i < 60) (hs : 0 ≤ s ∧ s < 60) :
    ∀ H, SpecH Tryd.prog 31 (pvs [dt y m d h i s]) H (Ret (.int .i64 (Cal.secs y m d h i s)) H) := by
  refine pureC hm Tryd.func31 (by kernel_rfl) rfl rfl ?_
  (conv => whnf)
  refine DrawN.quiet (by decide +kernel) ?_
  ((conv => whnf); (repeat ((refine VrN.keep ?_); (conv => whnf))))
  refine callQ (days_c y m d hy h1 h2 (by omega) _) ?_
  have := Cal.dn_bd y m d hy (by omega)
  ((conv => whnf); (repeat ((refine VrN.keep ?_); (conv => whnf))))
  refine out_int ?_
  unfold Cal.secs
  simp (disch := omega) only [wrap_i64]
end Go.Proofs.YtnecdpkmmncfaaaDoor
