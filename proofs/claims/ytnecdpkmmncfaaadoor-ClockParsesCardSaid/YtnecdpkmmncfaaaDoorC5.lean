/-
  Contracts of the document's leap, long, yearly, Valid and floor.
-/
import Derived.Test.YtnecdpkmmncfaaaDoorC4
namespace Go.Proofs.YtnecdpkmmncfaaaDoor
open Go.AX
set_option maxRecDepth 20000

theorem rin_c (n lo hi : Int) : ∀ H, SpecH Tryd.prog 33 (pvs [.int .i64 n, .int .i64 lo, .int .i64 hi]) H (Ret (.bool (decide (lo ≤ n ∧ n ≤ hi))) H) := by
  refine pureC hm Tryd.func33 (by kernel_rfl) rfl rfl ?_
  repeat' ((conv => whnf); first | refine VrN.keep ?_ | refine brd_dec (fun h => ?_) (fun h => ?_) | refine brd_eq (fun h => ?_) (fun h => ?_) | refine brd_ne (fun h => ?_) (fun h => ?_))
  all_goals ((conv => whnf); (repeat ((refine VrN.keep ?_); (conv => whnf))))
  · exact out_bool (by simp; omega)
  · exact out_bool (by simp; omega)
theorem rleap_c (y : Int) : ∀ H, SpecH Tryd.prog 43 (pvs [.int .i64 y]) H (Ret (.bool (Cal.leapB y)) H) := by
  refine pureC hm Tryd.func43 (by kernel_rfl) rfl rfl ?_
  repeat' ((conv => whnf); first | refine VrN.keep ?_ | refine brd_dec (fun h => ?_) (fun h => ?_) | refine brd_eq (fun h => ?_) (fun h => ?_) | refine brd_ne (fun h => ?_) (fun h => ?_))
  all_goals (((conv => whnf); (repeat ((refine VrN.keep ?_); (conv => whnf)))); refine out_bool ?_; simp only [Cal.tmod_zero] at *; simp [Cal.leapB, Cal.leapP, Cal.tmod_beq, *])
theorem rlong_c (y m : Int) (h1 : 1 ≤ m) (h2 : m ≤ 12) : ∀ H, SpecH Tryd.prog 24 (pvs [.int .i64 y, .int .i64 m]) H (Ret (.int .i64 (Cal.mlen y m)) H) := by
  have h12 := Cal.m12 h1 h2
  clear h1 h2
  refine pureC hm Tryd.func24 (by kernel_rfl) rfl rfl ?_
  rcases h12 with rfl | rfl | rfl | rfl | rfl | rfl | rfl | rfl | rfl | rfl | rfl | rfl
  case inr.inl =>
    ((conv => whnf); (repeat ((refine VrN.keep ?_); (conv => whnf))))
    refine call1 (rleap_c y _) ?_
    ((conv => whnf); (repeat ((refine VrN.keep ?_); (conv => whnf))))
    refine brd_intro (fun h => ?_) (fun h => ?_)
    · ((conv => whnf); (repeat ((refine VrN.keep ?_); (conv => whnf)))); exact out_int (by simp [Cal.mlen, h])
    · ((conv => whnf); (repeat ((refine VrN.keep ?_); (conv => whnf))))
      refine Nd.mk (by decide) ?_
      ((conv => whnf); (repeat ((refine VrN.keep ?_); (conv => whnf))))
      refine RdN.intro _ rfl rfl ?_
      ((conv => whnf); (repeat ((refine VrN.keep ?_); (conv => whnf))))
      exact out_int (by simp [Cal.mlen, h])
  all_goals
    ((conv => whnf); (repeat ((refine VrN.keep ?_); (conv => whnf))))
    refine Nd.mk (by decide) ?_
    ((conv => whnf); (repeat ((refine VrN.keep ?_); (conv => whnf))))
    refine RdN.intro _ rfl rfl ?_
    ((conv => whnf); (repeat ((refine VrN.keep ?_); (conv => whnf))))
    exact out_int (by simp [Cal.mlen])
theorem ryearly_c (y : Int) : ∀ H, SpecH Tryd.prog 50 (pvs [.int .i64 y]) H (Ret (.int .i64 (if Cal.leapB y then 366 else 365)) H) := by
  refine pureC hm Tryd.func50 (by kernel_rfl) rfl rfl ?_
  ((conv => whnf); (repeat ((refine VrN.keep ?_); (conv => whnf)))); refine call1 (rleap_c y _) ?_
  ((conv => whnf); (repeat ((refine VrN.keep ?_); (conv => whnf)))); refine brd_intro (fun h => ?_) (fun h => ?_)
  · ((conv => whnf); (repeat ((refine VrN.keep ?_); (conv => whnf)))); exact out_int (by simp [h])
  · ((conv => whnf); (repeat ((refine VrN.keep ?_); (conv => whnf)))); exact out_int (by simp [h])
theorem rvalid_c (y m d k i s : Int) : ∀ H, SpecH Tryd.prog 23 (pvs [dt y m d k i s]) H (Ret (.bool (Cal.validB y m d k i s)) H) := by
  refine pureC hm Tryd.func23 (by kernel_rfl) rfl rfl ?_
  (conv => whnf)
  refine DrawN.quiet (by decide +kernel) ?_
  ((conv => whnf); (repeat ((refine VrN.keep ?_); (conv => whnf)))); refine callQ (rin_c _ _ _ _) ?_
  repeat' ((conv => whnf); first | refine VrN.keep ?_ | refine brd_dec (fun h => ?_) (fun h => ?_) | refine brd_eq (fun h => ?_) (fun h => ?_) | refine brd_ne (fun h => ?_) (fun h => ?_))
  all_goals (try refine callQ (rin_c _ _ _ _) ?_)
  repeat' ((conv => whnf); first | refine VrN.keep ?_ | refine brd_dec (fun h => ?_) (fun h => ?_) | refine brd_eq (fun h => ?_) (fun h => ?_) | refine brd_ne (fun h => ?_) (fun h => ?_))
  all_goals (try refine callQ (rlong_c y m (by omega) (by omega) _) ?_)
  repeat' ((conv => whnf); first | refine VrN.keep ?_ | refine brd_dec (fun h => ?_) (fun h => ?_) | refine brd_eq (fun h => ?_) (fun h => ?_) | refine brd_ne (fun h => ?_) (fun h => ?_))
  all_goals (try refine callQ (rin_c _ _ _ _) ?_)
  repeat' ((conv => whnf); first | refine VrN.keep ?_ | refine brd_dec (fun h => ?_) (fun h => ?_) | refine brd_eq (fun h => ?_) (fun h => ?_) | refine brd_ne (fun h => ?_) (fun h => ?_))
  all_goals (try refine callQ (rin_c _ _ _ _) ?_)
  repeat' ((conv => whnf); first | refine VrN.keep ?_ | refine brd_dec (fun h => ?_) (fun h => ?_) | refine brd_eq (fun h => ?_) (fun h => ?_) | refine brd_ne (fun h => ?_) (fun h => ?_))
  all_goals (try refine callQ (rin_c _ _ _ _) ?_)
  repeat' ((conv => whnf); first | refine VrN.keep ?_ | refine brd_dec (fun h => ?_) (fun h => ?_) | refine brd_eq (fun h => ?_) (fun h => ?_) | refine brd_ne (fun h => ?_) (fun h => ?_))
  all_goals (try refine callQ (rin_c _ _ _ _) ?_)
  repeat' ((conv => whnf); first | refine VrN.keep ?_ | refine brd_dec (fun h => ?_) (fun h => ?_) | refine brd_eq (fun h => ?_) (fun h => ?_) | refine brd_ne (fun h => ?_) (fun h => ?_))
  all_goals (((conv => whnf); (repeat ((refine VrN.keep ?_); (conv => whnf)))); first
    | exact out_bool (by rw [Cal.validB, eq_comm, decide_eq_false_iff_not, Cal.validP]; omega)
    | exact out_bool (by rw [Cal.validB, decide_eq_decide, Cal.validP]; omega))
theorem rfloor_c (a b : Int) (hb : 0 < b) (hb2 : b ≤ 1000000000000) (ha : -1000000000000000 ≤ a ∧ a ≤ 1000000000000000) : ∀ H, SpecH Tryd.prog 49 (pvs [.int .i64 a, .int .i64 b]) H (Ret (.int .i64 (a / b)) H) := by
  refine pureC hm Tryd.func49 (by kernel_rfl) rfl rfl ?_
  ((conv => whnf); (repeat ((refine VrN.keep ?_); (conv => whnf))))
  refine Nd.mk (by omega) ?_
  ((conv => whnf); (repeat ((refine VrN.keep ?_); (conv => whnf))))
  refine Nd.mk (by omega) ?_
  ((conv => whnf); (repeat ((refine VrN.keep ?_); (conv => whnf))))
  have hd := Cal.tdiv_bd a b hb
  have hv := Cal.down_val a b hb
  refine brd_dec (fun h => ?_) (fun h => ?_)
  · ((conv => whnf); (repeat ((refine VrN.keep ?_); (conv => whnf))))
    rw [if_pos h] at hv
    exact out_int (by simp (disch := omega) only [wrap_i64]; omega)
  · ((conv => whnf); (repeat ((refine VrN.keep ?_); (conv => whnf))))
    rw [if_neg h] at hv
    exact out_int (by simp (disch := omega) only [wrap_i64]; omega)
end Go.Proofs.YtnecdpkmmncfaaaDoor
