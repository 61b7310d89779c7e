/-
  Contracts of the law's as, back and sane, and of the document's Made.
-/
import Derived.Test.YtnecdpkmmncfaaaDoorC8
namespace Go.Proofs.YtnecdpkmmncfaaaDoor
open Go.AX
set_option maxRecDepth 20000

theorem as_c (y m d k i s : Int) : ∀ H, SpecH Tryd.prog 12 (pvs [dt y m d k i s]) H (Ret (dt y m d k i s) H) := by
  refine pureC hm Tryd.func12 (by kernel_rfl) rfl rfl ?_
  ((conv => whnf); (repeat ((refine VrN.keep ?_); (conv => whnf)))); rfl
theorem back_c (y m d k i s : Int) : ∀ H, SpecH Tryd.prog 6 (pvs [dt y m d k i s]) H (Ret (dt y m d k i s) H) := by
  refine pureC hm Tryd.func6 (by kernel_rfl) rfl rfl ?_
  ((conv => whnf); (repeat ((refine VrN.keep ?_); (conv => whnf)))); rfl

/-- A date of a number, which the calendar has. -/
theorem rMade_c (n : Int) : ∀ H, SpecH Tryd.prog 7 (pvs [.int .i64 n]) H
    (RetR (fun x => ∃ y m d k i s : Int, x = dt y m d k i s ∧ Cal.validB y m d k i s = true) H) := by
  refine pureR hm Tryd.func7 (by kernel_rfl) rfl rfl ?_
  (conv => whnf); refine vr_name fun u hu => ?_
  have hub : 0 ≤ u ∧ u < 18446744073709551616 := by rw [hu]; exact wrap_u64_bd n
  clear hu
  (conv => whnf); refine vr_name fun y hy => ?_
  simp (disch := omega) only [wrap_i64, Int.tmod_eq_emod_of_nonneg] at hy
  (conv => whnf)
  have key : ∀ y : Int, -2000 ≤ y ∧ y ≤ 6000 → ∀ m : Int, 1 ≤ m ∧ m ≤ 12 → Cal.validB y m (minI (1 + u / 11 % 31) (Cal.mlen y m)) (u / 13 % 24) (u / 17 % 60) (u / 19 % 60) = true := by
    intro y hy m hm
    have hp := Cal.mlen_pos y m
    rw [Cal.validB, decide_eq_true_eq, Cal.validP, minI]
    split <;> omega
  refine brd_eq (fun h => ?_) (fun h => ?_)
  · (conv => whnf); refine vr_name fun y2 hy2 => ?_
    simp (disch := omega) only [wrap_i64, wrap_u64, Int.tdiv_eq_ediv_of_nonneg, Int.tmod_eq_emod_of_nonneg] at hy2
    (conv => whnf); refine vr_name fun m hm => ?_
    simp (disch := omega) only [wrap_i64, wrap_u64, Int.tdiv_eq_ediv_of_nonneg, Int.tmod_eq_emod_of_nonneg] at hm
    (conv => whnf); refine DrawN.plan [0, 2, 3] [(1, 1), (4, 0), (5, 1), (6, 1)] [(7, 0)] (by decide +kernel) ?_
    (conv => whnf); refine call1 (rlong_c y2 m (by omega) (by omega) _) ?_
    ((conv => whnf); (repeat ((refine VrN.keep ?_); (conv => whnf)))); refine Nd.mk (by (repeat' (first | exact trivial | exact wkE_refl _ | refine And.intro ?_ ?_))) ?_
    ((conv => whnf); (repeat ((refine VrN.keep ?_); (conv => whnf))))
    refine ⟨_, rfl, _, _, _, _, _, _, rfl, ?_⟩
    simp (disch := omega) only [wrap_i64, wrap_u64, Int.tdiv_eq_ediv_of_nonneg, Int.tmod_eq_emod_of_nonneg]
    exact key y2 (by omega) m (by omega)
  · (conv => whnf); refine vr_name fun m hm => ?_
    simp (disch := omega) only [wrap_i64, wrap_u64, Int.tdiv_eq_ediv_of_nonneg, Int.tmod_eq_emod_of_nonneg] at hm
    (conv => whnf); refine DrawN.plan [0, 2, 3] [(1, 1), (4, 0), (5, 1), (6, 1)] [(7, 0)] (by decide +kernel) ?_
    (conv => whnf); refine call1 (rlong_c y m (by omega) (by omega) _) ?_
    ((conv => whnf); (repeat ((refine VrN.keep ?_); (conv => whnf)))); refine Nd.mk (by (repeat' (first | exact trivial | exact wkE_refl _ | refine And.intro ?_ ?_))) ?_
    ((conv => whnf); (repeat ((refine VrN.keep ?_); (conv => whnf))))
    refine ⟨_, rfl, _, _, _, _, _, _, rfl, ?_⟩
    simp (disch := omega) only [wrap_i64, wrap_u64, Int.tdiv_eq_ediv_of_nonneg, Int.tmod_eq_emod_of_nonneg]
    exact key y (by omega) m (by omega)

theorem sane_c : ∀ H, SpecH Tryd.prog 8 (pvs []) H (Ret (.bool true) H) := by
  refine pureC hm Tryd.func8 (by kernel_rfl) rfl rfl ?_
  ((conv => whnf); (repeat ((refine VrN.keep ?_); (conv => whnf)))); refine call1 (Moment_c 2000 3 1 0 0 0 _) ?_
  rw [show (if Cal.validB 2000 3 1 0 0 0 = true then ansM (Cal.secs 2000 3 1 0 0 0) else ie 0 1) = ie 951868800 0 from rfl]
  ((conv => whnf); (repeat ((refine VrN.keep ?_); (conv => whnf)))); refine call1 (Moment_c 2000 2 28 0 0 0 _) ?_
  rw [show (if Cal.validB 2000 2 28 0 0 0 = true then ansM (Cal.secs 2000 2 28 0 0 0) else ie 0 1) = ie 951696000 0 from rfl]
  ((conv => whnf); (repeat ((refine VrN.keep ?_); (conv => whnf)))); refine call1 (AddMonths_c 2024 1 31 0 0 0 1 _) ?_
  rw [show (if Cal.validB 2024 1 31 0 0 0 = true ∧ (-120000 : Int) ≤ 1 ∧ (1 : Int) ≤ 120000 then (if -2000 ≤ Cal.ly 2024 1 1 ∧ Cal.ly 2024 1 1 ≤ 6000 then de (dt (Cal.ly 2024 1 1) (Cal.lm 2024 1 1) (Cal.ld 2024 1 31 1) 0 0 0) 0 else de dt0 5) else de dt0 1) = de (dt 2024 2 29 0 0 0) 0 from rfl]
  ((conv => whnf); (repeat ((refine VrN.keep ?_); (conv => whnf))))
  refine Nd.mk (by kernel_rfl) ?_
  ((conv => whnf); (repeat ((refine VrN.keep ?_); (conv => whnf))))
  rfl
end Go.Proofs.YtnecdpkmmncfaaaDoor
