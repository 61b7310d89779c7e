/-
  Contracts: weekday, day of the year, week, of both.
-/
import Derived.Test.YtnecdpkmmncfaaaDoorC12
namespace Go.Proofs.YtnecdpkmmncfaaaDoor
open Go.AX
set_option maxRecDepth 20000

theorem rweekday_c (n : Int) (hn : -100000000 ≤ n ∧ n ≤ 100000000) : ∀ H, SpecH Tryd.prog 36 (pvs [.int .i64 n]) H (Ret (.int .i64 ((n + 3) % 7)) H) := by
  refine pureC hm Tryd.func36 (by kernel_rfl) rfl rfl ?_
  ((conv => whnf); (repeat ((refine VrN.keep ?_); (conv => whnf)))); refine call1 (rfloor_c _ 7 (by omega) (by omega) (by simp (disch := omega) only [wrap_i64]; omega) _) ?_
  ((conv => whnf); (repeat ((refine VrN.keep ?_); (conv => whnf))))
  refine out_int ?_
  simp (disch := omega) only [wrap_i64]; omega
theorem rWeekday_c (y m d h i s : Int) : ∀ H, SpecH Tryd.prog 16 (pvs [dt y m d h i s]) H (Ret (if Cal.validB y m d h i s then ie ((Cal.dn y m d + 3) % 7) 0 else ie 0 1) H) := by
  refine pureC hm Tryd.func16 (by kernel_rfl) rfl rfl ?_
  ((conv => whnf); (repeat ((refine VrN.keep ?_); (conv => whnf)))); refine call1 (rvalid_c y m d h i s _) ?_
  ((conv => whnf); (repeat ((refine VrN.keep ?_); (conv => whnf))))
  refine brd_not (brd_intro (fun hv => ?_) (fun hv => ?_))
  · have hv' := of_decide_eq_true hv
    unfold Cal.validP at hv'
    have hmd := Cal.mlen_pos y m
    have hb := Cal.dn_bd y m d (by omega) (by omega)
    ((conv => whnf); (repeat ((refine VrN.keep ?_); (conv => whnf)))); refine call1 (rdays_c y m d h i s (by omega) (by omega) (by omega) (by omega) _) ?_
    ((conv => whnf); (repeat ((refine VrN.keep ?_); (conv => whnf)))); refine call1 (rweekday_c _ (by omega) _) ?_
    ((conv => whnf); (repeat ((refine VrN.keep ?_); (conv => whnf)))); rw [if_pos hv]; rfl
  · ((conv => whnf); (repeat ((refine VrN.keep ?_); (conv => whnf)))); rw [if_neg (by simp [hv])]; rfl
theorem rYearDay_c (y m d h i s : Int) : ∀ H, SpecH Tryd.prog 18 (pvs [dt y m d h i s]) H (Ret (if Cal.validB y m d h i s then ie (Cal.dn y m d - Cal.dn y 1 1 + 1) 0 else ie 0 1) H) := by
  refine pureC hm Tryd.func18 (by kernel_rfl) rfl rfl ?_
  ((conv => whnf); (repeat ((refine VrN.keep ?_); (conv => whnf)))); refine call1 (rvalid_c y m d h i s _) ?_
  ((conv => whnf); (repeat ((refine VrN.keep ?_); (conv => whnf))))
  refine brd_not (brd_intro (fun hv => ?_) (fun hv => ?_))
  · have hv' := of_decide_eq_true hv
    unfold Cal.validP at hv'
    have hmd := Cal.mlen_pos y m
    have hb := Cal.dn_bd y m d (by omega) (by omega)
    have hb2 := Cal.dn_bd y 1 1 (by omega) (by omega)
    (conv => whnf); refine DrawN.quiet (by decide +kernel) ?_
    ((conv => whnf); (repeat ((refine VrN.keep ?_); (conv => whnf)))); refine callQ (rdays_c y m d h i s (by omega) (by omega) (by omega) (by omega) _) ?_
    ((conv => whnf); (repeat ((refine VrN.keep ?_); (conv => whnf)))); refine callQ (rdays_c y 1 1 0 0 0 (by omega) (by omega) (by omega) (by omega) _) ?_
    ((conv => whnf); (repeat ((refine VrN.keep ?_); (conv => whnf)))); rw [if_pos hv]
    simp (disch := omega) only [wrap_i64]; rfl
  · ((conv => whnf); (repeat ((refine VrN.keep ?_); (conv => whnf)))); rw [if_neg (by simp [hv])]; rfl

/-- The Thursday of a day's week. -/
def thu (n : Int) : Int := n - (n + 3) % 7 + 3
def wkn (n : Int) : Int := IntKind.wrap .i64 (IntKind.wrap .i64 ((thu n - Cal.dn (Cal.cy (thu n)) 1 1).tdiv 7) + 1)
def iie (a b e : Int) : Value := .tuple #[.int .i64 a, .int .i64 b, .int .i64 e]
theorem Week_c (y m d h i s : Int) : ∀ H, SpecH Tryd.prog 19 (pvs [dt y m d h i s]) H (Ret (if Cal.validB y m d h i s then iie (Cal.cy (thu (Cal.dn y m d))) (wkn (Cal.dn y m d)) 0 else iie 0 0 1) H) := by
  refine pureC hm Tryd.func19 (by kernel_rfl) rfl rfl ?_
  ((conv => whnf); (repeat ((refine VrN.keep ?_); (conv => whnf)))); refine call1 (valid_c y m d h i s _) ?_
  ((conv => whnf); (repeat ((refine VrN.keep ?_); (conv => whnf))))
  refine brd_not (brd_intro (fun hv => ?_) (fun hv => ?_))
  · have hv' := of_decide_eq_true hv
    unfold Cal.validP at hv'
    have hmd := Cal.mlen_pos y m
    have hb := Cal.dn_year y m d (by omega) (by omega) (by omega) (by omega)
    unfold Cal.D at hb
    ((conv => whnf); (repeat ((refine VrN.keep ?_); (conv => whnf)))); refine call1 (days_c y m d (by omega) (by omega) (by omega) (by omega) _) ?_
    generalize Cal.dn y m d = N at *
    have hN : -2000000 ≤ N ∧ N ≤ 2000000 := by omega
    clear hb hv' hmd
    have ht : thu N = N - (N + 3) % 7 + 3 := rfl
    have hc := Cal.cy_bd2 (thu N) (by omega)
    have hb2 := Cal.dn_bd (Cal.cy (thu N)) 1 1 (by omega) (by omega)
    ((conv => whnf); (repeat ((first | refine VrN.norm (wrap_i64 (by omega)) ?_ | refine VrN.keep ?_ | refine DrawN.calm (by decide +kernel) ?_ | refine Nd.mk (by decide +kernel) ?_ | refine Nd.mk (by omega) ?_ | (refine Nd.mk ?_ ?_; focus ((repeat' (first | exact trivial | exact wkE_refl _ | refine And.intro ?_ ?_)); done)) | refine RdN.intro _ rfl (by rfl) ?_); (conv => whnf)))); refine call1 (weekday_c N (by omega) _) ?_
    ((conv => whnf); (repeat ((first | refine VrN.norm (wrap_i64 (by omega)) ?_ | refine VrN.keep ?_ | refine DrawN.calm (by decide +kernel) ?_ | refine Nd.mk (by decide +kernel) ?_ | refine Nd.mk (by omega) ?_ | (refine Nd.mk ?_ ?_; focus ((repeat' (first | exact trivial | exact wkE_refl _ | refine And.intro ?_ ?_)); done)) | refine RdN.intro _ rfl (by rfl) ?_); (conv => whnf))))
    try rw [wrap_i64 (x := N - (N + 3) % 7) (by omega)]
    try rw [wrap_i64 (x := N - (N + 3) % 7 + 3) (by omega)]
    rw [← ht]
    refine call1 (date_c (thu N) (by omega) _) ?_
    ((conv => whnf); (repeat ((first | refine VrN.norm (wrap_i64 (by omega)) ?_ | refine VrN.keep ?_ | refine DrawN.calm (by decide +kernel) ?_ | refine Nd.mk (by decide +kernel) ?_ | refine Nd.mk (by omega) ?_ | (refine Nd.mk ?_ ?_; focus ((repeat' (first | exact trivial | exact wkE_refl _ | refine And.intro ?_ ?_)); done)) | refine RdN.intro _ rfl (by rfl) ?_); (conv => whnf)))); refine call1 (days_c (Cal.cy (thu N)) 1 1 (by omega) (by omega) (by omega) (by omega) _) ?_
    ((conv => whnf); (repeat ((refine VrN.keep ?_); (conv => whnf)))); rw [if_pos hv, iie, wkn]
    rw [wrap_i64 (x := thu N - Cal.dn (Cal.cy (thu N)) 1 1) (by omega)]
  · ((conv => whnf); (repeat ((refine VrN.keep ?_); (conv => whnf)))); rw [if_neg (by simp [hv])]; rfl
theorem rWeek_c (y m d h i s : Int) : ∀ H, SpecH Tryd.prog 20 (pvs [dt y m d h i s]) H (Ret (if Cal.validB y m d h i s then iie (Cal.cy (thu (Cal.dn y m d))) (wkn (Cal.dn y m d)) 0 else iie 0 0 1) H) := by
  refine pureC hm Tryd.func20 (by kernel_rfl) rfl rfl ?_
  ((conv => whnf); (repeat ((refine VrN.keep ?_); (conv => whnf)))); refine call1 (rvalid_c y m d h i s _) ?_
  ((conv => whnf); (repeat ((refine VrN.keep ?_); (conv => whnf))))
  refine brd_not (brd_intro (fun hv => ?_) (fun hv => ?_))
  · have hv' := of_decide_eq_true hv
    unfold Cal.validP at hv'
    have hmd := Cal.mlen_pos y m
    have hb := Cal.dn_year y m d (by omega) (by omega) (by omega) (by omega)
    unfold Cal.D at hb
    ((conv => whnf); (repeat ((refine VrN.keep ?_); (conv => whnf)))); refine call1 (rdays_c y m d h i s (by omega) (by omega) (by omega) (by omega) _) ?_
    generalize Cal.dn y m d = N at *
    have hN : -2000000 ≤ N ∧ N ≤ 2000000 := by omega
    clear hb hv' hmd
    have ht : thu N = N - (N + 3) % 7 + 3 := rfl
    have hc := Cal.cy_bd2 (thu N) (by omega)
    have hb2 := Cal.dn_bd (Cal.cy (thu N)) 1 1 (by omega) (by omega)
    ((conv => whnf); (repeat ((first | refine VrN.norm (wrap_i64 (by omega)) ?_ | refine VrN.keep ?_ | refine DrawN.calm (by decide +kernel) ?_ | refine Nd.mk (by decide +kernel) ?_ | refine Nd.mk (by omega) ?_ | (refine Nd.mk ?_ ?_; focus ((repeat' (first | exact trivial | exact wkE_refl _ | refine And.intro ?_ ?_)); done)) | refine RdN.intro _ rfl (by rfl) ?_); (conv => whnf)))); refine call1 (rweekday_c N (by omega) _) ?_
    ((conv => whnf); (repeat ((first | refine VrN.norm (wrap_i64 (by omega)) ?_ | refine VrN.keep ?_ | refine DrawN.calm (by decide +kernel) ?_ | refine Nd.mk (by decide +kernel) ?_ | refine Nd.mk (by omega) ?_ | (refine Nd.mk ?_ ?_; focus ((repeat' (first | exact trivial | exact wkE_refl _ | refine And.intro ?_ ?_)); done)) | refine RdN.intro _ rfl (by rfl) ?_); (conv => whnf))))
    try rw [wrap_i64 (x := N - (N + 3) % 7) (by omega)]
    try rw [wrap_i64 (x := N - (N + 3) % 7 + 3) (by omega)]
    rw [← ht]
    refine call1 (rdated_c (thu N) (by omega) _) ?_
    ((conv => whnf); (repeat ((first | refine VrN.norm (wrap_i64 (by omega)) ?_ | refine VrN.keep ?_ | refine DrawN.calm (by decide +kernel) ?_ | refine Nd.mk (by decide +kernel) ?_ | refine Nd.mk (by omega) ?_ | (refine Nd.mk ?_ ?_; focus ((repeat' (first | exact trivial | exact wkE_refl _ | refine And.intro ?_ ?_)); done)) | refine RdN.intro _ rfl (by rfl) ?_); (conv => whnf)))); refine call1 (rdays_c (Cal.cy (thu N)) 1 1 0 0 0 (by omega) (by omega) (by omega) (by omega) _) ?_
    ((conv => whnf); (repeat ((refine VrN.keep ?_); (conv => whnf)))); rw [if_pos hv, iie, wkn]
    rw [wrap_i64 (x := thu N - Cal.dn (Cal.cy (thu N)) 1 1) (by omega)]
  · ((conv => whnf); (repeat ((refine VrN.keep ?_); (conv => whnf)))); rw [if_neg (by simp [hv])]; rfl
end Go.Proofs.YtnecdpkmmncfaaaDoor
