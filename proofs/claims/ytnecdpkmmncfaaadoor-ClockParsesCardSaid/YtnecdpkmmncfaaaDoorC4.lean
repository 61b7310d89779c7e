/-
  Contracts of clock's later, Leap, Days, AddMonths and AddDays.
-/
import Derived.Test.YtnecdpkmmncfaaaDoorC3
namespace Go.Proofs.YtnecdpkmmncfaaaDoor
open Go.AX
set_option maxRecDepth 20000

theorem later_c (y m d h i s n : Int) (hy : -100000 ≤ y ∧ y ≤ 100000) (hmo : 1 ≤ m ∧ m ≤ 12) (hn : -1000000 ≤ n ∧ n ≤ 1000000) :
    ∀ H, SpecH Tryd.prog 44 (pvs [dt y m d h i s, .int .i64 n]) H (Ret (dt (Cal.ly y m n) (Cal.lm y m n) (Cal.ld y m d n) h i s) H) := by
  refine pureC hm Tryd.func44 (by kernel_rfl) rfl rfl ?_
  (conv => whnf); refine vr_name fun all hall => ?_
  simp (disch := omega) only [wrap_i64] at hall
  have hall' : all = Cal.lall y m n := hall
  (conv => whnf); refine call1 (down_c all 12 (by omega) (by omega) (by omega) _) ?_
  have e1 : all / 12 = Cal.ly y m n := by rw [hall']; rfl
  have e2 : IntKind.wrap .i64 (IntKind.wrap .i64 (all - IntKind.wrap .i64 (12 * Cal.ly y m n)) + 1) = Cal.lm y m n := by
    rw [← e1]
    simp (disch := omega) only [wrap_i64]
    rw [Cal.lm, ← hall']; omega
  have hlm := Cal.lm_bd y m n
  (conv => whnf)
  refine DrawN.plan [0, 2, 4] [(1, 1), (3, 1), (5, 1), (6, 0), (7, 1), (8, 1)] [(9, 0)] (by decide +kernel) ?_
  (conv => whnf)
  rw [e1, e2]
  refine call1 (month_c _ _ hlm.1 hlm.2 _) ?_
  ((conv => whnf); (repeat ((first | refine VrN.norm (wrap_i64 (by omega)) ?_ | refine VrN.keep ?_ | refine DrawN.calm (by decide +kernel) ?_ | refine Nd.mk (by decide +kernel) ?_ | refine Nd.mk (by omega) ?_ | (refine Nd.mk ?_ ?_; focus ((repeat' (first | exact trivial | exact wkE_refl _ | refine And.intro ?_ ?_)); done)) | refine RdN.intro _ rfl (by rfl) ?_); (conv => whnf))))
  rfl

/-- A date and an error number. -/
def de (x : Value) (e : Int) : Value := .tuple #[x, .int .i64 e]
def dt0 : Value := dt 0 0 0 0 0 0
theorem AddMonths_c (y m d k i s n : Int) : ∀ H, SpecH Tryd.prog 25 (pvs [dt y m d k i s, .int .i64 n]) H
    (Ret (if Cal.validB y m d k i s ∧ -120000 ≤ n ∧ n ≤ 120000 then (if -2000 ≤ Cal.ly y m n ∧ Cal.ly y m n ≤ 6000 then de (dt (Cal.ly y m n) (Cal.lm y m n) (Cal.ld y m d n) k i s) 0 else de dt0 5) else de dt0 1) H) := by
  refine pureC hm Tryd.func25 (by kernel_rfl) rfl rfl ?_
  ((conv => whnf); (repeat ((refine VrN.keep ?_); (conv => whnf)))); refine call1 (valid_c y m d k i s _) ?_
  ((conv => whnf); (repeat ((refine VrN.keep ?_); (conv => whnf)))); refine brd_not (brd_intro (fun hv => ?_) (fun hv => ?_))
  · have hv' := of_decide_eq_true hv
    unfold Cal.validP at hv'
    have hmd := Cal.mlen_pos y m
    repeat' ((conv => whnf); first | refine VrN.keep ?_ | refine brd_dec (fun h => ?_) (fun h => ?_) | refine brd_eq (fun h => ?_) (fun h => ?_) | refine brd_ne (fun h => ?_) (fun h => ?_))
    · ((conv => whnf); (repeat ((refine VrN.keep ?_); (conv => whnf)))); rw [if_neg (by omega)]; try rfl
    · ((conv => whnf); (repeat ((refine VrN.keep ?_); (conv => whnf)))); rw [if_neg (by omega)]; try rfl
    · refine call1 (later_c y m d k i s n (by omega) (by omega) (by omega) _) ?_
      ((conv => whnf); (repeat ((refine VrN.keep ?_); (conv => whnf)))); refine call1 (isYear_c _ _) ?_
      rw [if_pos ⟨hv, by omega⟩]; try rfl
      ((conv => whnf); (repeat ((refine VrN.keep ?_); (conv => whnf)))); refine brd_not (brd_dec (fun hy => ?_) (fun hy => ?_))
      · ((conv => whnf); (repeat ((refine VrN.keep ?_); (conv => whnf)))); rw [if_pos hy]; try rfl
      · ((conv => whnf); (repeat ((refine VrN.keep ?_); (conv => whnf)))); rw [if_neg hy]; try rfl
  · ((conv => whnf); (repeat ((refine VrN.keep ?_); (conv => whnf)))); rw [if_neg (by simp [hv])]; try rfl

theorem dtOf_add (y m d h i s n : Int) (hh : 0 ≤ h ∧ h < 24) (hi : 0 ≤ i ∧ i < 60) (hs : 0 ≤ s ∧ s < 60) :
    dtOf (Cal.secs y m d h i s + n * 86400) = dt (Cal.cy (Cal.dn y m d + n)) (Cal.cm (Cal.dn y m d + n)) (Cal.cd (Cal.dn y m d + n)) h i s := by
  have e1 : (Cal.secs y m d h i s + n * 86400) / 86400 = Cal.dn y m d + n := by unfold Cal.secs; omega
  have e2 : (Cal.secs y m d h i s + n * 86400) % 86400 = h * 3600 + i * 60 + s := by unfold Cal.secs; omega
  unfold dtOf
  rw [e1, e2]
  have e3 : (h * 3600 + i * 60 + s) / 3600 = h := by omega
  have e4 : (h * 3600 + i * 60 + s) / 60 % 60 = i := by omega
  have e5 : (h * 3600 + i * 60 + s) % 60 = s := by omega
  rw [e3, e4, e5]

end Go.Proofs.YtnecdpkmmncfaaaDoor
