/-
  Contracts of clock's of, isMoment, moment, Moment, Of, weekday, Weekday and YearDay.
-/
import Derived.Test.YtnecdpkmmncfaaaDoorC2
namespace Go.Proofs.YtnecdpkmmncfaaaDoor
open Go.AX
set_option maxRecDepth 20000

/-- The date of a number of seconds, as a value. -/
def dtOf (n : Int) : Value := dt (Cal.cy (n / 86400)) (Cal.cm (n / 86400)) (Cal.cd (n / 86400)) (n % 86400 / 3600) (n % 86400 / 60 % 60) (n % 86400 % 60)

theorem out_dt {y m d h i s y' m' d' h' i' s' : Int} (e1 : y = y') (e2 : m = m') (e3 : d = d') (e4 : h = h') (e5 : i = i') (e6 : s = s') :
    Out.val (.c (.v (dt y m d h i s))) = Out.val (.c (.v (dt y' m' d' h' i' s'))) := by rw [e1, e2, e3, e4, e5, e6]

theorem isMoment_c (n : Int) : ∀ H, SpecH Tryd.prog 47 (pvs [.int .i64 n]) H (Ret (.bool (decide (-100000000000 ≤ n ∧ n ≤ 100000000000))) H) := by
  refine pureC hm Tryd.func47 (by kernel_rfl) rfl rfl ?_
  repeat' ((conv => whnf); first | refine VrN.keep ?_ | refine brd_dec (fun h => ?_) (fun h => ?_) | refine brd_eq (fun h => ?_) (fun h => ?_) | refine brd_ne (fun h => ?_) (fun h => ?_))
  all_goals ((conv => whnf); (repeat ((refine VrN.keep ?_); (conv => whnf))))
  · exact out_bool (by simp; omega)
  · exact out_bool (by simp; omega)

/-- A number and an error number. -/
def ie (n e : Int) : Value := .tuple #[.int .i64 n, .int .i64 e]
/-- A number of seconds as an answer. -/
def ansM (n : Int) : Value := if -100000000000 ≤ n ∧ n ≤ 100000000000 then ie n 0 else ie 0 5
theorem moment_c (n : Int) : ∀ H, SpecH Tryd.prog 30 (pvs [.int .i64 n]) H (Ret (ansM n) H) := by
  refine pureC hm Tryd.func30 (by kernel_rfl) rfl rfl ?_
  ((conv => whnf); (repeat ((refine VrN.keep ?_); (conv => whnf)))); refine call1 (isMoment_c n _) ?_
  ((conv => whnf); (repeat ((refine VrN.keep ?_); (conv => whnf))))
  refine brd_not (brd_dec (fun h => ?_) (fun h => ?_))
  · ((conv => whnf); (repeat ((refine VrN.keep ?_); (conv => whnf)))); rw [ansM, if_pos h]; rfl
  · ((conv => whnf); (repeat ((refine VrN.keep ?_); (conv => whnf)))); rw [ansM, if_neg h]; rfl

theorem moment_in (n : Int) (h : -100000000000 ≤ n ∧ n ≤ 100000000000) : ∀ H, SpecH Tryd.prog 30 (pvs [.int .i64 n]) H (Ret (ie n 0) H) := by
  have := moment_c n
  rwa [ansM, if_pos h] at this
theorem moment_out (n : Int) (h : ¬ (-100000000000 ≤ n ∧ n ≤ 100000000000)) : ∀ H, SpecH Tryd.prog 30 (pvs [.int .i64 n]) H (Ret (ie 0 5) H) := by
  have := moment_c n
  rwa [ansM, if_neg h] at this

theorem Moment_c (y m d h i s : Int) : ∀ H, SpecH Tryd.prog 13 (pvs [dt y m d h i s]) H (Ret (if Cal.validB y m d h i s then ansM (Cal.secs y m d h i s) else ie 0 1) H) := by
  refine pureC hm Tryd.func13 (by kernel_rfl) rfl rfl ?_
  ((conv => whnf); (repeat ((refine VrN.keep ?_); (conv => whnf)))); refine call1 (valid_c y m d h i s _) ?_
  ((conv => whnf); (repeat ((refine VrN.keep ?_); (conv => whnf))))
  refine brd_not (brd_intro (fun hv => ?_) (fun hv => ?_))
  · have hv' := of_decide_eq_true hv
    unfold Cal.validP at hv'
    have hmd := Cal.mlen_pos y m
    ((conv => whnf); (repeat ((refine VrN.keep ?_); (conv => whnf)))); refine call1 (seconds_c y m d h i s (by omega) (by omega) (by omega) (by omega) (by omega) (by omega) (by omega) _) ?_
    rw [if_pos hv, ansM]
    by_cases hin : -100000000000 ≤ Cal.secs y m d h i s ∧ Cal.secs y m d h i s ≤ 100000000000
    · rw [if_pos hin]
      ((conv => whnf); (repeat ((refine VrN.keep ?_); (conv => whnf)))); refine call1 (moment_in _ hin _) ?_
      ((conv => whnf); (repeat ((refine VrN.keep ?_); (conv => whnf)))); rfl
    · rw [if_neg hin]
      ((conv => whnf); (repeat ((refine VrN.keep ?_); (conv => whnf)))); refine call1 (moment_out _ hin _) ?_
      ((conv => whnf); (repeat ((refine VrN.keep ?_); (conv => whnf)))); rfl
  · ((conv => whnf); (repeat ((refine VrN.keep ?_); (conv => whnf)))); rw [if_neg (by simp [hv])]; rfl

theorem weekday_c (n : Int) (hn : -100000000 ≤ n ∧ n ≤ 100000000) : ∀ H, SpecH Tryd.prog 34 (pvs [.int .i64 n]) H (Ret (.int .i64 ((n + 3) % 7)) H) := by
  refine pureC hm Tryd.func34 (by kernel_rfl) rfl rfl ?_
  ((conv => whnf); (repeat ((refine VrN.keep ?_); (conv => whnf)))); refine call1 (down_c _ 7 (by omega) (by omega) (by simp (disch := omega) only [wrap_i64]; omega) _) ?_
  ((conv => whnf); (repeat ((refine VrN.keep ?_); (conv => whnf))))
  refine out_int ?_
  simp (disch := omega) only [wrap_i64]; omega

theorem Weekday_c (y m d h i s : Int) : ∀ H, SpecH Tryd.prog 15 (pvs [dt y m d h i s]) H (Ret (if Cal.validB y m d h i s then ie ((Cal.dn y m d + 3) % 7) 0 else ie 0 1) H) := by
  refine pureC hm Tryd.func15 (by kernel_rfl) rfl rfl ?_
  ((conv => whnf); (repeat ((refine VrN.keep ?_); (conv => whnf)))); refine call1 (valid_c y m d h i s _) ?_
  ((conv => whnf); (repeat ((refine VrN.keep ?_); (conv => whnf))))
  refine brd_not (brd_intro (fun hv => ?_) (fun hv => ?_))
  · have hv' := of_decide_eq_true hv
    unfold Cal.validP at hv'
    have hmd := Cal.mlen_pos y m
    have hb := Cal.dn_bd y m d (by omega) (by omega)
    ((conv => whnf); (repeat ((refine VrN.keep ?_); (conv => whnf)))); refine call1 (days_c y m d (by omega) (by omega) (by omega) (by omega) _) ?_
    ((conv => whnf); (repeat ((refine VrN.keep ?_); (conv => whnf)))); refine call1 (weekday_c _ (by omega) _) ?_
    ((conv => whnf); (repeat ((refine VrN.keep ?_); (conv => whnf)))); rw [if_pos hv]; rfl
  · ((conv => whnf); (repeat ((refine VrN.keep ?_); (conv => whnf)))); rw [if_neg (by simp [hv])]; rfl

theorem YearDay_c (y m d h i s : Int) : ∀ H, SpecH Tryd.prog 17 (pvs [dt y m d h i s]) H (Ret (if Cal.validB y m d h i s then ie (Cal.dn y m d - Cal.dn y 1 1 + 1) 0 else ie 0 1) H) := by
  refine pureC hm Tryd.func17 (by kernel_rfl) rfl rfl ?_
  ((conv => whnf); (repeat ((refine VrN.keep ?_); (conv => whnf)))); refine call1 (valid_c y m d h i s _) ?_
  ((conv => whnf); (repeat ((refine VrN.keep ?_); (conv => whnf))))
  refine brd_not (brd_intro (fun hv => ?_) (fun hv => ?_))
  · have hv' := of_decide_eq_true hv
    unfold Cal.validP at hv'
    have hmd := Cal.mlen_pos y m
    have hb := Cal.dn_bd y m d (by omega) (by omega)
    have hb2 := Cal.dn_bd y 1 1 (by omega) (by omega)
    (conv => whnf); refine DrawN.quiet (by decide +kernel) ?_
    ((conv => whnf); (repeat ((refine VrN.keep ?_); (conv => whnf)))); refine callQ (days_c y m d (by omega) (by omega) (by omega) (by omega) _) ?_
    ((conv => whnf); (repeat ((refine VrN.keep ?_); (conv => whnf)))); refine callQ (days_c y 1 1 (by omega) (by omega) (by omega) (by omega) _) ?_
    ((conv => whnf); (repeat ((refine VrN.keep ?_); (conv => whnf)))); rw [if_pos hv]
    simp (disch := omega) only [wrap_i64]; rfl
  · ((conv => whnf); (repeat ((refine VrN.keep ?_); (conv => whnf)))); rw [if_neg (by simp [hv])]; rfl
end Go.Proofs.YtnecdpkmmncfaaaDoor
