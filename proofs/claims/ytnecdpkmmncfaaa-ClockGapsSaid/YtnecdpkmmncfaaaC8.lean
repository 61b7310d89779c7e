/-
  Contracts of the document's seconds, of, later, AddMonths and AddDays.
-/
import Derived.Test.YtnecdpkmmncfaaaC7
namespace Go.Proofs.Ytnecdpkmmncfaaa
open Go.AX
set_option maxRecDepth 20000

theorem rseconds_c (y m d k i s : Int) (hy : -100000 ≤ y ∧ y ≤ 100000) (h1 : 1 ≤ m) (h2 : m ≤ 12) (hd : 1 ≤ d ∧ d ≤ 31) (hh : 0 ≤ k ∧ k < 24) (hi : 0 ≤ i ∧ i < 60) (hs : 0 ≤ s ∧ s < 60) :
    ∀ H, SpecH Try.prog 62 (pvs [dt y m d k i s]) H (Ret (.int .i64 (Cal.secs y m d k i s)) H) := by
  refine pureC hm Try.func62 (by kernel_rfl) rfl rfl ?_
  (conv => whnf)
  refine DrawN.quiet (by decide +kernel) ?_
  ((conv => whnf); (repeat ((refine VrN.keep ?_); (conv => whnf))))
  refine callQ (rdays_c y m d k i s hy h1 h2 (by omega) _) ?_
  have := Cal.dn_bd y m d hy (by omega)
  ((conv => whnf); (repeat ((refine VrN.keep ?_); (conv => whnf))))
  refine out_int ?_
  unfold Cal.secs
  simp (disch := omega) only [wrap_i64]

theorem rof_c (n : Int) (hn : -1000000000000 ≤ n ∧ n ≤ 1000000000000) : ∀ H, SpecH Try.prog 37 (pvs [.int .i64 n]) H (Ret (dtOf n) H) := by
  refine pureC hm Try.func37 (by kernel_rfl) rfl rfl ?_
  (conv => whnf); refine call1 (rfloor_c n 86400 (by omega) (by omega) (by omega) _) ?_
  (conv => whnf); refine call1 (rdated_c _ (by omega) _) ?_
  (conv => whnf); refine call1 (rfloor_c n 86400 (by omega) (by omega) (by omega) _) ?_
  (conv => whnf); refine vr_name fun r hr => ?_
  simp (disch := omega) only [wrap_i64] at hr
  ((conv => whnf); (repeat ((refine VrN.keep ?_); (conv => whnf))))
  refine out_dt rfl rfl rfl ?_ ?_ ?_
  all_goals (simp (disch := omega) only [wrap_i64, Int.tdiv_eq_ediv_of_nonneg, Int.tmod_eq_emod_of_nonneg]; omega)

theorem rlater_c (y m d k i s n : Int) (hy : -100000 ≤ y ∧ y ≤ 100000) (hmo : 1 ≤ m ∧ m ≤ 12) (hn : -1000000 ≤ n ∧ n ≤ 1000000) :
    ∀ H, SpecH Try.prog 55 (pvs [dt y m d k i s, .int .i64 n]) H (Ret (dt (Cal.ly y m n) (Cal.lm y m n) (Cal.ld y m d n) k i s) H) := by
  refine pureC hm Try.func55 (by kernel_rfl) rfl rfl ?_
  (conv => whnf); refine vr_name fun all hall => ?_
  simp (disch := omega) only [wrap_i64] at hall
  have hall' : all = Cal.lall y m n := hall
  (conv => whnf); refine call1 (rfloor_c all 12 (by omega) (by omega) (by omega) _) ?_
  have e1 : all / 12 = Cal.ly y m n := by rw [hall']; rfl
  have e2 : IntKind.wrap .i64 (IntKind.wrap .i64 (all - IntKind.wrap .i64 (Cal.ly y m n * 12)) + 1) = Cal.lm y m n := by
    rw [← e1]
    simp (disch := omega) only [wrap_i64]
    rw [Cal.lm, ← hall']; omega
  have hlm := Cal.lm_bd y m n
  (conv => whnf)
  refine DrawN.plan [0, 2, 4] [(1, 1), (3, 1), (5, 1), (6, 0), (7, 1), (8, 1)] [(9, 0)] (by decide +kernel) ?_
  (conv => whnf)
  rw [e1, e2]
  refine call1 (rlong_c _ _ hlm.1 hlm.2 _) ?_
  ((conv => whnf); (repeat ((refine VrN.keep ?_); (conv => whnf)))); refine Nd.mk (by (repeat' (first | exact trivial | exact wkE_refl _ | refine And.intro ?_ ?_))) ?_
  ((conv => whnf); (repeat ((refine VrN.keep ?_); (conv => whnf))))
  rfl

theorem validB_later (y m d k i s n : Int) (hv : Cal.validB y m d k i s = true) : Cal.validB (Cal.ly y m n) (Cal.lm y m n) (Cal.ld y m d n) k i s = decide (-2000 ≤ Cal.ly y m n ∧ Cal.ly y m n ≤ 6000) := by
  have hv' := of_decide_eq_true hv
  unfold Cal.validP at hv'
  have h1 := Cal.lm_bd y m n
  have h2 := Cal.ld_bd y m d n (by omega)
  rw [Cal.validB, decide_eq_decide, Cal.validP]
  omega

theorem rAddMonths_c (y m d k i s n : Int) : ∀ H, SpecH Try.prog 32 (pvs [dt y m d k i s, .int .i64 n]) H
    (Ret (if Cal.validB y m d k i s ∧ -120000 ≤ n ∧ n ≤ 120000 then (if -2000 ≤ Cal.ly y m n ∧ Cal.ly y m n ≤ 6000 then de (dt (Cal.ly y m n) (Cal.lm y m n) (Cal.ld y m d n) k i s) 0 else de dt0 5) else de dt0 1) H) := by
  refine pureC hm Try.func32 (by kernel_rfl) rfl rfl ?_
  ((conv => whnf); (repeat ((refine VrN.keep ?_); (conv => whnf)))); refine call1 (rvalid_c y m d k i s _) ?_
  ((conv => whnf); (repeat ((refine VrN.keep ?_); (conv => whnf)))); refine brd_not (brd_intro (fun hv => ?_) (fun hv => ?_))
  · have hv' := of_decide_eq_true hv
    unfold Cal.validP at hv'
    ((conv => whnf); (repeat ((refine VrN.keep ?_); (conv => whnf)))); refine call1 (rin_c _ _ _ _) ?_
    ((conv => whnf); (repeat ((refine VrN.keep ?_); (conv => whnf)))); refine brd_not (brd_dec (fun hn => ?_) (fun hn => ?_))
    · ((conv => whnf); (repeat ((refine VrN.keep ?_); (conv => whnf)))); refine call1 (rlater_c y m d k i s n (by omega) (by omega) (by omega) _) ?_
      ((conv => whnf); (repeat ((refine VrN.keep ?_); (conv => whnf)))); refine call1 (rvalid_c _ _ _ _ _ _ _) ?_
      rw [validB_later y m d k i s n hv, if_pos ⟨hv, hn⟩]
      ((conv => whnf); (repeat ((refine VrN.keep ?_); (conv => whnf)))); refine brd_not (brd_dec (fun hy => ?_) (fun hy => ?_))
      · ((conv => whnf); (repeat ((refine VrN.keep ?_); (conv => whnf)))); rw [if_pos hy]; try rfl
      · ((conv => whnf); (repeat ((refine VrN.keep ?_); (conv => whnf)))); rw [if_neg hy]; try rfl
    · ((conv => whnf); (repeat ((refine VrN.keep ?_); (conv => whnf)))); rw [if_neg (by omega)]; try rfl
  · ((conv => whnf); (repeat ((refine VrN.keep ?_); (conv => whnf)))); rw [if_neg (by simp [hv])]; try rfl

theorem validB_civ (n k i s : Int) (hk : 0 ≤ k ∧ k < 24) (hi : 0 ≤ i ∧ i < 60) (hs : 0 ≤ s ∧ s < 60) : Cal.validB (Cal.cy n) (Cal.cm n) (Cal.cd n) k i s = decide (-2000 ≤ Cal.cy n ∧ Cal.cy n ≤ 6000) := by
  have h := Cal.civ n
  rw [Cal.validB, decide_eq_decide, Cal.validP]
  omega

theorem rAddDays_c (y m d k i s n : Int) : ∀ H, SpecH Try.prog 33 (pvs [dt y m d k i s, .int .i64 n]) H
    (Ret (if Cal.validB y m d k i s ∧ -10000000 ≤ n ∧ n ≤ 10000000 then (if -2000 ≤ Cal.cy (Cal.dn y m d + n) ∧ Cal.cy (Cal.dn y m d + n) ≤ 6000 then de (dt (Cal.cy (Cal.dn y m d + n)) (Cal.cm (Cal.dn y m d + n)) (Cal.cd (Cal.dn y m d + n)) k i s) 0 else de dt0 5) else de dt0 1) H) := by
  refine pureC hm Try.func33 (by kernel_rfl) rfl rfl ?_
  ((conv => whnf); (repeat ((refine VrN.keep ?_); (conv => whnf)))); refine call1 (rvalid_c y m d k i s _) ?_
  ((conv => whnf); (repeat ((refine VrN.keep ?_); (conv => whnf)))); refine brd_not (brd_intro (fun hv => ?_) (fun hv => ?_))
  · have hv' := of_decide_eq_true hv
    unfold Cal.validP at hv'
    have hmd := Cal.mlen_pos y m
    have hD := Cal.dn_year y m d (by omega) (by omega) (by omega) (by omega)
    have hD1 := Cal.D_mono (-2000) y (by omega)
    have hD2 := Cal.D_mono (y + 1) 6001 (by omega)
    rw [show Cal.D (-2000) = -1450013 by decide] at hD1
    rw [show Cal.D 6001 = 1472293 by decide] at hD2
    ((conv => whnf); (repeat ((refine VrN.keep ?_); (conv => whnf)))); refine call1 (rin_c _ _ _ _) ?_
    ((conv => whnf); (repeat ((refine VrN.keep ?_); (conv => whnf)))); refine brd_not (brd_dec (fun hn => ?_) (fun hn => ?_))
    · ((conv => whnf); (repeat ((refine VrN.keep ?_); (conv => whnf)))); refine call1 (rdays_c y m d k i s (by omega) (by omega) (by omega) (by omega) _) ?_
      (conv => whnf); refine call1 (rdated_c _ (by rw [wrap_i64 (by omega)]; omega) _) ?_
      rw [wrap_i64 (by omega)]
      ((conv => whnf); (repeat ((refine VrN.keep ?_); (conv => whnf)))); refine call1 (rvalid_c _ _ _ _ _ _ _) ?_
      rw [validB_civ _ _ _ _ (by omega) (by omega) (by omega), if_pos ⟨hv, hn⟩]
      ((conv => whnf); (repeat ((refine VrN.keep ?_); (conv => whnf)))); refine brd_not (brd_dec (fun hy => ?_) (fun hy => ?_))
      · ((conv => whnf); (repeat ((refine VrN.keep ?_); (conv => whnf)))); rw [if_pos hy]; try rfl
      · ((conv => whnf); (repeat ((refine VrN.keep ?_); (conv => whnf)))); rw [if_neg hy]; try rfl
    · ((conv => whnf); (repeat ((refine VrN.keep ?_); (conv => whnf)))); rw [if_neg (by omega)]; try rfl
  · ((conv => whnf); (repeat ((refine VrN.keep ?_); (conv => whnf)))); rw [if_neg (by simp [hv])]; try rfl
end Go.Proofs.Ytnecdpkmmncfaaa
