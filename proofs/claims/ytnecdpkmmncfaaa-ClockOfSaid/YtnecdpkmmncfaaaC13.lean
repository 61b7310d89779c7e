/-
  Contract of the law ClockOf: it returns true, of every three numbers.
-/
import Derived.Test.YtnecdpkmmncfaaaC12
namespace Go.Proofs.Ytnecdpkmmncfaaa
open Go.AX
set_option maxRecDepth 20000

theorem ofMoment (n : Int) : ∃ y m d k i s e, (if -100000000000 ≤ n ∧ n ≤ 100000000000 then Value.tuple #[dtOf n, .int .i64 0] else .tuple #[dt 0 0 0 0 0 0, .int .i64 5]) = .tuple #[dt y m d k i s, .int .i64 e] ∧
    (e = 0 → (if Cal.validB y m d k i s then ansM (Cal.secs y m d k i s) else ie 0 1) = ie n 0) := by
  by_cases h : -100000000000 ≤ n ∧ n ≤ 100000000000
  · refine ⟨_, _, _, _, _, _, _, if_pos h, fun _ => ?_⟩
    have hc := Cal.civ (n / 86400)
    have hmd := Cal.mlen_pos (Cal.cy (n / 86400)) (Cal.cm (n / 86400))
    have hy : -2000 ≤ Cal.cy (n / 86400) ∧ Cal.cy (n / 86400) ≤ 6000 := by
      have hD := Cal.dn_year (Cal.cy (n / 86400)) (Cal.cm (n / 86400)) (Cal.cd (n / 86400)) (by omega) (by omega) (by omega) (by omega)
      constructor
      · apply Classical.byContradiction; intro hlt
        have := Cal.D_mono (Cal.cy (n / 86400) + 1) (-2000) (by omega)
        rw [show Cal.D (-2000) = -1450013 by decide] at this
        omega
      · apply Classical.byContradiction; intro hlt
        have := Cal.D_mono 6001 (Cal.cy (n / 86400)) (by omega)
        rw [show Cal.D 6001 = 1472293 by decide] at this
        omega
    rw [validB_civ _ _ _ _ (by omega) (by omega) (by omega), if_pos (by simpa using hy)]
    have e : Cal.secs (Cal.cy (n / 86400)) (Cal.cm (n / 86400)) (Cal.cd (n / 86400)) (n % 86400 / 3600) (n % 86400 / 60 % 60) (n % 86400 % 60) = n := by
      unfold Cal.secs; omega
    rw [e, ansM, if_pos h]
  · exact ⟨_, _, _, _, _, _, _, if_neg h, fun he => by omega⟩

theorem leapV (y : Int) : ∃ b e, (if -2000 ≤ y ∧ y ≤ 6000 then Value.tuple #[.bool (Cal.leapB y), .int .i64 0] else .tuple #[.bool false, .int .i64 1]) = .tuple #[.bool b, .int .i64 e] := by
  split <;> exact ⟨_, _, rfl⟩
theorem daysV (y m : Int) : ∃ n e, (if (-2000 ≤ y ∧ y ≤ 6000) ∧ 1 ≤ m ∧ m ≤ 12 then ie (Cal.mlen y m) 0 else ie 0 1) = ie n e := by
  split <;> exact ⟨_, _, rfl⟩

theorem ClockOf_c (n y m : Int) : ∀ H, SpecH Try.prog 4 (pvs [.int .i64 n, .int .i64 y, .int .i64 m]) H (Ret (.bool true) H) := by
  refine pureC hm Try.func4 (by kernel_rfl) rfl rfl ?_
  ((conv => whnf); (repeat ((first | refine VrN.norm (wrap_i64 (by omega)) ?_ | refine VrN.keep ?_ | refine Nd.mk (by kernel_rfl) ?_ | refine Nd.mk (by omega) ?_ | refine RdN.intro _ rfl (by kernel_rfl) ?_); (conv => whnf))))
  refine loopS Nat (fun j => j ≤ 3) (fun j => mkS Try.f4.ntmps 0 [(0, .c (.v (.int .i64 n))), (1, .c (.v (.int .i64 y))), (2, .c (.v (.int .i64 m))), (6, .c (.v (.bool false))), (7, .c (.sl 0 3)), (8, .c (.v (.int .i64 (j : Int))))]) (fun j => 3 - j) rfl (fun _ => rfl) 0 (by omega) ?_ ?_
  · ((repeat' (first | exact trivial | refine And.intro (by with_reducible rfl) ?_ | (with_reducible exact wkC_refl _) | (with_reducible exact wkCs_refl _) | refine And.intro ?_ ?_)) <;> exact av_int (by first | rfl | omega | (simp (disch := omega) only [wrap_i64]; first | rfl | omega)))
  intro j hj
  rcases (by omega : j = 3 ∨ j = 0 ∨ j = 1 ∨ j = 2) with rfl | rfl | rfl | rfl
  rotate_left
  any_goals
    (((conv => whnf); (repeat ((first | refine VrN.norm (wrap_i64 (by omega)) ?_ | refine VrN.keep ?_ | refine Nd.mk (by kernel_rfl) ?_ | refine Nd.mk (by omega) ?_ | refine RdN.intro _ rfl (by kernel_rfl) ?_); (conv => whnf)))); first | refine call1 (Of_c _ _) ?_ | refine callQ (Of_c _ _) ?_)
    obtain ⟨Y, M, D, k, i, s, e, hE, hR⟩ := ofMoment _
    rw [hE]
    (((conv => whnf); (repeat ((first | refine VrN.norm (wrap_i64 (by omega)) ?_ | refine VrN.keep ?_ | refine Nd.mk (by kernel_rfl) ?_ | refine Nd.mk (by omega) ?_ | refine RdN.intro _ rfl (by kernel_rfl) ?_); (conv => whnf)))); first | refine call1 (rOf_c _ _) ?_ | refine callQ (rOf_c _ _) ?_)
    rw [hE]
    (((conv => whnf); (repeat ((first | refine VrN.norm (wrap_i64 (by omega)) ?_ | refine VrN.keep ?_ | refine Nd.mk (by kernel_rfl) ?_ | refine Nd.mk (by omega) ?_ | refine RdN.intro _ rfl (by kernel_rfl) ?_); (conv => whnf)))); first | refine call1 (as_c _ _ _ _ _ _ _) ?_ | refine callQ (as_c _ _ _ _ _ _ _) ?_)
    (((conv => whnf); (repeat ((first | refine VrN.norm (wrap_i64 (by omega)) ?_ | refine VrN.keep ?_ | refine Nd.mk (by kernel_rfl) ?_ | refine Nd.mk (by omega) ?_ | refine RdN.intro _ rfl (by kernel_rfl) ?_); (conv => whnf)))); refine brd_false (by simp) ?_)
    (((conv => whnf); (repeat ((first | refine VrN.norm (wrap_i64 (by omega)) ?_ | refine VrN.keep ?_ | refine Nd.mk (by kernel_rfl) ?_ | refine Nd.mk (by omega) ?_ | refine RdN.intro _ rfl (by kernel_rfl) ?_); (conv => whnf)))); refine brd_false (by simp) ?_)
    ((conv => whnf); (repeat ((first | refine VrN.norm (wrap_i64 (by omega)) ?_ | refine VrN.keep ?_ | refine Nd.mk (by kernel_rfl) ?_ | refine Nd.mk (by omega) ?_ | refine RdN.intro _ rfl (by kernel_rfl) ?_); (conv => whnf))))
    refine brd_eq (fun he => ?_) (fun he => ?_)
    · (((conv => whnf); (repeat ((first | refine VrN.norm (wrap_i64 (by omega)) ?_ | refine VrN.keep ?_ | refine Nd.mk (by kernel_rfl) ?_ | refine Nd.mk (by omega) ?_ | refine RdN.intro _ rfl (by kernel_rfl) ?_); (conv => whnf)))); first | refine call1 (Moment_c _ _ _ _ _ _ _) ?_ | refine callQ (Moment_c _ _ _ _ _ _ _) ?_)
      rw [hR he]
      (((conv => whnf); (repeat ((first | refine VrN.norm (wrap_i64 (by omega)) ?_ | refine VrN.keep ?_ | refine Nd.mk (by kernel_rfl) ?_ | refine Nd.mk (by omega) ?_ | refine RdN.intro _ rfl (by kernel_rfl) ?_); (conv => whnf)))); refine brd_false (by simp) ?_)
      ((conv => whnf); (repeat ((first | refine VrN.norm (wrap_i64 (by omega)) ?_ | refine VrN.keep ?_ | refine Nd.mk (by kernel_rfl) ?_ | refine Nd.mk (by omega) ?_ | refine RdN.intro _ rfl (by kernel_rfl) ?_); (conv => whnf))))
      first
        | exact ⟨1, by omega, by omega, by ((repeat' (first | exact trivial | refine And.intro (by with_reducible rfl) ?_ | (with_reducible exact wkC_refl _) | (with_reducible exact wkCs_refl _) | refine And.intro ?_ ?_)) <;> exact av_int (by first | rfl | omega | (simp (disch := omega) only [wrap_i64]; first | rfl | omega))), by (repeat' (first | exact trivial | exact wkE_refl _ | refine And.intro ?_ ?_))⟩
        | exact ⟨2, by omega, by omega, by ((repeat' (first | exact trivial | refine And.intro (by with_reducible rfl) ?_ | (with_reducible exact wkC_refl _) | (with_reducible exact wkCs_refl _) | refine And.intro ?_ ?_)) <;> exact av_int (by first | rfl | omega | (simp (disch := omega) only [wrap_i64]; first | rfl | omega))), by (repeat' (first | exact trivial | exact wkE_refl _ | refine And.intro ?_ ?_))⟩
        | exact ⟨3, by omega, by omega, by ((repeat' (first | exact trivial | refine And.intro (by with_reducible rfl) ?_ | (with_reducible exact wkC_refl _) | (with_reducible exact wkCs_refl _) | refine And.intro ?_ ?_)) <;> exact av_int (by first | rfl | omega | (simp (disch := omega) only [wrap_i64]; first | rfl | omega))), by (repeat' (first | exact trivial | exact wkE_refl _ | refine And.intro ?_ ?_))⟩
    · ((conv => whnf); (repeat ((first | refine VrN.norm (wrap_i64 (by omega)) ?_ | refine VrN.keep ?_ | refine Nd.mk (by kernel_rfl) ?_ | refine Nd.mk (by omega) ?_ | refine RdN.intro _ rfl (by kernel_rfl) ?_); (conv => whnf))))
      first
        | exact ⟨1, by omega, by omega, by ((repeat' (first | exact trivial | refine And.intro (by with_reducible rfl) ?_ | (with_reducible exact wkC_refl _) | (with_reducible exact wkCs_refl _) | refine And.intro ?_ ?_)) <;> exact av_int (by first | rfl | omega | (simp (disch := omega) only [wrap_i64]; first | rfl | omega))), by (repeat' (first | exact trivial | exact wkE_refl _ | refine And.intro ?_ ?_))⟩
        | exact ⟨2, by omega, by omega, by ((repeat' (first | exact trivial | refine And.intro (by with_reducible rfl) ?_ | (with_reducible exact wkC_refl _) | (with_reducible exact wkCs_refl _) | refine And.intro ?_ ?_)) <;> exact av_int (by first | rfl | omega | (simp (disch := omega) only [wrap_i64]; first | rfl | omega))), by (repeat' (first | exact trivial | exact wkE_refl _ | refine And.intro ?_ ?_))⟩
        | exact ⟨3, by omega, by omega, by ((repeat' (first | exact trivial | refine And.intro (by with_reducible rfl) ?_ | (with_reducible exact wkC_refl _) | (with_reducible exact wkCs_refl _) | refine And.intro ?_ ?_)) <;> exact av_int (by first | rfl | omega | (simp (disch := omega) only [wrap_i64]; first | rfl | omega))), by (repeat' (first | exact trivial | exact wkE_refl _ | refine And.intro ?_ ?_))⟩
  ((conv => whnf); (repeat ((first | refine VrN.norm (wrap_i64 (by omega)) ?_ | refine VrN.keep ?_ | refine Nd.mk (by kernel_rfl) ?_ | refine Nd.mk (by omega) ?_ | refine RdN.intro _ rfl (by kernel_rfl) ?_); (conv => whnf))))
  refine .unroll 3 ?_
  iterate 2
    ((conv => whnf); (repeat ((first | refine VrN.norm (wrap_i64 (by omega)) ?_ | refine VrN.keep ?_ | refine Nd.mk (by kernel_rfl) ?_ | refine Nd.mk (by omega) ?_ | refine RdN.intro _ rfl (by kernel_rfl) ?_); (conv => whnf)))); refine call1 (Leap_c _ _) ?_
    obtain ⟨b, e, hL⟩ := leapV _
    rw [hL]
    (((conv => whnf); (repeat ((first | refine VrN.norm (wrap_i64 (by omega)) ?_ | refine VrN.keep ?_ | refine Nd.mk (by kernel_rfl) ?_ | refine Nd.mk (by omega) ?_ | refine RdN.intro _ rfl (by kernel_rfl) ?_); (conv => whnf)))); first | refine call1 (rLeap_c _ _) ?_ | refine callQ (rLeap_c _ _) ?_)
    rw [hL]
    (((conv => whnf); (repeat ((first | refine VrN.norm (wrap_i64 (by omega)) ?_ | refine VrN.keep ?_ | refine Nd.mk (by kernel_rfl) ?_ | refine Nd.mk (by omega) ?_ | refine RdN.intro _ rfl (by kernel_rfl) ?_); (conv => whnf)))); first | refine call1 (Days_c _ _ _) ?_ | refine callQ (Days_c _ _ _) ?_)
    obtain ⟨u, f, hD⟩ := daysV _ _
    rw [hD]
    (((conv => whnf); (repeat ((first | refine VrN.norm (wrap_i64 (by omega)) ?_ | refine VrN.keep ?_ | refine Nd.mk (by kernel_rfl) ?_ | refine Nd.mk (by omega) ?_ | refine RdN.intro _ rfl (by kernel_rfl) ?_); (conv => whnf)))); first | refine call1 (rDays_c _ _ _) ?_ | refine callQ (rDays_c _ _ _) ?_)
    rw [hD]
    (((conv => whnf); (repeat ((first | refine VrN.norm (wrap_i64 (by omega)) ?_ | refine VrN.keep ?_ | refine Nd.mk (by kernel_rfl) ?_ | refine Nd.mk (by omega) ?_ | refine RdN.intro _ rfl (by kernel_rfl) ?_); (conv => whnf)))); first | refine call1 (Days_c _ _ _) ?_ | refine callQ (Days_c _ _ _) ?_)
    obtain ⟨v, g, hG⟩ := daysV _ _
    rw [hG]
    (((conv => whnf); (repeat ((first | refine VrN.norm (wrap_i64 (by omega)) ?_ | refine VrN.keep ?_ | refine Nd.mk (by kernel_rfl) ?_ | refine Nd.mk (by omega) ?_ | refine RdN.intro _ rfl (by kernel_rfl) ?_); (conv => whnf)))); first | refine call1 (rDays_c _ _ _) ?_ | refine callQ (rDays_c _ _ _) ?_)
    rw [hG]
    (((conv => whnf); (repeat ((first | refine VrN.norm (wrap_i64 (by omega)) ?_ | refine VrN.keep ?_ | refine Nd.mk (by kernel_rfl) ?_ | refine Nd.mk (by omega) ?_ | refine RdN.intro _ rfl (by kernel_rfl) ?_); (conv => whnf)))); refine brd_false (by simp) ?_)
    (((conv => whnf); (repeat ((first | refine VrN.norm (wrap_i64 (by omega)) ?_ | refine VrN.keep ?_ | refine Nd.mk (by kernel_rfl) ?_ | refine Nd.mk (by omega) ?_ | refine RdN.intro _ rfl (by kernel_rfl) ?_); (conv => whnf)))); refine brd_false (by simp) ?_)
    (((conv => whnf); (repeat ((first | refine VrN.norm (wrap_i64 (by omega)) ?_ | refine VrN.keep ?_ | refine Nd.mk (by kernel_rfl) ?_ | refine Nd.mk (by omega) ?_ | refine RdN.intro _ rfl (by kernel_rfl) ?_); (conv => whnf)))); refine brd_false (by simp) ?_)
    (((conv => whnf); (repeat ((first | refine VrN.norm (wrap_i64 (by omega)) ?_ | refine VrN.keep ?_ | refine Nd.mk (by kernel_rfl) ?_ | refine Nd.mk (by omega) ?_ | refine RdN.intro _ rfl (by kernel_rfl) ?_); (conv => whnf)))); refine brd_false (by simp) ?_)
    (((conv => whnf); (repeat ((first | refine VrN.norm (wrap_i64 (by omega)) ?_ | refine VrN.keep ?_ | refine Nd.mk (by kernel_rfl) ?_ | refine Nd.mk (by omega) ?_ | refine RdN.intro _ rfl (by kernel_rfl) ?_); (conv => whnf)))); refine brd_false (by simp) ?_)
    (((conv => whnf); (repeat ((first | refine VrN.norm (wrap_i64 (by omega)) ?_ | refine VrN.keep ?_ | refine Nd.mk (by kernel_rfl) ?_ | refine Nd.mk (by omega) ?_ | refine RdN.intro _ rfl (by kernel_rfl) ?_); (conv => whnf)))); refine brd_false (by simp) ?_)
  (((conv => whnf); (repeat ((first | refine VrN.norm (wrap_i64 (by omega)) ?_ | refine VrN.keep ?_ | refine Nd.mk (by kernel_rfl) ?_ | refine Nd.mk (by omega) ?_ | refine RdN.intro _ rfl (by kernel_rfl) ?_); (conv => whnf)))); first | refine call1 (sane_c _) ?_ | refine callQ (sane_c _) ?_)
  ((conv => whnf); (repeat ((first | refine VrN.norm (wrap_i64 (by omega)) ?_ | refine VrN.keep ?_ | refine Nd.mk (by kernel_rfl) ?_ | refine Nd.mk (by omega) ?_ | refine RdN.intro _ rfl (by kernel_rfl) ?_); (conv => whnf))))
end Go.Proofs.Ytnecdpkmmncfaaa
