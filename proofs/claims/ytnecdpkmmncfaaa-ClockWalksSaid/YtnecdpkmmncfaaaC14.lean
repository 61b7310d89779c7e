/-
  Contract of the law ClockWalks: it returns true, of every number.
-/
import Derived.Test.YtnecdpkmmncfaaaC12
namespace Go.Proofs.Ytnecdpkmmncfaaa
open Go.AX
set_option maxRecDepth 20000

theorem next_day (y m d : Int) (h1 : 1 ≤ m) (h2 : m ≤ 12) (h3 : 1 ≤ d) (h4 : d ≤ Cal.mlen y m) :
    ∃ Y M E, Cal.cy (Cal.dn y m d + 1) = Y ∧ Cal.cm (Cal.dn y m d + 1) = M ∧ Cal.cd (Cal.dn y m d + 1) = E ∧ Cal.dn Y M E = Cal.dn y m d + 1 ∧ 1 ≤ M ∧ M ≤ 12 ∧ 1 ≤ E ∧ E ≤ Cal.mlen Y M ∧
      ((m = 12 ∧ d = 31 ∧ Y = y + 1 ∧ M = 1 ∧ E = 1) ∨ (¬ (m = 12 ∧ d = 31) ∧ Y = y)) := by
  have key : ∃ Y M E, Cal.dn Y M E = Cal.dn y m d + 1 ∧ 1 ≤ M ∧ M ≤ 12 ∧ 1 ≤ E ∧ E ≤ Cal.mlen Y M ∧ ((m = 12 ∧ d = 31 ∧ Y = y + 1 ∧ M = 1 ∧ E = 1) ∨ (¬ (m = 12 ∧ d = 31) ∧ Y = y)) := by
    have h12 : Cal.mlen y 12 = 31 := by simp [Cal.mlen]
    by_cases hd : d < Cal.mlen y m
    · refine ⟨y, m, d + 1, by unfold Cal.dn; omega, h1, h2, by omega, by omega, .inr ⟨fun ⟨a, b⟩ => ?_, rfl⟩⟩
      rw [a, h12] at hd; omega
    · by_cases hm : m < 12
      · have := Cal.cum_succ y m h1 h2
        have := Cal.mlen_pos y (m + 1)
        exact ⟨y, m + 1, 1, by unfold Cal.dn; omega, by omega, by omega, by omega, by omega, .inr ⟨by omega, rfl⟩⟩
      · have hm' : m = 12 := by omega
        subst hm'
        have a := Cal.cum_succ y 12 h1 h2
        have b := Cal.cum_13 y
        have c := Cal.D_succ y
        have e := Cal.mlen_pos (y + 1) 1
        have f : Cal.cum (y + 1) 1 = 0 := rfl
        have g : Cal.cum y (12 + 1) = Cal.cum y 13 := rfl
        exact ⟨y + 1, 1, 1, by unfold Cal.dn; omega, by omega, by omega, by omega, by omega, .inl ⟨rfl, by omega, rfl, rfl, rfl⟩⟩
  obtain ⟨Y, M, E, e1, a, b, c, e, f⟩ := key
  have hu := Cal.civ_uniq Y M E _ a b c e e1
  exact ⟨Y, M, E, hu.1, hu.2.1, hu.2.2, e1, a, b, c, e, f⟩

theorem ClockWalks_c (n : Int) : ∀ H, SpecH Try.prog 5 (pvs [.int .i64 n]) H (Ret (.bool true) H) := by
  refine pureC hm Try.func5 (by kernel_rfl) rfl rfl ?_
  ((conv => whnf); (repeat ((first | refine VrN.norm (wrap_i64 (by omega)) ?_ | refine VrN.keep ?_ | refine Nd.mk (by kernel_rfl) ?_ | refine Nd.mk (by omega) ?_ | refine RdN.intro _ rfl (by kernel_rfl) ?_); (conv => whnf)))); refine callR (rMade_c n _) fun x hx => ?_
  obtain ⟨y, m, d, k, i, s, rfl, hv⟩ := hx
  (((conv => whnf); (repeat ((first | refine VrN.norm (wrap_i64 (by omega)) ?_ | refine VrN.keep ?_ | refine Nd.mk (by kernel_rfl) ?_ | refine Nd.mk (by omega) ?_ | refine RdN.intro _ rfl (by kernel_rfl) ?_); (conv => whnf)))); first | refine call1 (back_c _ _ _ _ _ _ _) ?_ | refine callQ (back_c _ _ _ _ _ _ _) ?_)
  (((conv => whnf); (repeat ((first | refine VrN.norm (wrap_i64 (by omega)) ?_ | refine VrN.keep ?_ | refine Nd.mk (by kernel_rfl) ?_ | refine Nd.mk (by omega) ?_ | refine RdN.intro _ rfl (by kernel_rfl) ?_); (conv => whnf)))); first | refine call1 (AddDays_c _ _ _ _ _ _ _ _) ?_ | refine callQ (AddDays_c _ _ _ _ _ _ _ _) ?_)
  rw [if_pos ⟨hv, by omega⟩]
  have hv' := of_decide_eq_true hv
  unfold Cal.validP at hv'
  obtain ⟨Y, M, E, e1, e2, e3, e4, hM1, hM2, hE1, hE2, hcase⟩ := next_day y m d (by omega) (by omega) (by omega) (by omega)
  rw [e1, e2, e3]
  by_cases hy : -2000 ≤ Y ∧ Y ≤ 6000
  · rw [if_pos hy]
    have hV : Cal.validB Y M E k i s = true := by rw [Cal.validB, decide_eq_true_eq, Cal.validP]; omega
    (((conv => whnf); (repeat ((first | refine VrN.norm (wrap_i64 (by omega)) ?_ | refine VrN.keep ?_ | refine Nd.mk (by kernel_rfl) ?_ | refine Nd.mk (by omega) ?_ | refine RdN.intro _ rfl (by kernel_rfl) ?_); (conv => whnf)))); first | refine call1 (Weekday_c _ _ _ _ _ _ _) ?_ | refine callQ (Weekday_c _ _ _ _ _ _ _) ?_)
    rw [if_pos hv]
    (((conv => whnf); (repeat ((first | refine VrN.norm (wrap_i64 (by omega)) ?_ | refine VrN.keep ?_ | refine Nd.mk (by kernel_rfl) ?_ | refine Nd.mk (by omega) ?_ | refine RdN.intro _ rfl (by kernel_rfl) ?_); (conv => whnf)))); first | refine call1 (Weekday_c _ _ _ _ _ _ _) ?_ | refine callQ (Weekday_c _ _ _ _ _ _ _) ?_)
    rw [if_pos hV]
    (((conv => whnf); (repeat ((first | refine VrN.norm (wrap_i64 (by omega)) ?_ | refine VrN.keep ?_ | refine Nd.mk (by kernel_rfl) ?_ | refine Nd.mk (by omega) ?_ | refine RdN.intro _ rfl (by kernel_rfl) ?_); (conv => whnf)))); first | refine call1 (YearDay_c _ _ _ _ _ _ _) ?_ | refine callQ (YearDay_c _ _ _ _ _ _ _) ?_)
    rw [if_pos hv]
    (((conv => whnf); (repeat ((first | refine VrN.norm (wrap_i64 (by omega)) ?_ | refine VrN.keep ?_ | refine Nd.mk (by kernel_rfl) ?_ | refine Nd.mk (by omega) ?_ | refine RdN.intro _ rfl (by kernel_rfl) ?_); (conv => whnf)))); first | refine call1 (YearDay_c _ _ _ _ _ _ _) ?_ | refine callQ (YearDay_c _ _ _ _ _ _ _) ?_)
    rw [if_pos hV]
    rw [e4]
    have hD1 := Cal.dn_year y m d (by omega) (by omega) (by omega) (by omega)
    have hD2 := Cal.dn_bd y m d (by omega) (by have := Cal.mlen_pos y m; omega)
    ((conv => whnf); (repeat ((first | refine VrN.norm (wrap_i64 (by omega)) ?_ | refine VrN.keep ?_ | refine Nd.mk (by kernel_rfl) ?_ | refine Nd.mk (by omega) ?_ | refine RdN.intro _ rfl (by kernel_rfl) ?_); (conv => whnf))))
    refine brd_ne (fun h => ?_) (fun h => ?_)
    · exfalso
      simp (disch := omega) only [wrap_i64, Int.tmod_eq_emod_of_nonneg] at h
      omega
    obtain ⟨rfl, rfl, rfl, rfl, rfl⟩ | ⟨hne, rfl⟩ := hcase
    · have c1 := Cal.D_succ y
      have c2 := Cal.cum_13 y
      have c3 := Cal.cum_succ y 12 (by omega) (by omega)
      have c4 : Cal.cum y (12 + 1) = Cal.cum y 13 := rfl
      have c5 : Cal.mlen y 12 = 31 := by simp [Cal.mlen]
      have c6 : Cal.cum y 1 = 0 := rfl
      have e5 : Cal.dn y 12 31 + 1 - Cal.dn (y + 1) 1 1 + 1 = 1 := by rw [← e4]; omega
      have e6 : Cal.dn y 12 31 - Cal.dn y 1 1 + 1 = 365 ∨ Cal.dn y 12 31 - Cal.dn y 1 1 + 1 = 366 := by unfold Cal.dn; omega
      rw [e5]
      rcases e6 with e6 | e6 <;> rw [e6]
      all_goals
        ((conv => whnf); (repeat ((first | refine VrN.norm (wrap_i64 (by omega)) ?_ | refine VrN.keep ?_ | refine Nd.mk (by kernel_rfl) ?_ | refine Nd.mk (by omega) ?_ | refine RdN.intro _ rfl (by kernel_rfl) ?_); (conv => whnf))))
        refine brd_eq (fun h => ?_) (fun h => ?_)
        · (((conv => whnf); (repeat ((first | refine VrN.norm (wrap_i64 (by omega)) ?_ | refine VrN.keep ?_ | refine Nd.mk (by kernel_rfl) ?_ | refine Nd.mk (by omega) ?_ | refine RdN.intro _ rfl (by kernel_rfl) ?_); (conv => whnf)))); first | refine call1 (sane_c _) ?_ | refine callQ (sane_c _) ?_)
          ((conv => whnf); (repeat ((first | refine VrN.norm (wrap_i64 (by omega)) ?_ | refine VrN.keep ?_ | refine Nd.mk (by kernel_rfl) ?_ | refine Nd.mk (by omega) ?_ | refine RdN.intro _ rfl (by kernel_rfl) ?_); (conv => whnf))))
        · exfalso; rw [wrap_i64 (by omega)] at h; omega
    · have hb := Cal.dn_bd Y 1 1 (by omega) (by omega)
      ((conv => whnf); (repeat ((first | refine VrN.norm (wrap_i64 (by omega)) ?_ | refine VrN.keep ?_ | refine Nd.mk (by kernel_rfl) ?_ | refine Nd.mk (by omega) ?_ | refine RdN.intro _ rfl (by kernel_rfl) ?_); (conv => whnf))))
      refine brd_eq (fun hm12 => ?_) (fun hm12 => ?_)
      · ((conv => whnf); (repeat ((first | refine VrN.norm (wrap_i64 (by omega)) ?_ | refine VrN.keep ?_ | refine Nd.mk (by kernel_rfl) ?_ | refine Nd.mk (by omega) ?_ | refine RdN.intro _ rfl (by kernel_rfl) ?_); (conv => whnf))))
        refine brd_eq (fun hd => ?_) (fun hd => ?_)
        · exact absurd ⟨hm12, hd⟩ hne
        · ((conv => whnf); (repeat ((first | refine VrN.norm (wrap_i64 (by omega)) ?_ | refine VrN.keep ?_ | refine Nd.mk (by kernel_rfl) ?_ | refine Nd.mk (by omega) ?_ | refine RdN.intro _ rfl (by kernel_rfl) ?_); (conv => whnf))))
          refine brd_eq (fun hq => ?_) (fun hq => ?_)
          · ((conv => whnf); (repeat ((first | refine VrN.norm (wrap_i64 (by omega)) ?_ | refine VrN.keep ?_ | refine Nd.mk (by kernel_rfl) ?_ | refine Nd.mk (by omega) ?_ | refine RdN.intro _ rfl (by kernel_rfl) ?_); (conv => whnf)))); refine brd_eq (fun _ => ?_) (fun hz => absurd rfl hz)
            (((conv => whnf); (repeat ((first | refine VrN.norm (wrap_i64 (by omega)) ?_ | refine VrN.keep ?_ | refine Nd.mk (by kernel_rfl) ?_ | refine Nd.mk (by omega) ?_ | refine RdN.intro _ rfl (by kernel_rfl) ?_); (conv => whnf)))); first | refine call1 (sane_c _) ?_ | refine callQ (sane_c _) ?_)
            ((conv => whnf); (repeat ((first | refine VrN.norm (wrap_i64 (by omega)) ?_ | refine VrN.keep ?_ | refine Nd.mk (by kernel_rfl) ?_ | refine Nd.mk (by omega) ?_ | refine RdN.intro _ rfl (by kernel_rfl) ?_); (conv => whnf))))
          · exfalso; rw [wrap_i64 (by omega)] at hq; omega
      · ((conv => whnf); (repeat ((first | refine VrN.norm (wrap_i64 (by omega)) ?_ | refine VrN.keep ?_ | refine Nd.mk (by kernel_rfl) ?_ | refine Nd.mk (by omega) ?_ | refine RdN.intro _ rfl (by kernel_rfl) ?_); (conv => whnf))))
        refine brd_eq (fun hq => ?_) (fun hq => ?_)
        · ((conv => whnf); (repeat ((first | refine VrN.norm (wrap_i64 (by omega)) ?_ | refine VrN.keep ?_ | refine Nd.mk (by kernel_rfl) ?_ | refine Nd.mk (by omega) ?_ | refine RdN.intro _ rfl (by kernel_rfl) ?_); (conv => whnf)))); refine brd_eq (fun _ => ?_) (fun hz => absurd rfl hz)
          (((conv => whnf); (repeat ((first | refine VrN.norm (wrap_i64 (by omega)) ?_ | refine VrN.keep ?_ | refine Nd.mk (by kernel_rfl) ?_ | refine Nd.mk (by omega) ?_ | refine RdN.intro _ rfl (by kernel_rfl) ?_); (conv => whnf)))); first | refine call1 (sane_c _) ?_ | refine callQ (sane_c _) ?_)
          ((conv => whnf); (repeat ((first | refine VrN.norm (wrap_i64 (by omega)) ?_ | refine VrN.keep ?_ | refine Nd.mk (by kernel_rfl) ?_ | refine Nd.mk (by omega) ?_ | refine RdN.intro _ rfl (by kernel_rfl) ?_); (conv => whnf))))
        · exfalso; rw [wrap_i64 (by omega)] at hq; omega
  · rw [if_neg hy]
    obtain ⟨rfl, rfl, rfl, _, _⟩ | ⟨_, rfl⟩ := hcase
    · have : y = 6000 := by omega
      subst this
      (((conv => whnf); (repeat ((first | refine VrN.norm (wrap_i64 (by omega)) ?_ | refine VrN.keep ?_ | refine Nd.mk (by kernel_rfl) ?_ | refine Nd.mk (by omega) ?_ | refine RdN.intro _ rfl (by kernel_rfl) ?_); (conv => whnf)))); first | refine call1 (sane_c _) ?_ | refine callQ (sane_c _) ?_)
      ((conv => whnf); (repeat ((first | refine VrN.norm (wrap_i64 (by omega)) ?_ | refine VrN.keep ?_ | refine Nd.mk (by kernel_rfl) ?_ | refine Nd.mk (by omega) ?_ | refine RdN.intro _ rfl (by kernel_rfl) ?_); (conv => whnf))))
    · omega
end Go.Proofs.Ytnecdpkmmncfaaa
