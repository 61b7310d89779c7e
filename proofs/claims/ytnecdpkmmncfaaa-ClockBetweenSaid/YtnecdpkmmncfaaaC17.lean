/-
  Contract of the law ClockBetween: it returns true, of every two dates and two numbers.
-/
import Derived.Test.YtnecdpkmmncfaaaC16
namespace Go.Proofs.Ytnecdpkmmncfaaa
open Go.AX
set_option maxRecDepth 20000

theorem between_c (y m d k i s y' m' d' k' i' s' : Int) : ∀ H, SpecH Try.prog 24 (pvs [dt y m d k i s, dt y' m' d' k' i' s']) H (Ret (.bool true) H) := by
  refine pureC hm Try.func24 (by kernel_rfl) rfl rfl ?_
  by_cases t : Cal.Two y m d k i s y' m' d' k' i' s'
  · (((conv => whnf); (repeat ((first | refine VrN.norm (wrap_i64 (by omega)) ?_ | refine VrN.keep ?_ | refine Nd.mk (by kernel_rfl) ?_ | refine Nd.mk (by omega) ?_ | refine RdN.intro _ rfl (by kernel_rfl) ?_); (conv => whnf)))); first | refine call1 (Between_ok t _) ?_ | refine callQ (Between_ok t _) ?_)
    (((conv => whnf); (repeat ((first | refine VrN.norm (wrap_i64 (by omega)) ?_ | refine VrN.keep ?_ | refine Nd.mk (by kernel_rfl) ?_ | refine Nd.mk (by omega) ?_ | refine RdN.intro _ rfl (by kernel_rfl) ?_); (conv => whnf)))); first | refine call1 (as_c _ _ _ _ _ _ _) ?_ | refine callQ (as_c _ _ _ _ _ _ _) ?_)
    (((conv => whnf); (repeat ((first | refine VrN.norm (wrap_i64 (by omega)) ?_ | refine VrN.keep ?_ | refine Nd.mk (by kernel_rfl) ?_ | refine Nd.mk (by omega) ?_ | refine RdN.intro _ rfl (by kernel_rfl) ?_); (conv => whnf)))); first | refine call1 (as_c _ _ _ _ _ _ _) ?_ | refine callQ (as_c _ _ _ _ _ _ _) ?_)
    (((conv => whnf); (repeat ((first | refine VrN.norm (wrap_i64 (by omega)) ?_ | refine VrN.keep ?_ | refine Nd.mk (by kernel_rfl) ?_ | refine Nd.mk (by omega) ?_ | refine RdN.intro _ rfl (by kernel_rfl) ?_); (conv => whnf)))); first | refine call1 (rBetween_ok t _) ?_ | refine callQ (rBetween_ok t _) ?_)
    (((conv => whnf); (repeat ((first | refine VrN.norm (wrap_i64 (by omega)) ?_ | refine VrN.keep ?_ | refine Nd.mk (by kernel_rfl) ?_ | refine Nd.mk (by omega) ?_ | refine RdN.intro _ rfl (by kernel_rfl) ?_); (conv => whnf)))); refine brd_false (by simp) ?_)
    (((conv => whnf); (repeat ((first | refine VrN.norm (wrap_i64 (by omega)) ?_ | refine VrN.keep ?_ | refine Nd.mk (by kernel_rfl) ?_ | refine Nd.mk (by omega) ?_ | refine RdN.intro _ rfl (by kernel_rfl) ?_); (conv => whnf)))); refine brd_false (by simp) ?_)
    (((conv => whnf); (repeat ((first | refine VrN.norm (wrap_i64 (by omega)) ?_ | refine VrN.keep ?_ | refine Nd.mk (by kernel_rfl) ?_ | refine Nd.mk (by omega) ?_ | refine RdN.intro _ rfl (by kernel_rfl) ?_); (conv => whnf)))); refine brd_false (by simp) ?_)
    ((conv => whnf); (repeat ((first | refine VrN.norm (wrap_i64 (by omega)) ?_ | refine VrN.keep ?_ | refine Nd.mk (by kernel_rfl) ?_ | refine Nd.mk (by omega) ?_ | refine RdN.intro _ rfl (by kernel_rfl) ?_); (conv => whnf))))
    generalize hN : Cal.mons y m d k i s y' m' d' k' i' s' = N
    have hva : Cal.validB y m d k i s = true := by rw [Cal.validB]; exact decide_eq_true t.a
    have hidx := t.idx
    have hbd := t.mons_bd
    have hmle := t.mons_le
    have hdays := t.days
    rw [hN] at hbd hmle hdays
    have ha := t.a
    have hb := t.b
    unfold Cal.validP at ha hb
    have hla := Cal.mlen_pos y m
    have hlm := Cal.lm_bd y m N
    have hld := Cal.ld_bd y m d N (by omega)
    have hly := Cal.later_idx y m N
    generalize hE : (Cal.secs y' m' d' k' i' s' - Cal.lsecs y m d k i s N) / 86400 = E
    have eN : IntKind.wrap .i64 (IntKind.wrap .i64 (12 * (N / 12)) + N % 12) = N := by
      simp (disch := omega) only [wrap_i64]; omega
    (((conv => whnf); (repeat ((first | refine VrN.norm (wrap_i64 (by omega)) ?_ | refine VrN.keep ?_ | refine Nd.mk (by kernel_rfl) ?_ | refine Nd.mk (by omega) ?_ | refine RdN.intro _ rfl (by kernel_rfl) ?_); (conv => whnf)))); first | refine call1 (AddMonths_c _ _ _ _ _ _ _ _) ?_ | refine callQ (AddMonths_c _ _ _ _ _ _ _ _) ?_)
    rw [eN, if_pos ⟨hva, by omega⟩, if_pos (by omega)]
    have hv2 : Cal.validB (Cal.ly y m N) (Cal.lm y m N) (Cal.ld y m d N) k i s = true := by rw [validB_later _ _ _ _ _ _ _ hva]; simp; omega
    (((conv => whnf); (repeat ((first | refine VrN.norm (wrap_i64 (by omega)) ?_ | refine VrN.keep ?_ | refine Nd.mk (by kernel_rfl) ?_ | refine Nd.mk (by omega) ?_ | refine RdN.intro _ rfl (by kernel_rfl) ?_); (conv => whnf)))); first | refine call1 (AddDays_c _ _ _ _ _ _ _ _) ?_ | refine callQ (AddDays_c _ _ _ _ _ _ _ _) ?_)
    have hq : Cal.dn (Cal.ly y m N) (Cal.lm y m N) (Cal.ld y m d N) + E ≤ Cal.dn y' m' d' := by
      unfold Cal.lsecs Cal.secs at hE; omega
    have hE0 : 0 ≤ E := by omega
    have c1 := Cal.cy_mono _ _ hq
    have c2 := Cal.cy_mono _ _ (show Cal.dn (Cal.ly y m N) (Cal.lm y m N) (Cal.ld y m d N) ≤ Cal.dn (Cal.ly y m N) (Cal.lm y m N) (Cal.ld y m d N) + E by omega)
    have u1 := Cal.civ_uniq y' m' d' _ (by omega) (by omega) (by omega) (by omega) rfl
    have u2 := Cal.civ_uniq (Cal.ly y m N) (Cal.lm y m N) (Cal.ld y m d N) _ (by omega) (by omega) (by omega) (by omega) rfl
    rw [if_pos ⟨hv2, by omega⟩, if_pos (by omega)]
    have hc := Cal.civ (Cal.dn (Cal.ly y m N) (Cal.lm y m N) (Cal.ld y m d N) + E)
    have hsec : Cal.secs (Cal.cy (Cal.dn (Cal.ly y m N) (Cal.lm y m N) (Cal.ld y m d N) + E)) (Cal.cm (Cal.dn (Cal.ly y m N) (Cal.lm y m N) (Cal.ld y m d N) + E)) (Cal.cd (Cal.dn (Cal.ly y m N) (Cal.lm y m N) (Cal.ld y m d N) + E)) k i s = Cal.lsecs y m d k i s N + E * 86400 := by
      unfold Cal.lsecs Cal.secs; omega
    have hv3 := validB_civ (Cal.dn (Cal.ly y m N) (Cal.lm y m N) (Cal.ld y m d N) + E) k i s (by omega) (by omega) (by omega)
    rw [decide_eq_true (by omega)] at hv3
    generalize Cal.cy (Cal.dn (Cal.ly y m N) (Cal.lm y m N) (Cal.ld y m d N) + E) = Y3 at *
    generalize Cal.cm (Cal.dn (Cal.ly y m N) (Cal.lm y m N) (Cal.ld y m d N) + E) = M3 at *
    generalize Cal.cd (Cal.dn (Cal.ly y m N) (Cal.lm y m N) (Cal.ld y m d N) + E) = D3 at *
    (((conv => whnf); (repeat ((first | refine VrN.norm (wrap_i64 (by omega)) ?_ | refine VrN.keep ?_ | refine Nd.mk (by kernel_rfl) ?_ | refine Nd.mk (by omega) ?_ | refine RdN.intro _ rfl (by kernel_rfl) ?_); (conv => whnf)))); first | refine call1 (AddDays_c _ _ _ _ _ _ _ _) ?_ | refine callQ (AddDays_c _ _ _ _ _ _ _ _) ?_)
    rw [if_pos ⟨hv3, by omega⟩]
    have hvb : Cal.validB y' m' d' k' i' s' = true := by rw [Cal.validB]; exact decide_eq_true t.b
    have m1 := rMoment_c Y3 M3 D3 k i s
    have m2 := rMoment_c y' m' d' k' i' s'
    rw [if_pos hv3, hsec, ansM] at m1
    rw [if_pos hvb, ansM] at m2
    have hlb := Cal.mlen_pos y' m'
    have hsb : -4000000000000 ≤ Cal.secs y' m' d' k' i' s' ∧ Cal.secs y' m' d' k' i' s' ≤ 4000000000000 := by have := Cal.dn_bd y' m' d' (by omega) (by omega); unfold Cal.secs; omega
    clear hq c1 c2 u1 u2 hc hsec eN
    generalize Cal.lsecs y m d k i s N = L at *
    generalize Cal.secs y' m' d' k' i' s' = S at *
    by_cases hy4 : -2000 ≤ Cal.cy (Cal.dn Y3 M3 D3 + 1) ∧ Cal.cy (Cal.dn Y3 M3 D3 + 1) ≤ 6000
    · rw [if_pos hy4]
      ((conv => whnf); (repeat ((first | refine VrN.norm (wrap_i64 (by omega)) ?_ | refine VrN.keep ?_ | refine Nd.mk (by kernel_rfl) ?_ | refine Nd.mk (by omega) ?_ | refine RdN.intro _ rfl (by kernel_rfl) ?_); (conv => whnf))))
      refine brd_dec (fun h => absurd h (by omega)) (fun _ => ?_)
      ((conv => whnf); (repeat ((first | refine VrN.norm (wrap_i64 (by omega)) ?_ | refine VrN.keep ?_ | refine Nd.mk (by kernel_rfl) ?_ | refine Nd.mk (by omega) ?_ | refine RdN.intro _ rfl (by kernel_rfl) ?_); (conv => whnf))))
      refine brd_dec (fun h => absurd h (by omega)) (fun _ => ?_)
      ((conv => whnf); (repeat ((first | refine VrN.norm (wrap_i64 (by omega)) ?_ | refine VrN.keep ?_ | refine Nd.mk (by kernel_rfl) ?_ | refine Nd.mk (by omega) ?_ | refine RdN.intro _ rfl (by kernel_rfl) ?_); (conv => whnf))))
      refine brd_dec (fun h => absurd h (by omega)) (fun _ => ?_)
      ((conv => whnf); (repeat ((first | refine VrN.norm (wrap_i64 (by omega)) ?_ | refine VrN.keep ?_ | refine Nd.mk (by kernel_rfl) ?_ | refine Nd.mk (by omega) ?_ | refine RdN.intro _ rfl (by kernel_rfl) ?_); (conv => whnf))))
      refine brd_dec (fun h => absurd h (by omega)) (fun _ => ?_)
      (((conv => whnf); (repeat ((first | refine VrN.norm (wrap_i64 (by omega)) ?_ | refine VrN.keep ?_ | refine Nd.mk (by kernel_rfl) ?_ | refine Nd.mk (by omega) ?_ | refine RdN.intro _ rfl (by kernel_rfl) ?_); (conv => whnf)))); first | refine call1 (as_c _ _ _ _ _ _ _) ?_ | refine callQ (as_c _ _ _ _ _ _ _) ?_)
      by_cases h1 : -100000000000 ≤ L + E * 86400 ∧ L + E * 86400 ≤ 100000000000
      · rw [if_pos h1] at m1
        (((conv => whnf); (repeat ((first | refine VrN.norm (wrap_i64 (by omega)) ?_ | refine VrN.keep ?_ | refine Nd.mk (by kernel_rfl) ?_ | refine Nd.mk (by omega) ?_ | refine RdN.intro _ rfl (by kernel_rfl) ?_); (conv => whnf)))); first | refine call1 (m1 _) ?_ | refine callQ (m1 _) ?_)
        (((conv => whnf); (repeat ((first | refine VrN.norm (wrap_i64 (by omega)) ?_ | refine VrN.keep ?_ | refine Nd.mk (by kernel_rfl) ?_ | refine Nd.mk (by omega) ?_ | refine RdN.intro _ rfl (by kernel_rfl) ?_); (conv => whnf)))); first | refine call1 (as_c _ _ _ _ _ _ _) ?_ | refine callQ (as_c _ _ _ _ _ _ _) ?_)
        by_cases h2 : -100000000000 ≤ S ∧ S ≤ 100000000000
        · rw [if_pos h2] at m2
          (((conv => whnf); (repeat ((first | refine VrN.norm (wrap_i64 (by omega)) ?_ | refine VrN.keep ?_ | refine Nd.mk (by kernel_rfl) ?_ | refine Nd.mk (by omega) ?_ | refine RdN.intro _ rfl (by kernel_rfl) ?_); (conv => whnf)))); first | refine call1 (m2 _) ?_ | refine callQ (m2 _) ?_)
          ((conv => whnf); (repeat ((first | refine VrN.norm (wrap_i64 (by omega)) ?_ | refine VrN.keep ?_ | refine Nd.mk (by kernel_rfl) ?_ | refine Nd.mk (by omega) ?_ | refine RdN.intro _ rfl (by kernel_rfl) ?_); (conv => whnf))))
          refine brd_dec (fun _ => ?_) (fun h => absurd (show L + E * 86400 ≤ S by omega) h)
          ((conv => whnf); (repeat ((first | refine VrN.norm (wrap_i64 (by omega)) ?_ | refine VrN.keep ?_ | refine Nd.mk (by kernel_rfl) ?_ | refine Nd.mk (by omega) ?_ | refine RdN.intro _ rfl (by kernel_rfl) ?_); (conv => whnf))))
          exact out_bool (by rw [wrap_i64 (by omega)]; exact decide_eq_true (by omega))
        · rw [if_neg h2] at m2
          (((conv => whnf); (repeat ((first | refine VrN.norm (wrap_i64 (by omega)) ?_ | refine VrN.keep ?_ | refine Nd.mk (by kernel_rfl) ?_ | refine Nd.mk (by omega) ?_ | refine RdN.intro _ rfl (by kernel_rfl) ?_); (conv => whnf)))); first | refine call1 (m2 _) ?_ | refine callQ (m2 _) ?_)
          ((conv => whnf); (repeat ((first | refine VrN.norm (wrap_i64 (by omega)) ?_ | refine VrN.keep ?_ | refine Nd.mk (by kernel_rfl) ?_ | refine Nd.mk (by omega) ?_ | refine RdN.intro _ rfl (by kernel_rfl) ?_); (conv => whnf))))
      · rw [if_neg h1] at m1
        (((conv => whnf); (repeat ((first | refine VrN.norm (wrap_i64 (by omega)) ?_ | refine VrN.keep ?_ | refine Nd.mk (by kernel_rfl) ?_ | refine Nd.mk (by omega) ?_ | refine RdN.intro _ rfl (by kernel_rfl) ?_); (conv => whnf)))); first | refine call1 (m1 _) ?_ | refine callQ (m1 _) ?_)
        (((conv => whnf); (repeat ((first | refine VrN.norm (wrap_i64 (by omega)) ?_ | refine VrN.keep ?_ | refine Nd.mk (by kernel_rfl) ?_ | refine Nd.mk (by omega) ?_ | refine RdN.intro _ rfl (by kernel_rfl) ?_); (conv => whnf)))); first | refine call1 (as_c _ _ _ _ _ _ _) ?_ | refine callQ (as_c _ _ _ _ _ _ _) ?_)
        by_cases h2 : -100000000000 ≤ S ∧ S ≤ 100000000000
        · rw [if_pos h2] at m2
          (((conv => whnf); (repeat ((first | refine VrN.norm (wrap_i64 (by omega)) ?_ | refine VrN.keep ?_ | refine Nd.mk (by kernel_rfl) ?_ | refine Nd.mk (by omega) ?_ | refine RdN.intro _ rfl (by kernel_rfl) ?_); (conv => whnf)))); first | refine call1 (m2 _) ?_ | refine callQ (m2 _) ?_)
          ((conv => whnf); (repeat ((first | refine VrN.norm (wrap_i64 (by omega)) ?_ | refine VrN.keep ?_ | refine Nd.mk (by kernel_rfl) ?_ | refine Nd.mk (by omega) ?_ | refine RdN.intro _ rfl (by kernel_rfl) ?_); (conv => whnf))))
        · rw [if_neg h2] at m2
          (((conv => whnf); (repeat ((first | refine VrN.norm (wrap_i64 (by omega)) ?_ | refine VrN.keep ?_ | refine Nd.mk (by kernel_rfl) ?_ | refine Nd.mk (by omega) ?_ | refine RdN.intro _ rfl (by kernel_rfl) ?_); (conv => whnf)))); first | refine call1 (m2 _) ?_ | refine callQ (m2 _) ?_)
          ((conv => whnf); (repeat ((first | refine VrN.norm (wrap_i64 (by omega)) ?_ | refine VrN.keep ?_ | refine Nd.mk (by kernel_rfl) ?_ | refine Nd.mk (by omega) ?_ | refine RdN.intro _ rfl (by kernel_rfl) ?_); (conv => whnf))))
    · rw [if_neg hy4]
      ((conv => whnf); (repeat ((first | refine VrN.norm (wrap_i64 (by omega)) ?_ | refine VrN.keep ?_ | refine Nd.mk (by kernel_rfl) ?_ | refine Nd.mk (by omega) ?_ | refine RdN.intro _ rfl (by kernel_rfl) ?_); (conv => whnf))))
      refine brd_dec (fun h => absurd h (by omega)) (fun _ => ?_)
      ((conv => whnf); (repeat ((first | refine VrN.norm (wrap_i64 (by omega)) ?_ | refine VrN.keep ?_ | refine Nd.mk (by kernel_rfl) ?_ | refine Nd.mk (by omega) ?_ | refine RdN.intro _ rfl (by kernel_rfl) ?_); (conv => whnf))))
      refine brd_dec (fun h => absurd h (by omega)) (fun _ => ?_)
      ((conv => whnf); (repeat ((first | refine VrN.norm (wrap_i64 (by omega)) ?_ | refine VrN.keep ?_ | refine Nd.mk (by kernel_rfl) ?_ | refine Nd.mk (by omega) ?_ | refine RdN.intro _ rfl (by kernel_rfl) ?_); (conv => whnf))))
      refine brd_dec (fun h => absurd h (by omega)) (fun _ => ?_)
      ((conv => whnf); (repeat ((first | refine VrN.norm (wrap_i64 (by omega)) ?_ | refine VrN.keep ?_ | refine Nd.mk (by kernel_rfl) ?_ | refine Nd.mk (by omega) ?_ | refine RdN.intro _ rfl (by kernel_rfl) ?_); (conv => whnf))))
      refine brd_dec (fun h => absurd h (by omega)) (fun _ => ?_)
      (((conv => whnf); (repeat ((first | refine VrN.norm (wrap_i64 (by omega)) ?_ | refine VrN.keep ?_ | refine Nd.mk (by kernel_rfl) ?_ | refine Nd.mk (by omega) ?_ | refine RdN.intro _ rfl (by kernel_rfl) ?_); (conv => whnf)))); first | refine call1 (as_c _ _ _ _ _ _ _) ?_ | refine callQ (as_c _ _ _ _ _ _ _) ?_)
      by_cases h1 : -100000000000 ≤ L + E * 86400 ∧ L + E * 86400 ≤ 100000000000
      · rw [if_pos h1] at m1
        (((conv => whnf); (repeat ((first | refine VrN.norm (wrap_i64 (by omega)) ?_ | refine VrN.keep ?_ | refine Nd.mk (by kernel_rfl) ?_ | refine Nd.mk (by omega) ?_ | refine RdN.intro _ rfl (by kernel_rfl) ?_); (conv => whnf)))); first | refine call1 (m1 _) ?_ | refine callQ (m1 _) ?_)
        (((conv => whnf); (repeat ((first | refine VrN.norm (wrap_i64 (by omega)) ?_ | refine VrN.keep ?_ | refine Nd.mk (by kernel_rfl) ?_ | refine Nd.mk (by omega) ?_ | refine RdN.intro _ rfl (by kernel_rfl) ?_); (conv => whnf)))); first | refine call1 (as_c _ _ _ _ _ _ _) ?_ | refine callQ (as_c _ _ _ _ _ _ _) ?_)
        by_cases h2 : -100000000000 ≤ S ∧ S ≤ 100000000000
        · rw [if_pos h2] at m2
          (((conv => whnf); (repeat ((first | refine VrN.norm (wrap_i64 (by omega)) ?_ | refine VrN.keep ?_ | refine Nd.mk (by kernel_rfl) ?_ | refine Nd.mk (by omega) ?_ | refine RdN.intro _ rfl (by kernel_rfl) ?_); (conv => whnf)))); first | refine call1 (m2 _) ?_ | refine callQ (m2 _) ?_)
          ((conv => whnf); (repeat ((first | refine VrN.norm (wrap_i64 (by omega)) ?_ | refine VrN.keep ?_ | refine Nd.mk (by kernel_rfl) ?_ | refine Nd.mk (by omega) ?_ | refine RdN.intro _ rfl (by kernel_rfl) ?_); (conv => whnf))))
        · rw [if_neg h2] at m2
          (((conv => whnf); (repeat ((first | refine VrN.norm (wrap_i64 (by omega)) ?_ | refine VrN.keep ?_ | refine Nd.mk (by kernel_rfl) ?_ | refine Nd.mk (by omega) ?_ | refine RdN.intro _ rfl (by kernel_rfl) ?_); (conv => whnf)))); first | refine call1 (m2 _) ?_ | refine callQ (m2 _) ?_)
          ((conv => whnf); (repeat ((first | refine VrN.norm (wrap_i64 (by omega)) ?_ | refine VrN.keep ?_ | refine Nd.mk (by kernel_rfl) ?_ | refine Nd.mk (by omega) ?_ | refine RdN.intro _ rfl (by kernel_rfl) ?_); (conv => whnf))))
      · rw [if_neg h1] at m1
        (((conv => whnf); (repeat ((first | refine VrN.norm (wrap_i64 (by omega)) ?_ | refine VrN.keep ?_ | refine Nd.mk (by kernel_rfl) ?_ | refine Nd.mk (by omega) ?_ | refine RdN.intro _ rfl (by kernel_rfl) ?_); (conv => whnf)))); first | refine call1 (m1 _) ?_ | refine callQ (m1 _) ?_)
        (((conv => whnf); (repeat ((first | refine VrN.norm (wrap_i64 (by omega)) ?_ | refine VrN.keep ?_ | refine Nd.mk (by kernel_rfl) ?_ | refine Nd.mk (by omega) ?_ | refine RdN.intro _ rfl (by kernel_rfl) ?_); (conv => whnf)))); first | refine call1 (as_c _ _ _ _ _ _ _) ?_ | refine callQ (as_c _ _ _ _ _ _ _) ?_)
        by_cases h2 : -100000000000 ≤ S ∧ S ≤ 100000000000
        · rw [if_pos h2] at m2
          (((conv => whnf); (repeat ((first | refine VrN.norm (wrap_i64 (by omega)) ?_ | refine VrN.keep ?_ | refine Nd.mk (by kernel_rfl) ?_ | refine Nd.mk (by omega) ?_ | refine RdN.intro _ rfl (by kernel_rfl) ?_); (conv => whnf)))); first | refine call1 (m2 _) ?_ | refine callQ (m2 _) ?_)
          ((conv => whnf); (repeat ((first | refine VrN.norm (wrap_i64 (by omega)) ?_ | refine VrN.keep ?_ | refine Nd.mk (by kernel_rfl) ?_ | refine Nd.mk (by omega) ?_ | refine RdN.intro _ rfl (by kernel_rfl) ?_); (conv => whnf))))
        · rw [if_neg h2] at m2
          (((conv => whnf); (repeat ((first | refine VrN.norm (wrap_i64 (by omega)) ?_ | refine VrN.keep ?_ | refine Nd.mk (by kernel_rfl) ?_ | refine Nd.mk (by omega) ?_ | refine RdN.intro _ rfl (by kernel_rfl) ?_); (conv => whnf)))); first | refine call1 (m2 _) ?_ | refine callQ (m2 _) ?_)
          ((conv => whnf); (repeat ((first | refine VrN.norm (wrap_i64 (by omega)) ?_ | refine VrN.keep ?_ | refine Nd.mk (by kernel_rfl) ?_ | refine Nd.mk (by omega) ?_ | refine RdN.intro _ rfl (by kernel_rfl) ?_); (conv => whnf))))
  · (((conv => whnf); (repeat ((first | refine VrN.norm (wrap_i64 (by omega)) ?_ | refine VrN.keep ?_ | refine Nd.mk (by kernel_rfl) ?_ | refine Nd.mk (by omega) ?_ | refine RdN.intro _ rfl (by kernel_rfl) ?_); (conv => whnf)))); first | refine call1 (Between_no t _) ?_ | refine callQ (Between_no t _) ?_)
    (((conv => whnf); (repeat ((first | refine VrN.norm (wrap_i64 (by omega)) ?_ | refine VrN.keep ?_ | refine Nd.mk (by kernel_rfl) ?_ | refine Nd.mk (by omega) ?_ | refine RdN.intro _ rfl (by kernel_rfl) ?_); (conv => whnf)))); first | refine call1 (as_c _ _ _ _ _ _ _) ?_ | refine callQ (as_c _ _ _ _ _ _ _) ?_)
    (((conv => whnf); (repeat ((first | refine VrN.norm (wrap_i64 (by omega)) ?_ | refine VrN.keep ?_ | refine Nd.mk (by kernel_rfl) ?_ | refine Nd.mk (by omega) ?_ | refine RdN.intro _ rfl (by kernel_rfl) ?_); (conv => whnf)))); first | refine call1 (as_c _ _ _ _ _ _ _) ?_ | refine callQ (as_c _ _ _ _ _ _ _) ?_)
    (((conv => whnf); (repeat ((first | refine VrN.norm (wrap_i64 (by omega)) ?_ | refine VrN.keep ?_ | refine Nd.mk (by kernel_rfl) ?_ | refine Nd.mk (by omega) ?_ | refine RdN.intro _ rfl (by kernel_rfl) ?_); (conv => whnf)))); first | refine call1 (rBetween_no t _) ?_ | refine callQ (rBetween_no t _) ?_)
    ((conv => whnf); (repeat ((first | refine VrN.norm (wrap_i64 (by omega)) ?_ | refine VrN.keep ?_ | refine Nd.mk (by kernel_rfl) ?_ | refine Nd.mk (by omega) ?_ | refine RdN.intro _ rfl (by kernel_rfl) ?_); (conv => whnf))))

theorem ClockBetween_c (y m d k i s y' m' d' k' i' s' n M : Int) : ∀ H, SpecH Try.prog 6
    (pvs [.agg #[.int .i64 y, .int .i64 m, .int .i64 d, .int .i64 k, .int .i64 i, .int .i64 s, .int .i64 y', .int .i64 m', .int .i64 d', .int .i64 k', .int .i64 i', .int .i64 s', .int .i64 n, .int .i64 M]]) H (Ret (.bool true) H) := by
  refine pureC hm Try.func6 (by kernel_rfl) rfl rfl ?_
  ((conv => whnf); (repeat ((first | refine VrN.norm (wrap_i64 (by omega)) ?_ | refine VrN.keep ?_ | refine Nd.mk (by kernel_rfl) ?_ | refine Nd.mk (by omega) ?_ | refine RdN.intro _ rfl (by kernel_rfl) ?_); (conv => whnf)))); refine callR (rMade_c n _) fun x hx => ?_
  obtain ⟨y1, m1, d1, k1, i1, s1, rfl, hv1⟩ := hx
  (((conv => whnf); (repeat ((first | refine VrN.norm (wrap_i64 (by omega)) ?_ | refine VrN.keep ?_ | refine Nd.mk (by kernel_rfl) ?_ | refine Nd.mk (by omega) ?_ | refine RdN.intro _ rfl (by kernel_rfl) ?_); (conv => whnf)))); first | refine call1 (back_c _ _ _ _ _ _ _) ?_ | refine callQ (back_c _ _ _ _ _ _ _) ?_)
  ((conv => whnf); (repeat ((first | refine VrN.norm (wrap_i64 (by omega)) ?_ | refine VrN.keep ?_ | refine Nd.mk (by kernel_rfl) ?_ | refine Nd.mk (by omega) ?_ | refine RdN.intro _ rfl (by kernel_rfl) ?_); (conv => whnf)))); refine callR (rMade_c M _) fun x hx => ?_
  obtain ⟨y2, m2, d2, k2, i2, s2, rfl, hv2⟩ := hx
  (((conv => whnf); (repeat ((first | refine VrN.norm (wrap_i64 (by omega)) ?_ | refine VrN.keep ?_ | refine Nd.mk (by kernel_rfl) ?_ | refine Nd.mk (by omega) ?_ | refine RdN.intro _ rfl (by kernel_rfl) ?_); (conv => whnf)))); first | refine call1 (back_c _ _ _ _ _ _ _) ?_ | refine callQ (back_c _ _ _ _ _ _ _) ?_)
  (((conv => whnf); (repeat ((first | refine VrN.norm (wrap_i64 (by omega)) ?_ | refine VrN.keep ?_ | refine Nd.mk (by kernel_rfl) ?_ | refine Nd.mk (by omega) ?_ | refine RdN.intro _ rfl (by kernel_rfl) ?_); (conv => whnf)))); first | refine call1 (between_c _ _ _ _ _ _ _ _ _ _ _ _ _) ?_ | refine callQ (between_c _ _ _ _ _ _ _ _ _ _ _ _ _) ?_)
  (((conv => whnf); (repeat ((first | refine VrN.norm (wrap_i64 (by omega)) ?_ | refine VrN.keep ?_ | refine Nd.mk (by kernel_rfl) ?_ | refine Nd.mk (by omega) ?_ | refine RdN.intro _ rfl (by kernel_rfl) ?_); (conv => whnf)))); first | refine call1 (between_c _ _ _ _ _ _ _ _ _ _ _ _ _) ?_ | refine callQ (between_c _ _ _ _ _ _ _ _ _ _ _ _ _) ?_)
  (((conv => whnf); (repeat ((first | refine VrN.norm (wrap_i64 (by omega)) ?_ | refine VrN.keep ?_ | refine Nd.mk (by kernel_rfl) ?_ | refine Nd.mk (by omega) ?_ | refine RdN.intro _ rfl (by kernel_rfl) ?_); (conv => whnf)))); first | refine call1 (between_c _ _ _ _ _ _ _ _ _ _ _ _ _) ?_ | refine callQ (between_c _ _ _ _ _ _ _ _ _ _ _ _ _) ?_)
  (((conv => whnf); (repeat ((first | refine VrN.norm (wrap_i64 (by omega)) ?_ | refine VrN.keep ?_ | refine Nd.mk (by kernel_rfl) ?_ | refine Nd.mk (by omega) ?_ | refine RdN.intro _ rfl (by kernel_rfl) ?_); (conv => whnf)))); first | refine call1 (between_c _ _ _ _ _ _ _ _ _ _ _ _ _) ?_ | refine callQ (between_c _ _ _ _ _ _ _ _ _ _ _ _ _) ?_)
  (((conv => whnf); (repeat ((first | refine VrN.norm (wrap_i64 (by omega)) ?_ | refine VrN.keep ?_ | refine Nd.mk (by kernel_rfl) ?_ | refine Nd.mk (by omega) ?_ | refine RdN.intro _ rfl (by kernel_rfl) ?_); (conv => whnf)))); first | refine call1 (sane_c _) ?_ | refine callQ (sane_c _) ?_)
  ((conv => whnf); (repeat ((first | refine VrN.norm (wrap_i64 (by omega)) ?_ | refine VrN.keep ?_ | refine Nd.mk (by kernel_rfl) ?_ | refine Nd.mk (by omega) ?_ | refine RdN.intro _ rfl (by kernel_rfl) ?_); (conv => whnf))))
end Go.Proofs.Ytnecdpkmmncfaaa
