/-
  Contract of the document's Between.
-/
import Derived.Test.YtnecdpkmmncfaaaC15
namespace Go.Proofs.Ytnecdpkmmncfaaa
open Go.AX
set_option maxRecDepth 20000

theorem rBetween_ok {y m d k i s y' m' d' k' i' s' : Int} (t : Cal.Two y m d k i s y' m' d' k' i' s') : ∀ H, SpecH Try.prog 48 (pvs [dt y m d k i s, dt y' m' d' k' i' s']) H
    (Ret (btw (Cal.mons y m d k i s y' m' d' k' i' s' / 12) (Cal.mons y m d k i s y' m' d' k' i' s' % 12) ((Cal.secs y' m' d' k' i' s' - Cal.lsecs y m d k i s (Cal.mons y m d k i s y' m' d' k' i' s')) / 86400) 0) H) := by
  refine pureC hm Try.func48 (by kernel_rfl) rfl rfl ?_
  have hva : Cal.validB y m d k i s = true := by rw [Cal.validB]; exact decide_eq_true t.a
  have hvb : Cal.validB y' m' d' k' i' s' = true := by rw [Cal.validB]; exact decide_eq_true t.b
  have ha := t.a
  have hb := t.b
  unfold Cal.validP at ha hb
  have v1 := rvalid_c y m d k i s
  have v2 := rvalid_c y' m' d' k' i' s'
  rw [hva] at v1
  rw [hvb] at v2
  have hidx := t.idx
  have hla := Cal.mlen_pos y m
  have hlb := Cal.mlen_pos y' m'
  have s1 := rseconds_c y m d k i s (by omega) (by omega) (by omega) (by omega) (by omega) (by omega) (by omega)
  have s2 := rseconds_c y' m' d' k' i' s' (by omega) (by omega) (by omega) (by omega) (by omega) (by omega) (by omega)
  have hbd := t.mons_bd
  have hmle := t.mons_le
  have hls : ∀ q, Cal.secs (Cal.ly y m q) (Cal.lm y m q) (Cal.ld y m d q) k i s = Cal.lsecs y m d k i s q := fun _ => rfl
  have lat : ∀ q : Int, (y' - y) * 12 + m' - m - 1 ≤ q ∧ q ≤ (y' - y) * 12 + m' - m → ∀ H, SpecH Try.prog 55 (pvs [dt y m d k i s, .int .i64 q]) H (Ret (dt (Cal.ly y m q) (Cal.lm y m q) (Cal.ld y m d q) k i s) H) := fun q hq =>
    rlater_c y m d k i s q (by omega) (by omega) (by omega)
  have sec : ∀ q : Int, (y' - y) * 12 + m' - m - 1 ≤ q ∧ q ≤ (y' - y) * 12 + m' - m → ∀ H, SpecH Try.prog 62 (pvs [dt (Cal.ly y m q) (Cal.lm y m q) (Cal.ld y m d q) k i s]) H (Ret (.int .i64 (Cal.lsecs y m d k i s q)) H) := fun q hq => by
    have hlm := Cal.lm_bd y m q
    have hld := Cal.ld_bd y m d q (by omega)
    have hly := Cal.later_idx y m q
    exact rseconds_c (Cal.ly y m q) (Cal.lm y m q) (Cal.ld y m d q) k i s (by omega) (by omega) (by omega) (by omega) (by omega) (by omega) (by omega)
  have hsb : -4000000000000 ≤ Cal.secs y' m' d' k' i' s' ∧ Cal.secs y' m' d' k' i' s' ≤ 4000000000000 := by have := Cal.dn_bd y' m' d' (by omega) (by omega); unfold Cal.secs; omega
  have hlo : ∀ q : Int, (y' - y) * 12 + m' - m - 1 ≤ q ∧ q ≤ (y' - y) * 12 + m' - m → -4000000000000 ≤ Cal.lsecs y m d k i s q := fun q hq => by
    have hlm := Cal.lm_bd y m q
    have hld := Cal.ld_bd y m d q (by omega)
    have hly := Cal.later_idx y m q
    have := Cal.dn_bd (Cal.ly y m q) (Cal.lm y m q) (Cal.ld y m d q) (by omega) (by omega); unfold Cal.lsecs Cal.secs; omega
  (((conv => whnf); (repeat ((first | refine VrN.norm (wrap_i64 (by omega)) ?_ | refine VrN.keep ?_ | refine Nd.mk (by kernel_rfl) ?_ | refine Nd.mk (by omega) ?_ | refine RdN.intro _ rfl (by kernel_rfl) ?_); (conv => whnf)))); first | refine call1 (v1 _) ?_ | refine callQ (v1 _) ?_)
  (((conv => whnf); (repeat ((first | refine VrN.norm (wrap_i64 (by omega)) ?_ | refine VrN.keep ?_ | refine Nd.mk (by kernel_rfl) ?_ | refine Nd.mk (by omega) ?_ | refine RdN.intro _ rfl (by kernel_rfl) ?_); (conv => whnf)))); first | refine call1 (v2 _) ?_ | refine callQ (v2 _) ?_)
  (((conv => whnf); (repeat ((first | refine VrN.norm (wrap_i64 (by omega)) ?_ | refine VrN.keep ?_ | refine Nd.mk (by kernel_rfl) ?_ | refine Nd.mk (by omega) ?_ | refine RdN.intro _ rfl (by kernel_rfl) ?_); (conv => whnf)))); first | refine call1 (s1 _) ?_ | refine callQ (s1 _) ?_)
  (((conv => whnf); (repeat ((first | refine VrN.norm (wrap_i64 (by omega)) ?_ | refine VrN.keep ?_ | refine Nd.mk (by kernel_rfl) ?_ | refine Nd.mk (by omega) ?_ | refine RdN.intro _ rfl (by kernel_rfl) ?_); (conv => whnf)))); first | refine call1 (s2 _) ?_ | refine callQ (s2 _) ?_)
  have hle := t.le
  ((conv => whnf); (repeat ((first | refine VrN.norm (wrap_i64 (by omega)) ?_ | refine VrN.keep ?_ | refine Nd.mk (by kernel_rfl) ?_ | refine Nd.mk (by omega) ?_ | refine RdN.intro _ rfl (by kernel_rfl) ?_); (conv => whnf))))
  refine brd_dec (fun h => absurd h (by omega)) (fun _ => ?_)
  ((conv => whnf); (repeat ((first | refine Nd.mk (by kernel_rfl) ?_ | refine Nd.mk (by omega) ?_ | refine RdN.intro _ rfl (by kernel_rfl) ?_); (conv => whnf))))
  refine vr_name fun n hn => ?_
  simp (disch := omega) only [wrap_i64] at hn
  have hn' : n = (y' - y) * 12 + m' - m := by omega
  have hM : Cal.mons y m d k i s y' m' d' k' i' s' = if Cal.secs y' m' d' k' i' s' < Cal.lsecs y m d k i s n then n - 1 else n := by rw [hn']; rfl
  clear hn v1 v2 hva hvb
  have hone := t.one
  ((conv => whnf); (repeat ((first | refine VrN.norm (wrap_i64 (by omega)) ?_ | refine VrN.keep ?_ | refine Nd.mk (by kernel_rfl) ?_ | refine Nd.mk (by omega) ?_ | refine RdN.intro _ rfl (by kernel_rfl) ?_); (conv => whnf))))
  refine .unroll 2 ?_
  (((conv => whnf); (repeat ((first | refine VrN.norm (wrap_i64 (by omega)) ?_ | refine VrN.keep ?_ | refine Nd.mk (by kernel_rfl) ?_ | refine Nd.mk (by omega) ?_ | refine RdN.intro _ rfl (by kernel_rfl) ?_); (conv => whnf)))); first | refine call1 (lat n (by omega) _) ?_ | refine callQ (lat n (by omega) _) ?_)
  (((conv => whnf); (repeat ((first | refine VrN.norm (wrap_i64 (by omega)) ?_ | refine VrN.keep ?_ | refine Nd.mk (by kernel_rfl) ?_ | refine Nd.mk (by omega) ?_ | refine RdN.intro _ rfl (by kernel_rfl) ?_); (conv => whnf)))); first | refine call1 (sec n (by omega) _) ?_ | refine callQ (sec n (by omega) _) ?_)
  (((conv => whnf); (repeat ((first | refine VrN.norm (wrap_i64 (by omega)) ?_ | refine VrN.keep ?_ | refine Nd.mk (by kernel_rfl) ?_ | refine Nd.mk (by omega) ?_ | refine RdN.intro _ rfl (by kernel_rfl) ?_); (conv => whnf)))); first | refine call1 (s2 _) ?_ | refine callQ (s2 _) ?_)
  ((conv => whnf); (repeat ((first | refine Nd.mk (by kernel_rfl) ?_ | refine Nd.mk (by omega) ?_ | refine RdN.intro _ rfl (by kernel_rfl) ?_); (conv => whnf))))
  refine brd_dec (fun hc => ?_) (fun hc => ?_)
  · rw [if_pos (by omega)] at hM
    ((conv => whnf); (repeat ((first | refine Nd.mk (by kernel_rfl) ?_ | refine Nd.mk (by omega) ?_ | refine RdN.intro _ rfl (by kernel_rfl) ?_); (conv => whnf))))
    refine vr_name fun q hq => ?_
    rw [wrap_i64 (by omega)] at hq
    (((conv => whnf); (repeat ((first | refine VrN.norm (wrap_i64 (by omega)) ?_ | refine VrN.keep ?_ | refine Nd.mk (by kernel_rfl) ?_ | refine Nd.mk (by omega) ?_ | refine RdN.intro _ rfl (by kernel_rfl) ?_); (conv => whnf)))); first | refine call1 (lat q (by omega) _) ?_ | refine callQ (lat q (by omega) _) ?_)
    (((conv => whnf); (repeat ((first | refine VrN.norm (wrap_i64 (by omega)) ?_ | refine VrN.keep ?_ | refine Nd.mk (by kernel_rfl) ?_ | refine Nd.mk (by omega) ?_ | refine RdN.intro _ rfl (by kernel_rfl) ?_); (conv => whnf)))); first | refine call1 (sec q (by omega) _) ?_ | refine callQ (sec q (by omega) _) ?_)
    (((conv => whnf); (repeat ((first | refine VrN.norm (wrap_i64 (by omega)) ?_ | refine VrN.keep ?_ | refine Nd.mk (by kernel_rfl) ?_ | refine Nd.mk (by omega) ?_ | refine RdN.intro _ rfl (by kernel_rfl) ?_); (conv => whnf)))); first | refine call1 (s2 _) ?_ | refine callQ (s2 _) ?_)
    ((conv => whnf); (repeat ((first | refine Nd.mk (by kernel_rfl) ?_ | refine Nd.mk (by omega) ?_ | refine RdN.intro _ rfl (by kernel_rfl) ?_); (conv => whnf))))
    refine brd_dec (fun h => absurd h (by rw [hq, hn']; omega)) (fun _ => ?_)
    (((conv => whnf); (repeat ((first | refine VrN.norm (wrap_i64 (by omega)) ?_ | refine VrN.keep ?_ | refine Nd.mk (by kernel_rfl) ?_ | refine Nd.mk (by omega) ?_ | refine RdN.intro _ rfl (by kernel_rfl) ?_); (conv => whnf)))); first | refine call1 (s2 _) ?_ | refine callQ (s2 _) ?_)
    (((conv => whnf); (repeat ((first | refine VrN.norm (wrap_i64 (by omega)) ?_ | refine VrN.keep ?_ | refine Nd.mk (by kernel_rfl) ?_ | refine Nd.mk (by omega) ?_ | refine RdN.intro _ rfl (by kernel_rfl) ?_); (conv => whnf)))); first | refine call1 (lat q (by omega) _) ?_ | refine callQ (lat q (by omega) _) ?_)
    (((conv => whnf); (repeat ((first | refine VrN.norm (wrap_i64 (by omega)) ?_ | refine VrN.keep ?_ | refine Nd.mk (by kernel_rfl) ?_ | refine Nd.mk (by omega) ?_ | refine RdN.intro _ rfl (by kernel_rfl) ?_); (conv => whnf)))); first | refine call1 (sec q (by omega) _) ?_ | refine callQ (sec q (by omega) _) ?_)
    ((conv => whnf); (repeat ((first | refine VrN.norm (wrap_i64 (by omega)) ?_ | refine VrN.keep ?_ | refine Nd.mk (by kernel_rfl) ?_ | refine Nd.mk (by omega) ?_ | refine RdN.intro _ rfl (by kernel_rfl) ?_); (conv => whnf))))
    have := hlo q (by omega)
    have hq' : q = Cal.mons y m d k i s y' m' d' k' i' s' := by omega
    rw [← hq'] at hmle hbd ⊢
    refine out_btw ?_ ?_ ?_
    all_goals (simp (disch := omega) only [wrap_i64, Int.tdiv_eq_ediv_of_nonneg, Int.tmod_eq_emod_of_nonneg])
  · rw [if_neg (by omega)] at hM
    (((conv => whnf); (repeat ((first | refine VrN.norm (wrap_i64 (by omega)) ?_ | refine VrN.keep ?_ | refine Nd.mk (by kernel_rfl) ?_ | refine Nd.mk (by omega) ?_ | refine RdN.intro _ rfl (by kernel_rfl) ?_); (conv => whnf)))); first | refine call1 (s2 _) ?_ | refine callQ (s2 _) ?_)
    (((conv => whnf); (repeat ((first | refine VrN.norm (wrap_i64 (by omega)) ?_ | refine VrN.keep ?_ | refine Nd.mk (by kernel_rfl) ?_ | refine Nd.mk (by omega) ?_ | refine RdN.intro _ rfl (by kernel_rfl) ?_); (conv => whnf)))); first | refine call1 (lat n (by omega) _) ?_ | refine callQ (lat n (by omega) _) ?_)
    (((conv => whnf); (repeat ((first | refine VrN.norm (wrap_i64 (by omega)) ?_ | refine VrN.keep ?_ | refine Nd.mk (by kernel_rfl) ?_ | refine Nd.mk (by omega) ?_ | refine RdN.intro _ rfl (by kernel_rfl) ?_); (conv => whnf)))); first | refine call1 (sec n (by omega) _) ?_ | refine callQ (sec n (by omega) _) ?_)
    ((conv => whnf); (repeat ((first | refine VrN.norm (wrap_i64 (by omega)) ?_ | refine VrN.keep ?_ | refine Nd.mk (by kernel_rfl) ?_ | refine Nd.mk (by omega) ?_ | refine RdN.intro _ rfl (by kernel_rfl) ?_); (conv => whnf))))
    have := hlo n (by omega)
    rw [hM] at hmle hbd ⊢
    refine out_btw ?_ ?_ ?_
    all_goals (simp (disch := omega) only [wrap_i64, Int.tdiv_eq_ediv_of_nonneg, Int.tmod_eq_emod_of_nonneg])

theorem rBetween_no {y m d k i s y' m' d' k' i' s' : Int} (t : ¬ Cal.Two y m d k i s y' m' d' k' i' s') : ∀ H, SpecH Try.prog 48 (pvs [dt y m d k i s, dt y' m' d' k' i' s']) H (Ret (btw 0 0 0 1) H) := by
  refine pureC hm Try.func48 (by kernel_rfl) rfl rfl ?_
  have hno := btw_no t
  (((conv => whnf); (repeat ((first | refine VrN.norm (wrap_i64 (by omega)) ?_ | refine VrN.keep ?_ | refine Nd.mk (by kernel_rfl) ?_ | refine Nd.mk (by omega) ?_ | refine RdN.intro _ rfl (by kernel_rfl) ?_); (conv => whnf)))); first | refine call1 (rvalid_c _ _ _ _ _ _ _) ?_ | refine callQ (rvalid_c _ _ _ _ _ _ _) ?_)
  ((conv => whnf); (repeat ((first | refine VrN.norm (wrap_i64 (by omega)) ?_ | refine VrN.keep ?_ | refine Nd.mk (by kernel_rfl) ?_ | refine Nd.mk (by omega) ?_ | refine RdN.intro _ rfl (by kernel_rfl) ?_); (conv => whnf)))); refine brd_not (brd_intro (fun hva => ?_) (fun hva => ?_))
  · (((conv => whnf); (repeat ((first | refine VrN.norm (wrap_i64 (by omega)) ?_ | refine VrN.keep ?_ | refine Nd.mk (by kernel_rfl) ?_ | refine Nd.mk (by omega) ?_ | refine RdN.intro _ rfl (by kernel_rfl) ?_); (conv => whnf)))); first | refine call1 (rvalid_c _ _ _ _ _ _ _) ?_ | refine callQ (rvalid_c _ _ _ _ _ _ _) ?_)
    ((conv => whnf); (repeat ((first | refine VrN.norm (wrap_i64 (by omega)) ?_ | refine VrN.keep ?_ | refine Nd.mk (by kernel_rfl) ?_ | refine Nd.mk (by omega) ?_ | refine RdN.intro _ rfl (by kernel_rfl) ?_); (conv => whnf)))); refine brd_not (brd_intro (fun hvb => ?_) (fun hvb => ?_))
    · have hgt := hno hva hvb
      rw [Cal.validB, decide_eq_true_eq, Cal.validP] at hva hvb
      have hla := Cal.mlen_pos y m
      have hlb := Cal.mlen_pos y' m'
      (((conv => whnf); (repeat ((first | refine VrN.norm (wrap_i64 (by omega)) ?_ | refine VrN.keep ?_ | refine Nd.mk (by kernel_rfl) ?_ | refine Nd.mk (by omega) ?_ | refine RdN.intro _ rfl (by kernel_rfl) ?_); (conv => whnf)))); first | refine call1 (rseconds_c y m d k i s (by omega) (by omega) (by omega) (by omega) (by omega) (by omega) (by omega) _) ?_ | refine callQ (rseconds_c y m d k i s (by omega) (by omega) (by omega) (by omega) (by omega) (by omega) (by omega) _) ?_)
      (((conv => whnf); (repeat ((first | refine VrN.norm (wrap_i64 (by omega)) ?_ | refine VrN.keep ?_ | refine Nd.mk (by kernel_rfl) ?_ | refine Nd.mk (by omega) ?_ | refine RdN.intro _ rfl (by kernel_rfl) ?_); (conv => whnf)))); first | refine call1 (rseconds_c y' m' d' k' i' s' (by omega) (by omega) (by omega) (by omega) (by omega) (by omega) (by omega) _) ?_ | refine callQ (rseconds_c y' m' d' k' i' s' (by omega) (by omega) (by omega) (by omega) (by omega) (by omega) (by omega) _) ?_)
      ((conv => whnf); (repeat ((first | refine VrN.norm (wrap_i64 (by omega)) ?_ | refine VrN.keep ?_ | refine Nd.mk (by kernel_rfl) ?_ | refine Nd.mk (by omega) ?_ | refine RdN.intro _ rfl (by kernel_rfl) ?_); (conv => whnf))))
      refine brd_dec (fun _ => ?_) (fun h => absurd hgt h)
      ((conv => whnf); (repeat ((first | refine VrN.norm (wrap_i64 (by omega)) ?_ | refine VrN.keep ?_ | refine Nd.mk (by kernel_rfl) ?_ | refine Nd.mk (by omega) ?_ | refine RdN.intro _ rfl (by kernel_rfl) ?_); (conv => whnf))))
      rfl
    · ((conv => whnf); (repeat ((first | refine VrN.norm (wrap_i64 (by omega)) ?_ | refine VrN.keep ?_ | refine Nd.mk (by kernel_rfl) ?_ | refine Nd.mk (by omega) ?_ | refine RdN.intro _ rfl (by kernel_rfl) ?_); (conv => whnf))))
      rfl
  · ((conv => whnf); (repeat ((first | refine VrN.norm (wrap_i64 (by omega)) ?_ | refine VrN.keep ?_ | refine Nd.mk (by kernel_rfl) ?_ | refine Nd.mk (by omega) ?_ | refine RdN.intro _ rfl (by kernel_rfl) ?_); (conv => whnf))))
    rfl
end Go.Proofs.Ytnecdpkmmncfaaa
