/-
  Contracts of Between, the program's and the document's.
-/
import Derived.Test.YtnecdpkmmncfaaaC12
import Derived.Test.YtnecdpkmmncfaaaP3
namespace Go.Proofs.Ytnecdpkmmncfaaa
open Go.AX
set_option maxRecDepth 20000

def btw (a b c e : Int) : Value := .tuple #[.int .i64 a, .int .i64 b, .int .i64 c, .int .i64 e]

theorem out_btw {a b c e a' b' c' : Int} (h1 : a = a') (h2 : b = b') (h3 : c = c') : Out.val (.c (.v (btw a b c e))) = Out.val (.c (.v (btw a' b' c' e))) := by rw [h1, h2, h3]

theorem Between_ok {y m d k i s y' m' d' k' i' s' : Int} (t : Cal.Two y m d k i s y' m' d' k' i' s') : ∀ H, SpecH Try.prog 47 (pvs [dt y m d k i s, dt y' m' d' k' i' s']) H
    (Ret (btw (Cal.mons y m d k i s y' m' d' k' i' s' / 12) (Cal.mons y m d k i s y' m' d' k' i' s' % 12) ((Cal.secs y' m' d' k' i' s' - Cal.lsecs y m d k i s (Cal.mons y m d k i s y' m' d' k' i' s')) / 86400) 0) H) := by
  refine pureC hm Try.func47 (by kernel_rfl) rfl rfl ?_
  have hva : Cal.validB y m d k i s = true := by rw [Cal.validB]; exact decide_eq_true t.a
  have hvb : Cal.validB y' m' d' k' i' s' = true := by rw [Cal.validB]; exact decide_eq_true t.b
  have ha := t.a
  have hb := t.b
  unfold Cal.validP at ha hb
  have v1 := valid_c y m d k i s
  have v2 := valid_c y' m' d' k' i' s'
  rw [hva] at v1
  rw [hvb] at v2
  (((conv => whnf); (repeat ((first | refine VrN.norm (wrap_i64 (by omega)) ?_ | refine VrN.keep ?_ | refine Nd.mk (by kernel_rfl) ?_ | refine Nd.mk (by omega) ?_ | refine RdN.intro _ rfl (by kernel_rfl) ?_); (conv => whnf)))); first | refine call1 (v1 _) ?_ | refine callQ (v1 _) ?_)
  (((conv => whnf); (repeat ((first | refine VrN.norm (wrap_i64 (by omega)) ?_ | refine VrN.keep ?_ | refine Nd.mk (by kernel_rfl) ?_ | refine Nd.mk (by omega) ?_ | refine RdN.intro _ rfl (by kernel_rfl) ?_); (conv => whnf)))); first | refine call1 (v2 _) ?_ | refine callQ (v2 _) ?_)
  have hla := Cal.mlen_pos y m
  have hlb := Cal.mlen_pos y' m'
  have s1 := seconds_c y m d k i s (by omega) (by omega) (by omega) (by omega) (by omega) (by omega) (by omega)
  have s2 := seconds_c y' m' d' k' i' s' (by omega) (by omega) (by omega) (by omega) (by omega) (by omega) (by omega)
  (((conv => whnf); (repeat ((first | refine VrN.norm (wrap_i64 (by omega)) ?_ | refine VrN.keep ?_ | refine Nd.mk (by kernel_rfl) ?_ | refine Nd.mk (by omega) ?_ | refine RdN.intro _ rfl (by kernel_rfl) ?_); (conv => whnf)))); first | refine call1 (s1 _) ?_ | refine callQ (s1 _) ?_)
  (((conv => whnf); (repeat ((first | refine VrN.norm (wrap_i64 (by omega)) ?_ | refine VrN.keep ?_ | refine Nd.mk (by kernel_rfl) ?_ | refine Nd.mk (by omega) ?_ | refine RdN.intro _ rfl (by kernel_rfl) ?_); (conv => whnf)))); first | refine call1 (s2 _) ?_ | refine callQ (s2 _) ?_)
  have hle := t.le
  ((conv => whnf); (repeat ((first | refine VrN.norm (wrap_i64 (by omega)) ?_ | refine VrN.keep ?_ | refine Nd.mk (by kernel_rfl) ?_ | refine Nd.mk (by omega) ?_ | refine RdN.intro _ rfl (by kernel_rfl) ?_); (conv => whnf))))
  refine brd_dec (fun h => absurd h (by omega)) (fun _ => ?_)
  ((conv => whnf); (repeat ((first | refine Nd.mk (by kernel_rfl) ?_ | refine Nd.mk (by omega) ?_ | refine RdN.intro _ rfl (by kernel_rfl) ?_); (conv => whnf))))
  refine vr_name fun n hn => ?_
  simp (disch := omega) only [wrap_i64] at hn
  have hidx := t.idx
  (((conv => whnf); (repeat ((first | refine VrN.norm (wrap_i64 (by omega)) ?_ | refine VrN.keep ?_ | refine Nd.mk (by kernel_rfl) ?_ | refine Nd.mk (by omega) ?_ | refine RdN.intro _ rfl (by kernel_rfl) ?_); (conv => whnf)))); first | refine call1 (later_c y m d k i s n (by omega) (by omega) (by omega) _) ?_ | refine callQ (later_c y m d k i s n (by omega) (by omega) (by omega) _) ?_)
  have hlm := Cal.lm_bd y m n
  have hld := Cal.ld_bd y m d n (by omega)
  have hly := Cal.later_idx y m n
  have s3 := seconds_c (Cal.ly y m n) (Cal.lm y m n) (Cal.ld y m d n) k i s (by omega) (by omega) (by omega) (by omega) (by omega) (by omega) (by omega)
  (((conv => whnf); (repeat ((first | refine VrN.norm (wrap_i64 (by omega)) ?_ | refine VrN.keep ?_ | refine Nd.mk (by kernel_rfl) ?_ | refine Nd.mk (by omega) ?_ | refine RdN.intro _ rfl (by kernel_rfl) ?_); (conv => whnf)))); first | refine call1 (s3 _) ?_ | refine callQ (s3 _) ?_)
  (((conv => whnf); (repeat ((first | refine VrN.norm (wrap_i64 (by omega)) ?_ | refine VrN.keep ?_ | refine Nd.mk (by kernel_rfl) ?_ | refine Nd.mk (by omega) ?_ | refine RdN.intro _ rfl (by kernel_rfl) ?_); (conv => whnf)))); first | refine call1 (s2 _) ?_ | refine callQ (s2 _) ?_)
  (((conv => whnf); (repeat ((first | refine VrN.norm (wrap_i64 (by omega)) ?_ | refine VrN.keep ?_ | refine Nd.mk (by kernel_rfl) ?_ | refine Nd.mk (by omega) ?_ | refine RdN.intro _ rfl (by kernel_rfl) ?_); (conv => whnf)))); first | refine call1 (Compare_c _ _ _) ?_ | refine callQ (Compare_c _ _ _) ?_)
  have hM : Cal.mons y m d k i s y' m' d' k' i' s' = if Cal.secs y' m' d' k' i' s' < Cal.lsecs y m d k i s n then n - 1 else n := by rw [hn]; rfl
  have hbd := t.mons_bd
  have hmle := t.mons_le
  have hls : ∀ q, Cal.secs (Cal.ly y m q) (Cal.lm y m q) (Cal.ld y m d q) k i s = Cal.lsecs y m d k i s q := fun _ => rfl
  rw [hls]
  have fin : ∀ q : Int, q = Cal.mons y m d k i s y' m' d' k' i' s' → ∀ H, SpecH Try.prog 53 (pvs [dt y m d k i s, .int .i64 q]) H (Ret (dt (Cal.ly y m q) (Cal.lm y m q) (Cal.ld y m d q) k i s) H) := fun q hq =>
    later_c y m d k i s q (by omega) (by omega) (by omega)
  by_cases hc : Cal.secs y' m' d' k' i' s' < Cal.lsecs y m d k i s n
  · rw [if_pos hc] at hM
    rw [if_neg (by omega), if_pos hc]
    ((conv => whnf); (repeat ((first | refine Nd.mk (by kernel_rfl) ?_ | refine Nd.mk (by omega) ?_ | refine RdN.intro _ rfl (by kernel_rfl) ?_); (conv => whnf))))
    refine vr_name fun q hq => ?_
    rw [wrap_i64 (by omega), ← hM] at hq
    clear s3 hlm hld hly
    (((conv => whnf); (repeat ((first | refine VrN.norm (wrap_i64 (by omega)) ?_ | refine VrN.keep ?_ | refine Nd.mk (by kernel_rfl) ?_ | refine Nd.mk (by omega) ?_ | refine RdN.intro _ rfl (by kernel_rfl) ?_); (conv => whnf)))); first | refine call1 (s2 _) ?_ | refine callQ (s2 _) ?_)
    (((conv => whnf); (repeat ((first | refine VrN.norm (wrap_i64 (by omega)) ?_ | refine VrN.keep ?_ | refine Nd.mk (by kernel_rfl) ?_ | refine Nd.mk (by omega) ?_ | refine RdN.intro _ rfl (by kernel_rfl) ?_); (conv => whnf)))); first | refine call1 (fin q hq _) ?_ | refine callQ (fin q hq _) ?_)
    have hlm := Cal.lm_bd y m q
    have hld := Cal.ld_bd y m d q (by omega)
    have hly := Cal.later_idx y m q
    have s4 := seconds_c (Cal.ly y m q) (Cal.lm y m q) (Cal.ld y m d q) k i s (by omega) (by omega) (by omega) (by omega) (by omega) (by omega) (by omega)
    (((conv => whnf); (repeat ((first | refine VrN.norm (wrap_i64 (by omega)) ?_ | refine VrN.keep ?_ | refine Nd.mk (by kernel_rfl) ?_ | refine Nd.mk (by omega) ?_ | refine RdN.intro _ rfl (by kernel_rfl) ?_); (conv => whnf)))); first | refine call1 (s4 _) ?_ | refine callQ (s4 _) ?_)
    rw [hls]
    rw [← hq] at hmle hbd ⊢
    have hsb : -4000000000000 ≤ Cal.secs y' m' d' k' i' s' ∧ Cal.secs y' m' d' k' i' s' ≤ 4000000000000 := by have := Cal.dn_bd y' m' d' (by omega) (by omega); unfold Cal.secs; omega
    have hla : -4000000000000 ≤ Cal.lsecs y m d k i s q := by have := Cal.dn_bd (Cal.ly y m q) (Cal.lm y m q) (Cal.ld y m d q) (by omega) (by omega); unfold Cal.lsecs Cal.secs; omega
    ((conv => whnf); (repeat ((first | refine VrN.norm (wrap_i64 (by omega)) ?_ | refine VrN.keep ?_ | refine Nd.mk (by kernel_rfl) ?_ | refine Nd.mk (by omega) ?_ | refine RdN.intro _ rfl (by kernel_rfl) ?_); (conv => whnf))))
    refine out_btw ?_ ?_ ?_
    all_goals (simp (disch := omega) only [wrap_i64, Int.tdiv_eq_ediv_of_nonneg, Int.tmod_eq_emod_of_nonneg])
  · rw [if_neg hc] at hM
    clear s3 hlm hld hly
    have hq := hM.symm
    have hv : (if Cal.lsecs y m d k i s n < Cal.secs y' m' d' k' i' s' then (-1 : Int) else if Cal.lsecs y m d k i s n > Cal.secs y' m' d' k' i' s' then 1 else 0) ≤ 0 := by split <;> (try split) <;> omega
    ((conv => whnf); (repeat ((first | refine Nd.mk (by kernel_rfl) ?_ | refine Nd.mk (by omega) ?_ | refine RdN.intro _ rfl (by kernel_rfl) ?_); (conv => whnf))))
    refine brd_dec (fun h => absurd h (by omega)) (fun _ => ?_)
    (((conv => whnf); (repeat ((first | refine VrN.norm (wrap_i64 (by omega)) ?_ | refine VrN.keep ?_ | refine Nd.mk (by kernel_rfl) ?_ | refine Nd.mk (by omega) ?_ | refine RdN.intro _ rfl (by kernel_rfl) ?_); (conv => whnf)))); first | refine call1 (s2 _) ?_ | refine callQ (s2 _) ?_)
    (((conv => whnf); (repeat ((first | refine VrN.norm (wrap_i64 (by omega)) ?_ | refine VrN.keep ?_ | refine Nd.mk (by kernel_rfl) ?_ | refine Nd.mk (by omega) ?_ | refine RdN.intro _ rfl (by kernel_rfl) ?_); (conv => whnf)))); first | refine call1 (fin n hq _) ?_ | refine callQ (fin n hq _) ?_)
    have hlm := Cal.lm_bd y m n
    have hld := Cal.ld_bd y m d n (by omega)
    have hly := Cal.later_idx y m n
    have s4 := seconds_c (Cal.ly y m n) (Cal.lm y m n) (Cal.ld y m d n) k i s (by omega) (by omega) (by omega) (by omega) (by omega) (by omega) (by omega)
    (((conv => whnf); (repeat ((first | refine VrN.norm (wrap_i64 (by omega)) ?_ | refine VrN.keep ?_ | refine Nd.mk (by kernel_rfl) ?_ | refine Nd.mk (by omega) ?_ | refine RdN.intro _ rfl (by kernel_rfl) ?_); (conv => whnf)))); first | refine call1 (s4 _) ?_ | refine callQ (s4 _) ?_)
    rw [hls]
    rw [← hq] at hmle hbd ⊢
    have hsb : -4000000000000 ≤ Cal.secs y' m' d' k' i' s' ∧ Cal.secs y' m' d' k' i' s' ≤ 4000000000000 := by have := Cal.dn_bd y' m' d' (by omega) (by omega); unfold Cal.secs; omega
    have hla : -4000000000000 ≤ Cal.lsecs y m d k i s n := by have := Cal.dn_bd (Cal.ly y m n) (Cal.lm y m n) (Cal.ld y m d n) (by omega) (by omega); unfold Cal.lsecs Cal.secs; omega
    ((conv => whnf); (repeat ((first | refine VrN.norm (wrap_i64 (by omega)) ?_ | refine VrN.keep ?_ | refine Nd.mk (by kernel_rfl) ?_ | refine Nd.mk (by omega) ?_ | refine RdN.intro _ rfl (by kernel_rfl) ?_); (conv => whnf))))
    refine out_btw ?_ ?_ ?_
    all_goals (simp (disch := omega) only [wrap_i64, Int.tdiv_eq_ediv_of_nonneg, Int.tmod_eq_emod_of_nonneg])

theorem btw_no {y m d k i s y' m' d' k' i' s' : Int} (t : ¬ Cal.Two y m d k i s y' m' d' k' i' s') : Cal.validB y m d k i s = true → Cal.validB y' m' d' k' i' s' = true → Cal.secs y m d k i s > Cal.secs y' m' d' k' i' s' := by
  intro a b
  rw [Cal.validB, decide_eq_true_eq] at a b
  apply Classical.byContradiction
  intro c
  exact t ⟨a, b, by omega⟩

theorem Between_no {y m d k i s y' m' d' k' i' s' : Int} (t : ¬ Cal.Two y m d k i s y' m' d' k' i' s') : ∀ H, SpecH Try.prog 47 (pvs [dt y m d k i s, dt y' m' d' k' i' s']) H (Ret (btw 0 0 0 1) H) := by
  refine pureC hm Try.func47 (by kernel_rfl) rfl rfl ?_
  have hno := btw_no t
  (((conv => whnf); (repeat ((first | refine VrN.norm (wrap_i64 (by omega)) ?_ | refine VrN.keep ?_ | refine Nd.mk (by kernel_rfl) ?_ | refine Nd.mk (by omega) ?_ | refine RdN.intro _ rfl (by kernel_rfl) ?_); (conv => whnf)))); first | refine call1 (valid_c _ _ _ _ _ _ _) ?_ | refine callQ (valid_c _ _ _ _ _ _ _) ?_)
  ((conv => whnf); (repeat ((first | refine VrN.norm (wrap_i64 (by omega)) ?_ | refine VrN.keep ?_ | refine Nd.mk (by kernel_rfl) ?_ | refine Nd.mk (by omega) ?_ | refine RdN.intro _ rfl (by kernel_rfl) ?_); (conv => whnf)))); refine brd_not (brd_intro (fun hva => ?_) (fun hva => ?_))
  · (((conv => whnf); (repeat ((first | refine VrN.norm (wrap_i64 (by omega)) ?_ | refine VrN.keep ?_ | refine Nd.mk (by kernel_rfl) ?_ | refine Nd.mk (by omega) ?_ | refine RdN.intro _ rfl (by kernel_rfl) ?_); (conv => whnf)))); first | refine call1 (valid_c _ _ _ _ _ _ _) ?_ | refine callQ (valid_c _ _ _ _ _ _ _) ?_)
    ((conv => whnf); (repeat ((first | refine VrN.norm (wrap_i64 (by omega)) ?_ | refine VrN.keep ?_ | refine Nd.mk (by kernel_rfl) ?_ | refine Nd.mk (by omega) ?_ | refine RdN.intro _ rfl (by kernel_rfl) ?_); (conv => whnf)))); refine brd_not (brd_intro (fun hvb => ?_) (fun hvb => ?_))
    · have hgt := hno hva hvb
      rw [Cal.validB, decide_eq_true_eq, Cal.validP] at hva hvb
      have hla := Cal.mlen_pos y m
      have hlb := Cal.mlen_pos y' m'
      (((conv => whnf); (repeat ((first | refine VrN.norm (wrap_i64 (by omega)) ?_ | refine VrN.keep ?_ | refine Nd.mk (by kernel_rfl) ?_ | refine Nd.mk (by omega) ?_ | refine RdN.intro _ rfl (by kernel_rfl) ?_); (conv => whnf)))); first | refine call1 (seconds_c y m d k i s (by omega) (by omega) (by omega) (by omega) (by omega) (by omega) (by omega) _) ?_ | refine callQ (seconds_c y m d k i s (by omega) (by omega) (by omega) (by omega) (by omega) (by omega) (by omega) _) ?_)
      (((conv => whnf); (repeat ((first | refine VrN.norm (wrap_i64 (by omega)) ?_ | refine VrN.keep ?_ | refine Nd.mk (by kernel_rfl) ?_ | refine Nd.mk (by omega) ?_ | refine RdN.intro _ rfl (by kernel_rfl) ?_); (conv => whnf)))); first | refine call1 (seconds_c y' m' d' k' i' s' (by omega) (by omega) (by omega) (by omega) (by omega) (by omega) (by omega) _) ?_ | refine callQ (seconds_c y' m' d' k' i' s' (by omega) (by omega) (by omega) (by omega) (by omega) (by omega) (by omega) _) ?_)
      ((conv => whnf); (repeat ((first | refine VrN.norm (wrap_i64 (by omega)) ?_ | refine VrN.keep ?_ | refine Nd.mk (by kernel_rfl) ?_ | refine Nd.mk (by omega) ?_ | refine RdN.intro _ rfl (by kernel_rfl) ?_); (conv => whnf))))
      refine brd_dec (fun _ => ?_) (fun h => absurd hgt h)
      ((conv => whnf); (repeat ((first | refine VrN.norm (wrap_i64 (by omega)) ?_ | refine VrN.keep ?_ | refine Nd.mk (by kernel_rfl) ?_ | refine Nd.mk (by omega) ?_ | refine RdN.intro _ rfl (by kernel_rfl) ?_); (conv => whnf))))
      rfl
    · ((conv => whnf); (repeat ((first | refine VrN.norm (wrap_i64 (by omega)) ?_ | refine VrN.keep ?_ | refine Nd.mk (by kernel_rfl) ?_ | refine Nd.mk (by omega) ?_ | refine RdN.intro _ rfl (by kernel_rfl) ?_); (conv => whnf))))
      rfl
  · ((conv => whnf); (repeat ((first | refine VrN.norm (wrap_i64 (by omega)) ?_ | refine VrN.keep ?_ | refine Nd.mk (by kernel_rfl) ?_ | refine Nd.mk (by omega) ?_ | refine RdN.intro _ rfl (by kernel_rfl) ?_); (conv => whnf))))
    rfl
end Go.Proofs.Ytnecdpkmmncfaaa
