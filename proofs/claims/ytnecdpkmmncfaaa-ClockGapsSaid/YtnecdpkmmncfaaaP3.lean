/-
  Months between two dates, in plain Lean.
-/
import Derived.Test.YtnecdpkmmncfaaaP1
namespace Go.Cal

theorem idx_lt (y m d y' m' d' : Int) (h1 : 1 ≤ m) (h2 : m ≤ 12) (h3 : 1 ≤ d) (h4 : d ≤ mlen y m) (k1 : 1 ≤ m') (k2 : m' ≤ 12) (k3 : 1 ≤ d') (k4 : d' ≤ mlen y' m') (h : y * 12 + m < y' * 12 + m') : dn y m d < dn y' m' d' := by
  by_cases hy : y < y'
  · have a := dn_year y m d h1 h2 h3 h4
    have b := dn_year y' m' d' k1 k2 k3 k4
    have c := D_mono (y + 1) y' (by omega)
    omega
  · have : y = y' := by omega
    subst this
    have a := cum_succ y m h1 h2
    have b := cum_le y (m + 1) m' (by omega) (by omega) (by omega)
    unfold dn
    omega

theorem later_idx (y m n : Int) : ly y m n * 12 + lm y m n = y * 12 + m + n := by unfold ly lm lall; omega

theorem ly_eq {y m n y' m' : Int} (h1 : 1 ≤ m') (h2 : m' ≤ 12) (h : y * 12 + m + n = y' * 12 + m') : ly y m n = y' ∧ lm y m n = m' := by
  have := later_idx y m n
  have := lm_bd y m n
  omega

structure Two (y m d h i s y' m' d' h' i' s' : Int) : Prop where
  a : validP y m d h i s
  b : validP y' m' d' h' i' s'
  le : secs y m d h i s ≤ secs y' m' d' h' i' s'

section
variable {y m d h i s y' m' d' h' i' s' : Int}

theorem Two.idx (t : Two y m d h i s y' m' d' h' i' s') : y * 12 + m ≤ y' * 12 + m' := by
  obtain ⟨a, b, le⟩ := t
  unfold validP at a b
  apply Classical.byContradiction
  intro hn
  have := idx_lt y' m' d' y m d (by omega) (by omega) (by omega) (by omega) (by omega) (by omega) (by omega) (by omega) (by omega)
  unfold secs at le
  omega

/-- One month fewer is early enough. -/
theorem Two.one (t : Two y m d h i s y' m' d' h' i' s') : lsecs y m d h i s ((y' - y) * 12 + m' - m - 1) < secs y' m' d' h' i' s' := by
  have hi := t.idx
  obtain ⟨a, b, le⟩ := t
  unfold validP at a b
  have e := later_idx y m ((y' - y) * 12 + m' - m - 1)
  have e1 := lm_bd y m ((y' - y) * 12 + m' - m - 1)
  have e2 := ld_bd y m d ((y' - y) * 12 + m' - m - 1) (by omega)
  have := idx_lt _ _ _ y' m' d' e1.1 e1.2 e2.1 e2.2.2 (by omega) (by omega) (by omega) (by omega) (by omega)
  unfold lsecs secs
  omega

theorem Two.zero (t : Two y m d h i s y' m' d' h' i' s') (h0 : y * 12 + m = y' * 12 + m') : ¬ secs y' m' d' h' i' s' < lsecs y m d h i s 0 := by
  obtain ⟨a, b, le⟩ := t
  unfold validP at a b
  obtain ⟨e1, e2⟩ := ly_eq (y := y) (m := m) (n := 0) (y' := y) (m' := m) (by omega) (by omega) (by omega)
  have e3 : ld y m d 0 = d := by unfold ld; rw [e1, e2, if_neg (by omega)]
  unfold lsecs
  rw [e1, e2, e3]
  omega

theorem Two.mons_bd (t : Two y m d h i s y' m' d' h' i' s') : 0 ≤ mons y m d h i s y' m' d' h' i' s' ∧ mons y m d h i s y' m' d' h' i' s' ≤ (y' - y) * 12 + m' - m ∧ (y' - y) * 12 + m' - m - 1 ≤ mons y m d h i s y' m' d' h' i' s' := by
  have hi := t.idx
  have hz := t.zero
  unfold mons
  split
  · rename_i hlt
    by_cases h0 : y * 12 + m = y' * 12 + m'
    · exact absurd (by rw [show (y' - y) * 12 + m' - m = 0 by omega] at hlt; exact hlt) (hz h0)
    · omega
  · omega

theorem Two.mons_le (t : Two y m d h i s y' m' d' h' i' s') : lsecs y m d h i s (mons y m d h i s y' m' d' h' i' s') ≤ secs y' m' d' h' i' s' := by
  have := t.one
  unfold mons
  split <;> omega

theorem Two.days (t : Two y m d h i s y' m' d' h' i' s') : secs y' m' d' h' i' s' - lsecs y m d h i s (mons y m d h i s y' m' d' h' i' s') < 32 * 86400 := by
  have hi := t.idx
  obtain ⟨a, b, le⟩ := t
  unfold validP at a b
  obtain ⟨e1, e2⟩ := ly_eq (y := y) (m := m) (n := (y' - y) * 12 + m' - m) (y' := y') (m' := m') (by omega) (by omega) (by omega)
  have hl := mlen_pos y' m'
  unfold mons
  split
  · rename_i hlt
    have f := later_idx y m ((y' - y) * 12 + m' - m - 1)
    have f1 := lm_bd y m ((y' - y) * 12 + m' - m - 1)
    have hl2 := mlen_pos (ly y m ((y' - y) * 12 + m' - m - 1)) (lm y m ((y' - y) * 12 + m' - m - 1))
    have hd : d' ≤ d := by
      unfold lsecs secs ld at hlt
      rw [e1, e2] at hlt
      unfold dn at hlt
      split at hlt <;> omega
    -- the month before b's
    have hdn : dn (ly y m ((y' - y) * 12 + m' - m - 1)) (lm y m ((y' - y) * 12 + m' - m - 1)) (mlen (ly y m ((y' - y) * 12 + m' - m - 1)) (lm y m ((y' - y) * 12 + m' - m - 1))) + 1 = dn y' m' 1 := by
      generalize ly y m ((y' - y) * 12 + m' - m - 1) = Y at *
      generalize lm y m ((y' - y) * 12 + m' - m - 1) = M at *
      by_cases hM : M = 12
      · have hY : y' = Y + 1 := by omega
        have hm1 : m' = 1 := by omega
        subst hY hm1 hM
        have c1 := cum_succ Y 12 (by omega) (by omega)
        have c2 := cum_13 Y
        have c3 := D_succ Y
        have c4 : cum (Y + 1) 1 = 0 := rfl
        have c5 : cum Y (12 + 1) = cum Y 13 := rfl
        unfold dn
        omega
      · have hY : y' = Y := by omega
        have hm1 : m' = M + 1 := by omega
        subst hY hm1
        have c1 := cum_succ y' M (by omega) (by omega)
        unfold dn
        omega
    unfold lsecs secs ld
    split <;> (unfold dn at hdn ⊢; omega)
  · unfold lsecs secs
    rw [e1, e2]
    have := ld_bd y m d ((y' - y) * 12 + m' - m) (by omega)
    unfold dn
    omega

theorem cy_mono (a b : Int) (hab : a ≤ b) : cy a ≤ cy b := by
  apply Classical.byContradiction
  intro hn
  have c1 := civ a
  have c2 := civ b
  have d1 := dn_year (cy a) (cm a) (cd a) (by omega) (by omega) (by omega) (by omega)
  have d2 := dn_year (cy b) (cm b) (cd b) (by omega) (by omega) (by omega) (by omega)
  have := D_mono (cy b + 1) (cy a) (by omega)
  omega
end
end Go.Cal
