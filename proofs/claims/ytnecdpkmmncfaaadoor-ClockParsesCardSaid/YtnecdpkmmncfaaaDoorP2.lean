/-
  Go's division in plain Lean.
-/
import Derived.Test.YtnecdpkmmncfaaaDoorAx12
namespace Go.Cal
open Go.AX

theorem tdiv_val (a b : Int) : a.tdiv b = if 0 ≤ a then a / b else -((-a) / b) := by
  split
  · rename_i h; exact Int.tdiv_eq_ediv_of_nonneg h
  · rename_i h
    have h1 : (-a).tdiv b = (-a) / b := Int.tdiv_eq_ediv_of_nonneg (by omega)
    have h2 : (-a).tdiv b = -(a.tdiv b) := Int.neg_tdiv a b
    omega
theorem tmod_val (a b : Int) : a.tmod b = if 0 ≤ a then a % b else -((-a) % b) := by
  split
  · rename_i h; exact Int.tmod_eq_emod_of_nonneg h
  · rename_i h
    have h1 : (-a).tmod b = (-a) % b := Int.tmod_eq_emod_of_nonneg (by omega)
    have h2 : (-a).tmod b = -(a.tmod b) := Int.neg_tmod a b
    omega
theorem tmod_beq (y k : Int) : (y.tmod k == 0) = decide (y % k = 0) := by
  rw [Bool.eq_iff_iff]
  simp only [beq_iff_eq, decide_eq_true_eq]
  rw [← Int.dvd_iff_tmod_eq_zero, ← Int.dvd_iff_emod_eq_zero]
theorem tmod_zero (y k : Int) : y.tmod k = 0 ↔ y % k = 0 := by
  rw [← Int.dvd_iff_tmod_eq_zero, ← Int.dvd_iff_emod_eq_zero]
theorem ediv_bd (a b : Int) (ha : 0 ≤ a) (hb : 0 < b) : 0 ≤ a / b ∧ a / b ≤ a := ⟨Int.ediv_nonneg ha (by omega), Int.ediv_le_self b ha⟩
theorem tdiv_bd (a b : Int) (hb : 0 < b) : (0 ≤ a → 0 ≤ a.tdiv b ∧ a.tdiv b ≤ a) ∧ (a < 0 → a ≤ a.tdiv b ∧ a.tdiv b ≤ 0) := by
  rw [tdiv_val]
  constructor
  · intro h; rw [if_pos h]; exact ediv_bd a b h hb
  · intro h
    rw [if_neg (by omega)]
    have := ediv_bd (-a) b (by omega) hb
    omega
/-- Rounded down: Go's quotient, one less where the rest is below 0. -/
theorem down_val (a b : Int) (hb : 0 < b) : a / b = if a.tmod b < 0 then a.tdiv b - 1 else a.tdiv b := by
  have h1 := Int.mul_tdiv_add_tmod a b
  have h2 := Int.mul_ediv_add_emod a b
  have h3 := Int.emod_nonneg a (show b ≠ 0 by omega)
  have h4 := Int.emod_lt_of_pos a hb
  have key : ∀ q r : Int, b * q + r = a → 0 ≤ r → r < b → a / b = q := fun q r h5 h6 h7 => by
    have : a / b = q := by
      rw [← h5, Int.mul_comm, Int.add_comm, Int.add_mul_ediv_right _ _ (by omega), Int.ediv_eq_zero_of_lt h6 h7]; omega
    exact this
  have h5 : a.tmod b < b := Int.tmod_lt_of_pos a hb
  have h6 : -b < a.tmod b := by
    rw [tmod_val]
    split
    · have := Int.emod_nonneg a (show b ≠ 0 by omega); omega
    · have := Int.emod_lt_of_pos (-a) hb; omega
  split
  · exact key (a.tdiv b - 1) (a.tmod b + b) (by rw [Int.mul_sub]; omega) (by omega) (by omega)
  · exact key (a.tdiv b) (a.tmod b) h1 (by omega) h5
end Go.Cal
