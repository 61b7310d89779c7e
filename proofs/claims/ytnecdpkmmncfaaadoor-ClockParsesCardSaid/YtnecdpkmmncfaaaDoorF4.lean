/-
  Contract: the specification's reader of dates.
-/
import Derived.Test.YtnecdpkmmncfaaaDoorF3
namespace Go.Proofs.YtnecdpkmmncfaaaDoor
open Go.AX Go.RowKit
set_option maxRecDepth 20000

theorem form_len {t : List UInt8} (h : t.map sh = form) : t.length = 19 := by
  have := congrArg List.length h
  simpa [form] using this
theorem prs_bad {s : List UInt8} (h : ¬ okS s) : prs s = de dt0 4 := by rw [prs, if_neg h]
theorem prs_arg {s : List UInt8} (h : okS s) (hv : ¬ valS s = true) : prs s = de dt0 1 := by rw [prs, if_pos h, if_neg hv]
theorem prs_good {s : List UInt8} (h : okS s) (hv : valS s = true) : prs s = de (dtS s) 0 := by rw [prs, if_pos h, if_pos hv]
theorem bs_ext (l : List UInt8) (i j : Nat) : (bs l).extract i j = bs ((l.take j).drop i) := by
  apply ByteArray.ext
  apply Array.ext'
  simp [bs, List.extract_eq_take_drop, List.drop_take]
theorem fld_bd {t : List UInt8} (h : t.map sh = form) : (0 ≤ fld t 0 4 ∧ fld t 0 4 < 10000) ∧ digits ((t.drop 0).take 4) ∧ digits ((t.drop 5).take 2) ∧ digits ((t.drop 8).take 2) ∧ digits ((t.drop 11).take 2) ∧ digits ((t.drop 14).take 2) ∧ digits ((t.drop 17).take 2) := by
  obtain ⟨c0, c1, c2, c3, c4, c5, c6, c7, c8, c9, c10, c11, c12, c13, c14, c15, c16, c17, c18, rfl, h0, h1, h2, h3, h5, h6, h8, h9, h11, h12, h14, h15, h17, h18, _⟩ := fits_iff h
  have d4 : digits [c0, c1, c2, c3] := fun x hx => by simp at hx; rcases hx with rfl | rfl | rfl | rfl <;> assumption
  have d2 : ∀ {a b : UInt8}, dg a → dg b → digits [a, b] := fun {a b} h1 h2 x hx => by simp at hx; rcases hx with rfl | rfl <;> assumption
  refine ⟨?_, d4, d2 h5 h6, d2 h8 h9, d2 h11 h12, d2 h14 h15, d2 h17 h18⟩
  have := num_bd 4 _ rfl d4
  rw [show (10 : Int) ^ 4 = 10000 by decide] at this
  exact this
/-- Four zeros. -/
theorem zero4 {t : List UInt8} (h : t.map sh = form) : fld t 0 4 = 0 ↔ t.take 4 = [48, 48, 48, 48] := by
  have hl := form_len h
  have hd := (fld_bd h).2.1
  rw [List.drop_zero] at hd
  constructor
  · intro e
    refine num_inj 4 _ _ (by simp; omega) rfl hd (fun x hx => by simp at hx; subst hx; decide) ?_
    unfold fld at e
    rw [List.drop_zero] at e
    rw [e]; decide
  · intro e
    unfold fld
    rw [List.drop_zero, e]; decide
end Go.Proofs.YtnecdpkmmncfaaaDoor
