/-
  The text of a date in plain Lean: digits, forms, there and back.
-/
import Derived.Test.YtnecdpkmmncfaaaDoorE3
namespace Go.Proofs.YtnecdpkmmncfaaaDoor
open Go.AX Go.RowKit

def isD (c : UInt8) : Bool := decide (48 ≤ c.toNat ∧ c.toNat ≤ 57)
def sh (c : UInt8) : UInt8 := if isD c then 48 else c
def form : List UInt8 := [48, 48, 48, 48, 45, 48, 48, 45, 48, 48, 32, 48, 48, 58, 48, 48, 58, 48, 48]
def num (l : List UInt8) : Int := l.foldl (fun n c => 10 * n + ((c.toNat : Int) - 48)) 0
theorem num_snoc (l : List UInt8) (c : UInt8) : num (l ++ [c]) = 10 * num l + ((c.toNat : Int) - 48) := by simp [num]
def digits (l : List UInt8) : Prop := ∀ c ∈ l, 48 ≤ c.toNat ∧ c.toNat ≤ 57
theorem digits_snoc {l : List UInt8} {c : UInt8} : digits (l ++ [c]) ↔ digits l ∧ 48 ≤ c.toNat ∧ c.toNat ≤ 57 := by
  unfold digits
  constructor
  · exact fun h => ⟨fun x hx => h x (by simp [hx]), h c (by simp)⟩
  · rintro ⟨h1, h2⟩ x hx
    rcases List.mem_append.1 hx with hx | hx
    · exact h1 x hx
    · rw [List.mem_singleton.1 hx]; exact h2
theorem snoc_cases {α : Type} (l : List α) : l = [] ∨ ∃ m c, l = m ++ [c] := by
  rcases List.eq_nil_or_concat l with h | ⟨m, c, h⟩
  · exact .inl h
  · exact .inr ⟨m, c, by simpa using h⟩
theorem num_bd : ∀ (k : Nat) (l : List UInt8), l.length = k → digits l → 0 ≤ num l ∧ num l < 10 ^ k
  | 0, l, h, _ => by rw [List.length_eq_zero_iff.1 h]; simp [num]
  | k + 1, l, h, hd => by
    rcases snoc_cases l with rfl | ⟨m, c, rfl⟩
    · simp at h
    · rw [digits_snoc] at hd
      have := num_bd k m (by simpa using h) hd.1
      rw [num_snoc, Int.pow_succ]
      omega
theorem num_inj : ∀ (k : Nat) (l m : List UInt8), l.length = k → m.length = k → digits l → digits m → num l = num m → l = m
  | 0, l, m, h, h', _, _, _ => by rw [List.length_eq_zero_iff.1 h, List.length_eq_zero_iff.1 h']
  | k + 1, l, m, h, h', hd, hd', e => by
    rcases snoc_cases l with rfl | ⟨l, c, rfl⟩
    · simp at h
    rcases snoc_cases m with rfl | ⟨m, c', rfl⟩
    · simp at h'
    rw [digits_snoc] at hd hd'
    rw [num_snoc, num_snoc] at e
    have hc : c.toNat = c'.toNat := by omega
    rw [num_inj k l m (by simpa using h) (by simpa using h') hd.1 hd'.1 (by omega), UInt8.toNat_inj.1 hc]
theorem dig_toNat {u : Nat} (h : u < 10) : (UInt8.ofNat (48 + u)).toNat = 48 + u := by
  rw [UInt8.toNat_ofNat']; omega
theorem dec_spec (u : Nat) : digits (Lib.decDigits u) ∧ num (Lib.decDigits u) = u := by
  induction u using Nat.strongRecOn with
  | ind u ih =>
    rw [Lib.decDigits]
    by_cases h : u < 10
    · rw [dif_pos h]
      refine ⟨fun c hc => ?_, ?_⟩
      · rw [List.mem_singleton.1 hc, dig_toNat h]; omega
      · simp only [num, List.foldl_cons, List.foldl_nil, dig_toNat h]; omega
    · rw [dif_neg h]
      obtain ⟨h1, h2⟩ := ih (u / 10) (by omega)
      rw [digits_snoc, num_snoc, h2, dig_toNat (by omega)]
      exact ⟨⟨h1, by omega⟩, by omega⟩
theorem dec_len : ∀ (k u : Nat), u < 10 ^ (k + 1) → (Lib.decDigits u).length ≤ k + 1
  | 0, u, h => by rw [Lib.decDigits, dif_pos (by simpa using h)]; simp
  | k + 1, u, h => by
    rw [Lib.decDigits]
    split
    · simp
    · have := dec_len k (u / 10) (by rw [Nat.pow_succ] at h; omega)
      simp; omega
theorem rep_spec (m : Nat) (l : List UInt8) (hl : digits l) : digits (Lib.repeatL [48] m ++ l) ∧ num (Lib.repeatL [48] m ++ l) = num l := by
  induction m with
  | zero => exact ⟨by simpa [Lib.repeatL] using hl, by simp [Lib.repeatL]⟩
  | succ m ih =>
    refine ⟨fun c hc => ?_, ?_⟩
    · simp only [Lib.repeatL, List.cons_append, List.nil_append, List.mem_cons] at hc
      rcases hc with rfl | hc
      · decide
      · exact ih.1 c hc
    · simp only [Lib.repeatL, List.cons_append, List.nil_append, num, List.foldl_cons]
      exact ih.2
/-- A number of k digits. -/
theorem pad_spec (k : Nat) (n : Int) (hn : 0 ≤ n ∧ n < 10 ^ (k + 1)) : digits (padL (k + 1) (Lib.itoa n)) ∧ num (padL (k + 1) (Lib.itoa n)) = n ∧ (padL (k + 1) (Lib.itoa n)).length = k + 1 := by
  obtain ⟨u, rfl⟩ := Int.eq_ofNat_of_zero_le hn.1
  have e : Lib.itoa (u : Int) = Lib.decDigits u := Lib.itoa_nonneg u
  have hu : u < 10 ^ (k + 1) := by
    have := hn.2
    exact_mod_cast this
  rw [e, padL_len]
  obtain ⟨h1, h2⟩ := dec_spec u
  obtain ⟨h3, h4⟩ := rep_spec (k + 1 - (Lib.decDigits u).length) _ h1
  have := dec_len k u hu
  exact ⟨h3, h4.trans h2, by omega⟩
theorem pad_num (k : Nat) (l : List UInt8) (hl : l.length = k + 1) (hd : digits l) : padL (k + 1) (Lib.itoa (num l)) = l := by
  obtain ⟨h1, h2, h3⟩ := pad_spec k (num l) (num_bd (k + 1) l hl hd)
  exact num_inj (k + 1) _ _ h3 hl h1 hd h2
end Go.Proofs.YtnecdpkmmncfaaaDoor
