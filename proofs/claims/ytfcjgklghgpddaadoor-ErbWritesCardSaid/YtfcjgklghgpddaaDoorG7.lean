/-
  Contract: the program's reader: a tag.
-/
import Derived.Test.YtfcjgklghgpddaaDoorG6
namespace Go.Proofs.YtfcjgklghgpddaaDoor
open Go.AX Go.RowKit Go.Erb
set_option maxRecDepth 20000

/-- The blanks at the end of what was read are those at the end of the text so far. -/
structure Bl (pre plain fp : List UInt8) : Prop where
  ex : ∃ u c b : List UInt8, pre = u ++ b ∧ plain = c ++ b ∧ (∀ x ∈ b, blankB x = true) ∧ (∀ x, u.getLast? = some x → blankB x = false) ∧
    (c = [] → b ≠ [] → fp = u) ∧ (c ≠ [] → c.getLast? = u.getLast?)
theorem trimE_split {u b : List UInt8} (hb : ∀ x ∈ b, blankB x = true) (hu : ∀ x, u.getLast? = some x → blankB x = false) : trimE blankB (u ++ b) = u := by
  unfold trimE
  rw [List.reverse_append, List.dropWhile_append_of_pos (by simpa using hb)]
  cases hr : u.reverse with
  | nil => simpa using hr.symm
  | cons x l =>
    have hx : u.getLast? = some x := by
      have := congrArg List.head? hr
      rwa [List.head?_reverse] at this
    rw [List.dropWhile_cons_of_neg (by simp [hu x hx]), ← hr, List.reverse_reverse]
theorem trimR_eq (l : List UInt8) : trimR l = trimE blankB l := rfl
theorem lastAt_no {s : List UInt8} {c : UInt8} (h : c ∉ s) : ∀ k, lastAt s c k = -1
  | 0 => rfl
  | k + 1 => by
    unfold lastAt
    rw [if_neg (fun h2 => h (List.mem_of_getElem? h2)), lastAt_no h k]
theorem lastAt_at (x y : List UInt8) (c : UInt8) (hy : c ∉ y) : ∀ j, j ≤ y.length → lastAt (x ++ c :: y) c (x.length + 1 + j) = (x.length : Int)
  | 0, _ => by
    rw [Nat.add_zero]
    unfold lastAt
    simp
  | j + 1, hj => by
    rw [show x.length + 1 + (j + 1) = (x.length + 1 + j) + 1 by omega]
    unfold lastAt
    have : (x ++ c :: y)[x.length + 1 + j]? ≠ some c := by
      rw [List.getElem?_append_right (by omega), show x.length + 1 + j - x.length = j + 1 by omega, List.getElem?_cons_succ]
      exact fun h => hy (List.mem_of_getElem? h)
    rw [if_neg this, lastAt_at x y c hy j (by omega)]
theorem split_last (l : List UInt8) (c : UInt8) : c ∉ l ∨ ∃ x y, l = x ++ c :: y ∧ c ∉ y := by
  induction l with
  | nil => exact .inl (by simp)
  | cons d l ih =>
    rcases ih with hn | ⟨x, y, rfl, hy⟩
    · by_cases hd : d = c
      · exact .inr ⟨[], l, by rw [hd]; rfl, hn⟩
      · exact .inl (by simp; exact ⟨fun e => hd e.symm, hn⟩)
    · exact .inr ⟨d :: x, y, rfl, hy⟩
theorem dropW_nil {p : UInt8 → Bool} {l : List UInt8} : l.dropWhile p = [] ↔ ∀ x ∈ l, p x = true := by
  induction l with
  | nil => simp
  | cons d l ih =>
    by_cases hd : p d = true
    · rw [List.dropWhile_cons_of_pos hd, ih]; simp [hd]
    · rw [List.dropWhile_cons_of_neg hd]; simp [hd]
theorem allB_iff (l : List UInt8) : allB l = true ↔ ∀ x ∈ l, blankB x = true := by
  unfold allB
  rw [List.isEmpty_iff, dropW_nil]
  constructor
  · intro h x hx
    by_cases hb : blankB x = true
    · exact hb
    · -- what is no blank is kept
      have : x ∈ trimE blankB l := by
        unfold trimE
        rw [List.mem_reverse]
        have hx' : x ∈ l.reverse := by simpa using hx
        rw [← List.takeWhile_append_dropWhile (p := blankB) (l := l.reverse)] at hx'
        rcases List.mem_append.1 hx' with h1 | h1
        · exact absurd (by have := List.all_takeWhile (p := blankB) (l := l.reverse); rw [List.all_eq_true] at this; exact this x h1) hb
        · exact h1
      exact h x this
  · intro h x hx
    unfold trimE at hx
    rw [List.mem_reverse] at hx
    exact h x (by simpa using (List.dropWhile_suffix _).subset hx)
/-- The margin that the program takes away is the text trimmed. -/
theorem margin_eq {pre plain fp : List UInt8} (h : Bl pre plain fp) : ∃ f : Nat, lastAt pre 10 pre.length + 1 = f ∧ (allB (pre.drop f) = true → pre.length - f ≤ plain.length) ∧
    (if allB (pre.drop f) then plain.take (plain.length - (pre.length - f)) else plain) = trim plain fp := by
  obtain ⟨u, c, b, rfl, rfl, hb, hu, h0, h1⟩ := h.ex
  have h10b : (10 : UInt8) ∉ b := fun h => by have := hb 10 h; exact absurd this (by decide)
  -- the place where the line begins
  have hplace : ∃ f : Nat, lastAt (u ++ b) 10 (u ++ b).length + 1 = f ∧ ((∀ x ∈ (u ++ b).drop f, blankB x = true) ↔ (u = [] ∨ u.getLast? = some 10)) ∧ (u = [] ∨ u.getLast? = some 10 → f = u.length) := by
    rcases split_last u 10 with hn | ⟨x, y, rfl, hy⟩
    · refine ⟨0, by rw [lastAt_no (by simp; exact ⟨hn, h10b⟩)]; rfl, ?_, ?_⟩
      · rw [List.drop_zero]
        constructor
        · intro h
          left
          cases hl : u.getLast? with
          | none => simpa using hl
          | some z => exact absurd (h z (List.mem_append_left _ (List.mem_of_getLast? hl))) (by simp [hu z hl])
        · rintro (rfl | h)
          · simpa using hb
          · exact absurd (List.mem_of_getLast? h) hn
      · rintro (rfl | h)
        · rfl
        · exact absurd (List.mem_of_getLast? h) hn
    · have hl := lastAt_at x (y ++ b) 10 (by simp; exact ⟨hy, h10b⟩) (y ++ b).length (Nat.le_refl _)
      rw [show x ++ 10 :: (y ++ b) = x ++ 10 :: y ++ b by simp, show x.length + 1 + (y ++ b).length = (x ++ 10 :: y ++ b).length by simp; omega] at hl
      refine ⟨x.length + 1, by rw [hl]; omega, ?_, ?_⟩
      · rw [show (x ++ 10 :: y ++ b).drop (x.length + 1) = y ++ b by rw [List.append_assoc, List.drop_append]; simp]
        constructor
        · intro h
          right
          cases hyl : y.getLast? with
          | none =>
            have : y = [] := by simpa using hyl
            subst this
            simp
          | some z =>
            have hz : (x ++ 10 :: y).getLast? = some z := by
              rw [List.getLast?_append, List.getLast?_cons, hyl]; rfl
            exact absurd (h z (List.mem_append_left _ (List.mem_of_getLast? hyl))) (by simp [hu z hz])
        · rintro (h | h)
          · simp at h
          · intro z hz
            rcases List.mem_append.1 hz with hz | hz
            · cases hyl : y.getLast? with
              | none =>
                have : y = [] := by simpa using hyl
                subst this
                cases hz
              | some q =>
                have hq : (x ++ 10 :: y).getLast? = some q := by
                  rw [List.getLast?_append, List.getLast?_cons, hyl]; rfl
                rw [hq] at h
                cases h
                exact absurd (List.mem_of_getLast? hyl) hy
            · exact hb z hz
      · rintro (h | h)
        · simp at h
        · cases hyl : y.getLast? with
          | none =>
            have : y = [] := by simpa using hyl
            subst this
            simp
          | some q =>
            have hq : (x ++ 10 :: y).getLast? = some q := by
              rw [List.getLast?_append, List.getLast?_cons, hyl]; rfl
            rw [hq] at h
            cases h
            exact absurd (List.mem_of_getLast? hyl) hy
  obtain ⟨f, hf, hiff, hfu⟩ := hplace
  have hall : allB ((u ++ b).drop f) = true ↔ (u = [] ∨ u.getLast? = some 10) := (allB_iff _).trans hiff
  refine ⟨f, hf, fun h => ?_, ?_⟩
  · rw [hfu (hall.1 h)]; simp
  · -- the text, trimmed
    have hcl : ∀ x, c.getLast? = some x → blankB x = false := fun x hx => by
      have hc : c ≠ [] := fun e => by rw [e] at hx; cases hx
      exact hu x (by rw [← h1 hc]; exact hx)
    have ht : trimR (c ++ b) = c := by rw [trimR_eq]; exact trimE_split hb hcl
    unfold trim
    rw [ht]
    by_cases hA : u = [] ∨ u.getLast? = some 10
    · rw [if_pos (hall.2 hA), hfu hA]
      have e : (c ++ b).take ((c ++ b).length - ((u ++ b).length - u.length)) = c := by
        rw [show (c ++ b).length - ((u ++ b).length - u.length) = c.length by simp]
        simp
      rw [e]
      by_cases hc : c = []
      · subst hc
        by_cases hb0 : b = []
        · subst hb0; simp
        · have hfp := h0 rfl hb0
          rw [if_pos]
          simp only [List.isEmpty_nil, Bool.true_and, Bool.or_eq_true]
          left
          rw [hfp]
          rcases hA with rfl | h
          · rfl
          · simp [bol, h]
      · rw [if_pos]
        rw [Bool.or_eq_true]
        right
        rw [h1 hc]
        rcases hA with rfl | h
        · have := h1 hc; simp at this; exact absurd this hc
        · rw [h]; rfl
    · rw [if_neg (fun h => hA (hall.1 h))]
      by_cases hc : c = []
      · subst hc
        by_cases hb0 : b = []
        · subst hb0; simp
        · have hfp := h0 rfl hb0
          rw [if_neg]
          simp only [List.isEmpty_nil, Bool.true_and, List.getLast?_nil, Bool.or_eq_true, not_or]
          refine ⟨fun h => hA ?_, by decide⟩
          rw [hfp] at h
          unfold bol at h
          cases hl : u.getLast? with
          | none => left; simpa using hl
          | some z => rw [hl] at h; right; rw [beq_iff_eq.1 h]
      · rw [if_neg]
        rw [Bool.or_eq_true, not_or]
        refine ⟨by cases c <;> simp_all, fun h => hA (.inr ?_)⟩
        rw [← h1 hc]
        exact beq_iff_eq.1 h
end Go.Proofs.YtfcjgklghgpddaaDoor
