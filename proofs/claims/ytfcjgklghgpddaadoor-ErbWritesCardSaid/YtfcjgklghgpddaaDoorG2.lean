/-
  Plain Lean: the reader of templates without fuel.
-/
import Derived.Test.YtfcjgklghgpddaaDoorG1
namespace Go.Erb

theorem tg_fuel : ∀ (n f g : Nat) (pre r acc : B), r.length ≤ n → r.length < f → r.length < g → tg f pre r acc = tg g pre r acc
  | _, 0, _, _, _, _, _, h, _ => absurd h (Nat.not_lt_zero _)
  | _, _ + 1, 0, _, _, _, _, _, h => absurd h (Nat.not_lt_zero _)
  | _, _ + 1, _ + 1, _, [], _, _, _, _ => rfl
  | 0, _ + 1, _ + 1, _, _ :: _, _, h, _, _ => by simp at h
  | n + 1, f + 1, g + 1, pre, c :: r, acc, hn, hf, hg => by
    have ih := fun pre' r' acc' (h : r'.length ≤ r.length) => tg_fuel n f g pre' r' acc' (by simp at hn; omega) (by simp at hf; omega) (by simp at hg; omega)
    unfold tg
    rw [ih _ ((c :: r).drop 3) _ (by simp), ih _ r _ (Nat.le_refl _)]
def tgN (pre r acc : B) : Option (B × B × B) := tg (r.length + 1) pre r acc
theorem tgN_nil (pre acc : B) : tgN pre [] acc = none := rfl
theorem tgN_cons (pre : B) (c : UInt8) (r acc : B) : tgN pre (c :: r) acc =
    if [37, 37, 62].isPrefixOf (c :: r) then tgN (pre ++ (c :: r).take 3) ((c :: r).drop 3) (acc ++ [37, 62])
    else if [45, 37, 62].isPrefixOf (c :: r) then
      if [10].isPrefixOf ((c :: r).drop 3) then some (pre ++ (c :: r).take 4, (c :: r).drop 4, acc) else some (pre ++ (c :: r).take 3, (c :: r).drop 3, acc)
    else if [37, 62].isPrefixOf (c :: r) then some (pre ++ (c :: r).take 2, (c :: r).drop 2, acc)
    else tgN (pre ++ [c]) r (acc ++ [c]) := by
  have F : ∀ pre' r' acc', r'.length ≤ r.length → tg (c :: r).length pre' r' acc' = tgN pre' r' acc' := fun pre' r' acc' h => tg_fuel _ _ _ _ _ _ (Nat.le_refl _) (by simp; omega) (by omega)
  show tg ((c :: r).length + 1) pre (c :: r) acc = _
  rw [show tg ((c :: r).length + 1) pre (c :: r) acc = _ by unfold tg; rfl]
  rw [F _ ((c :: r).drop 3) _ (by simp), F _ r _ (Nat.le_refl _)]
theorem tg_out : ∀ (f : Nat) (pre r acc p' r' c' : B), tg f pre r acc = some (p', r', c') → r'.length < r.length ∧ ∃ x, r = x ++ r' ∧ p' = pre ++ x
  | 0, _, _, _, _, _, _, h => by simp [tg] at h
  | f + 1, _, [], _, _, _, _, h => by simp [tg] at h
  | f + 1, pre, c :: r, acc, p', r', c', h => by
    unfold tg at h
    split at h
    · obtain ⟨h1, x, h2, h3⟩ := tg_out f _ _ _ _ _ _ h
      refine ⟨by simp at h1 ⊢; omega, (c :: r).take 3 ++ x, ?_, by rw [h3, List.append_assoc]⟩
      rw [List.append_assoc, ← h2, List.take_append_drop]
    split at h
    · split at h
      · cases h
        exact ⟨by simp; omega, (c :: r).take 4, (List.take_append_drop 4 _).symm, rfl⟩
      · cases h
        exact ⟨by simp; omega, (c :: r).take 3, (List.take_append_drop 3 _).symm, rfl⟩
    split at h
    · cases h
      exact ⟨by simp; omega, (c :: r).take 2, (List.take_append_drop 2 _).symm, rfl⟩
    · obtain ⟨h1, x, h2, h3⟩ := tg_out f _ _ _ _ _ _ h
      exact ⟨by simp; omega, c :: x, by rw [h2]; rfl, by rw [h3]; simp⟩
theorem rd_fuel (lines : Bool) : ∀ (n f g : Nat) (pre r t fp : B) (out : List Part), r.length ≤ n → r.length < f → r.length < g → rd lines f pre r t fp out = rd lines g pre r t fp out
  | _, 0, _, _, _, _, _, _, _, h, _ => absurd h (Nat.not_lt_zero _)
  | _, _ + 1, 0, _, _, _, _, _, _, _, h => absurd h (Nat.not_lt_zero _)
  | _, _ + 1, _ + 1, _, [], _, _, _, _, _, _ => rfl
  | 0, _ + 1, _ + 1, _, _ :: _, _, _, _, h, _, _ => by simp at h
  | n + 1, f + 1, g + 1, pre, c :: r, t, fp, out, hn, hf, hg => by
    have ih := fun pre' r' t' fp' out' (h : r'.length ≤ r.length) => rd_fuel lines n f g pre' r' t' fp' out' (by simp at hn; omega) (by simp at hf; omega) (by simp at hg; omega)
    unfold rd
    rw [ih _ ((c :: r).drop 2) _ _ _ (by simp), ih _ ((c :: r).drop 3) _ _ _ (by simp), ih _ r _ _ _ (Nat.le_refl _)]
    rw [ih _ ((c :: r).drop (1 + (r.takeWhile (· != 10)).length + 1)) _ _ _ (by simp)]
    cases ht : tg ((c :: r).length + 1) (pre ++ (c :: r).take (2 + (opn ((c :: r).drop 2)).2.2)) ((c :: r).drop (2 + (opn ((c :: r).drop 2)).2.2)) [] with
    | none => rfl
    | some x =>
      obtain ⟨p', r', c'⟩ := x
      have := (tg_out _ _ _ _ _ _ _ ht).1
      simp only
      rw [ih _ r' _ _ _ (by simp at this; omega)]
def rdN (lines : Bool) (pre r t fp : B) (out : List Part) : Except Int (List Part) := rd lines (r.length + 1) pre r t fp out
theorem rdN_nil (lines : Bool) (pre t fp : B) (out : List Part) : rdN lines pre [] t fp out = .ok (close t fp out) := rfl
theorem rdN_cons (lines : Bool) (pre : B) (c : UInt8) (r t fp : B) (out : List Part) : rdN lines pre (c :: r) t fp out =
    if lines && bol pre && [37, 37].isPrefixOf (c :: r) then rdN lines (pre ++ (c :: r).take 2) ((c :: r).drop 2) (t ++ [37]) (fpOf t fp pre) out
    else if lines && bol pre && c == 37 then
      rdN lines (pre ++ (c :: r).take (1 + (r.takeWhile (· != 10)).length + 1)) ((c :: r).drop (1 + (r.takeWhile (· != 10)).length + 1)) [] fp (close t fp out ++ [⟨1, ln pre, r.takeWhile (· != 10)⟩])
    else if [60, 37, 37].isPrefixOf (c :: r) then rdN lines (pre ++ (c :: r).take 3) ((c :: r).drop 3) (t ++ [60, 37]) (fpOf t fp pre) out
    else if [60, 37].isPrefixOf (c :: r) then
      match tgN (pre ++ (c :: r).take (2 + (opn ((c :: r).drop 2)).2.2)) ((c :: r).drop (2 + (opn ((c :: r).drop 2)).2.2)) [] with
      | none => .error (ln pre)
      | some (pre', r', code) => rdN lines pre' r' [] fp (close (if (opn ((c :: r).drop 2)).2.1 then trim t fp else t) fp out ++ [⟨(opn ((c :: r).drop 2)).1, ln pre, code⟩])
    else rdN lines (pre ++ [c]) r (t ++ [c]) (fpOf t fp pre) out := by
  have F : ∀ pre' r' t' fp' out', r'.length ≤ r.length → rd lines (c :: r).length pre' r' t' fp' out' = rdN lines pre' r' t' fp' out' := fun pre' r' t' fp' out' h => rd_fuel lines _ _ _ _ _ _ _ _ (Nat.le_refl _) (by simp; omega) (by omega)
  show rd lines ((c :: r).length + 1) pre (c :: r) t fp out = _
  rw [show rd lines ((c :: r).length + 1) pre (c :: r) t fp out = _ by unfold rd; rfl]
  rw [F _ ((c :: r).drop 2) _ _ _ (by simp), F _ ((c :: r).drop 3) _ _ _ (by simp), F _ r _ _ _ (Nat.le_refl _), F _ ((c :: r).drop (1 + (r.takeWhile (· != 10)).length + 1)) _ _ _ (by simp)]
  have h0 : tg ((c :: r).length + 1) (pre ++ (c :: r).take (2 + (opn ((c :: r).drop 2)).2.2)) ((c :: r).drop (2 + (opn ((c :: r).drop 2)).2.2)) [] = tgN (pre ++ (c :: r).take (2 + (opn ((c :: r).drop 2)).2.2)) ((c :: r).drop (2 + (opn ((c :: r).drop 2)).2.2)) [] :=
    tg_fuel _ _ _ _ _ _ (Nat.le_refl _) (by simp; omega) (by omega)
  rw [h0]
  cases ht : tgN (pre ++ (c :: r).take (2 + (opn ((c :: r).drop 2)).2.2)) ((c :: r).drop (2 + (opn ((c :: r).drop 2)).2.2)) [] with
  | none => rfl
  | some x =>
    obtain ⟨p', r', c'⟩ := x
    have := (tg_out _ _ _ _ _ _ _ ht).1
    simp only
    rw [F _ r' _ _ _ (by simp at this; omega)]

/-- Escaped. -/
def esc : B → B
  | [] => []
  | c :: r => if [60, 37].isPrefixOf (c :: r) then 60 :: 37 :: 37 :: esc (r.drop 1) else c :: esc r
termination_by s => s.length
theorem esc_head (c : UInt8) (r : B) : [c].isPrefixOf (esc r) = [c].isPrefixOf r := by
  cases r with
  | nil => simp [esc]
  | cons d r =>
    unfold esc
    split
    · rename_i h
      have : d = 60 := by
        cases r <;> simp [List.isPrefixOf] at h
        exact h.1.symm
      subst this
      simp [List.isPrefixOf]
    · simp [List.isPrefixOf]
theorem rd_esc : ∀ (n : Nat) (s pre t fp : B) (out : List Part), s.length ≤ n → rdN false pre (esc s) t fp out = .ok (close (t ++ s) (if s.isEmpty then fp else fpOf t fp pre) out)
  | _, [], pre, t, fp, out, _ => by simp [esc, rdN_nil]
  | 0, _ :: _, _, _, _, _, h => by simp at h
  | n + 1, c :: r, pre, t, fp, out, hn => by
    unfold esc
    split
    · rename_i h
      obtain ⟨r', hr⟩ : ∃ r', r = 37 :: r' := by
        cases r with
        | nil => simp [List.isPrefixOf] at h
        | cons d r => simp [List.isPrefixOf] at h; exact ⟨r, by rw [← h.2]⟩
      subst hr
      have hc : c = 60 := by simp [List.isPrefixOf] at h; exact h.symm
      subst hc
      rw [rdN_cons]
      simp only [Bool.false_and, Bool.false_eq_true, if_false]
      rw [if_pos (by simp [List.isPrefixOf])]
      simp only [List.drop_succ_cons, List.drop_zero]
      rw [rd_esc n r' _ _ _ _ (by simp at hn; omega)]
      simp [fpOf]
    · rename_i h
      rw [rdN_cons]
      simp only [Bool.false_and, Bool.false_eq_true, if_false]
      have h1 : ¬ [60, 37].isPrefixOf (c :: esc r) = true := by
        simp only [List.isPrefixOf, Bool.and_eq_true, beq_iff_eq] at h ⊢
        rintro ⟨h2, h3⟩
        refine h ⟨h2, ?_⟩
        have := esc_head 37 r
        rw [← this]
        exact h3
      have h2 : ¬ [60, 37, 37].isPrefixOf (c :: esc r) = true := fun h3 => h1 (by
        rw [List.isPrefixOf_iff_prefix] at h3 ⊢
        exact List.IsPrefix.trans ⟨[37], rfl⟩ h3)
      rw [if_neg h2, if_neg h1, rd_esc n r _ _ _ _ (by simpa using hn)]
      simp [fpOf]
end Go.Erb
