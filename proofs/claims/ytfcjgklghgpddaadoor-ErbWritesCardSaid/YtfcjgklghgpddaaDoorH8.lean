/-
  Contract: the law ErbBack.
-/
import Derived.Test.YtfcjgklghgpddaaDoorH7
namespace Go.Proofs.YtfcjgklghgpddaaDoor
open Go.AX Go.RowKit Go.Erb
set_option maxRecDepth 20000

/-- How much parts hold. -/
def mass (l : List Part) : Nat := (l.map fun p => 1 + p.text.length).sum
theorem mass_app (l m : List Part) : mass (l ++ m) = mass l + mass m := by simp [mass]
theorem mass_mem {l : List Part} {p : Part} (h : p ∈ l) : 1 + p.text.length ≤ mass l := by
  induction l with
  | nil => cases h
  | cons a l ih =>
    simp only [mass, List.map_cons, List.sum_cons]
    rcases List.mem_cons.1 h with rfl | h
    · omega
    · have := ih h
      unfold mass at this
      omega
theorem mass_len (l : List Part) : l.length ≤ mass l := by
  induction l with
  | nil => simp
  | cons a l ih => simp only [mass, List.map_cons, List.sum_cons, List.length_cons] at ih ⊢; omega
theorem piece_len (k : Int) (t : List UInt8) : (piece k t).length ≤ 5 * (1 + t.length) := by
  have h1 := esc_len _ t (Nat.le_refl _)
  have h2 := repl_len _ t (Nat.le_refl _)
  have h3 : (front k).length ≤ 3 := by
    unfold front
    repeat' split
    all_goals simp
  unfold piece
  split
  · omega
  · simp only [List.length_append, List.length_cons, List.length_nil]; omega
theorem text_len (l : List Part) : (text l).length ≤ 5 * mass l := by
  induction l with
  | nil => simp [text]
  | cons p l ih =>
    have := piece_len p.kind p.text
    simp only [text, mass, List.map_cons, List.sum_cons, List.length_append] at ih ⊢
    omega
theorem tg_sum : ∀ (f : Nat) (pre r acc p' r' c' : List UInt8), tg f pre r acc = some (p', r', c') → c'.length + r'.length ≤ acc.length + r.length
  | 0, _, _, _, _, _, _, h => by simp [tg] at h
  | f + 1, _, [], _, _, _, _, h => by simp [tg] at h
  | f + 1, pre, c :: r, acc, p', r', c', h => by
    unfold tg at h
    split at h
    · rename_i hc
      have := tg_sum f _ _ _ _ _ _ h
      obtain ⟨q, hq⟩ := pfx_split hc
      have hql := congrArg List.length hq
      simp only [List.length_append, List.length_cons, List.length_nil, List.length_drop] at this hql ⊢
      omega
    split at h
    · split at h
      · cases h; simp only [List.length_drop, List.length_cons]; omega
      · cases h; simp only [List.length_drop, List.length_cons]; omega
    split at h
    · cases h; simp only [List.length_drop, List.length_cons]; omega
    · have := tg_sum f _ _ _ _ _ _ h
      simp only [List.length_append, List.length_cons, List.length_nil] at this ⊢
      omega
theorem close_mass (t fp : List UInt8) (out : List Part) : mass (close t fp out) ≤ mass out + (1 + t.length) := by
  unfold close
  split
  · omega
  · rw [mass_app]; simp [mass]
theorem rd_sum (lines : Bool) : ∀ (n : Nat) (pre r t fp : List UInt8) (out l : List Part), r.length ≤ n → rdN lines pre r t fp out = .ok l → mass l ≤ mass out + (1 + t.length) + 3 * r.length
  | _, pre, [], t, fp, out, l, _, h => by
    rw [rdN_nil] at h
    cases h
    have := close_mass t fp out
    simp only [List.length_nil]
    omega
  | 0, _, _ :: _, _, _, _, _, h, _ => by simp at h
  | n + 1, pre, c :: r, t, fp, out, l, hn, h => by
    simp only [List.length_cons] at hn
    rw [rdN_cons] at h
    split at h
    · have := rd_sum lines n _ _ _ _ _ _ (by simp; omega) h
      rename_i hc
      simp only [Bool.and_eq_true] at hc
      obtain ⟨q, hq⟩ := pfx_split hc.2
      have hql := congrArg List.length hq
      simp at hql
      simp only [List.length_drop, List.length_cons, List.length_append, List.length_nil] at this ⊢
      omega
    split at h
    · have := rd_sum lines n _ _ _ _ _ _ (by simp; omega) h
      have h1 := close_mass t fp out
      have hTl : (r.takeWhile (· != 10)).length ≤ r.length := (List.takeWhile_prefix _).length_le
      rw [mass_app] at this
      simp only [List.length_drop, List.length_cons, List.length_nil, mass, List.map_cons, List.map_nil, List.sum_cons, List.sum_nil] at this h1 ⊢
      omega
    split at h
    · have := rd_sum lines n _ _ _ _ _ _ (by simp; omega) h
      rename_i hc
      obtain ⟨q, hq⟩ := pfx_split hc
      have hql := congrArg List.length hq
      simp at hql
      simp only [List.length_drop, List.length_cons, List.length_append, List.length_nil] at this ⊢
      omega
    split at h
    · rename_i hc
      obtain ⟨q, hq⟩ := pfx_split hc
      have hql := congrArg List.length hq
      simp at hql
      cases hX : tgN (pre ++ (c :: r).take (2 + (opn ((c :: r).drop 2)).2.2)) ((c :: r).drop (2 + (opn ((c :: r).drop 2)).2.2)) [] with
      | none => rw [hX] at h; cases h
      | some x =>
        obtain ⟨p', r', code⟩ := x
        rw [hX] at h
        have hlt := (tg_out _ _ _ _ _ _ _ hX).1
        have hsm := tg_sum _ _ _ _ _ _ _ hX
        simp only [List.length_drop, List.length_cons, List.length_nil] at hlt hsm
        have := rd_sum lines n _ _ _ _ _ _ (by omega) h
        have h1 := close_mass (if (opn ((c :: r).drop 2)).2.1 then trim t fp else t) fp out
        have h2 : (if (opn ((c :: r).drop 2)).2.1 then trim t fp else t).length ≤ t.length := by
          split
          · exact trim_len t fp
          · exact Nat.le_refl _
        rw [mass_app] at this
        simp only [List.length_cons, List.length_nil, mass, List.map_cons, List.map_nil, List.sum_cons, List.sum_nil] at this h1 ⊢
        omega
    · have := rd_sum lines n _ _ _ _ _ _ (by omega) h
      simp only [List.length_cons, List.length_append, List.length_nil] at this ⊢
      omega
theorem parts_mass (s : List UInt8) (lines : Bool) : mass (parts s lines).1 ≤ 1 + 3 * s.length := by
  by_cases hs : s.length ≤ 50000
  · rw [parts_ok s lines hs]
    cases hR : rdN lines [] s [] [] [] with
    | ok l =>
      have := rd_sum lines _ _ _ _ _ _ _ (Nat.le_refl _) hR
      simp [mass] at this
      show mass l ≤ _
      unfold mass
      omega
    | error n => simp [mass]
  · unfold parts
    rw [if_pos (by omega)]
    simp [mass]
end Go.Proofs.YtfcjgklghgpddaaDoor
