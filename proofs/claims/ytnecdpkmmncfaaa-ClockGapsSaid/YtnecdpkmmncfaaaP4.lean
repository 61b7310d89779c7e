/-
  Zones in plain Lean: the moments of a local date.
-/
import Derived.Test.YtnecdpkmmncfaaaD5
import Derived.Test.YtnecdpkmmncfaaaP3
namespace Go.Proofs.Ytnecdpkmmncfaaa
open Go.AX

/-! ### What slices.Sort and slices.Compact make -/
theorem keeps_iff (d : Array Int) (j : Nat) : Lib.keeps d j = true ↔ j = 0 ∨ d[j]! ≠ d[j - 1]! := by simp [Lib.keeps]
theorem sorted_get {l : List Int} (h : l.Pairwise (· ≤ ·)) {i j : Nat} (hij : i ≤ j) (hj : j < l.length) : l.toArray[i]! ≤ l.toArray[j]! := by
  rw [getElem!_pos _ i (by simp; omega), getElem!_pos _ j (by simpa using hj)]
  simp only [List.getElem_toArray]
  rcases Nat.lt_or_ge i j with h1 | h1
  · exact List.pairwise_iff_getElem.1 h i j (by omega) hj h1
  · have : i = j := by omega
    subst this; exact Int.le_refl _
theorem compact_lt {l : List Int} (h : l.Pairwise (· ≤ ·)) : (Lib.compact l).Pairwise (· < ·) := by
  unfold Lib.compact Lib.compactUpTo
  rw [List.pairwise_map]
  refine List.Pairwise.imp_of_mem ?_ (List.Pairwise.filter _ (List.pairwise_lt_range))
  intro i j hi hj hij
  have hk := (keeps_iff _ _).1 (List.mem_filter.1 hj).2
  have hjl := List.mem_range.1 (List.mem_filter.1 hj).1
  rcases hk with hk | hk
  · omega
  · have h1 := sorted_get h (i := i) (j := j - 1) (by omega) (by omega)
    have h2 := sorted_get h (i := j - 1) (j := j) (by omega) hjl
    omega
theorem compact_mem {l : List Int} (x : Int) : x ∈ Lib.compact l ↔ x ∈ l := by
  unfold Lib.compact Lib.compactUpTo
  constructor
  · intro hx
    obtain ⟨j, hj, rfl⟩ := List.mem_map.1 hx
    have hjl := List.mem_range.1 (List.mem_filter.1 hj).1
    rw [getElem!_pos _ j (by simpa using hjl)]
    simp
  · intro hx
    obtain ⟨n, hn, rfl⟩ := List.getElem_of_mem hx
    -- the first place of the run
    have key : ∀ n (hn : n < l.length), ∃ j, j ≤ n ∧ Lib.keeps l.toArray j = true ∧ l.toArray[j]! = l[n] := by
      intro n
      induction n with
      | zero => intro hn; exact ⟨0, Nat.le_refl _, (keeps_iff _ _).2 (.inl rfl), by rw [getElem!_pos _ 0 (by simpa using hn)]; simp⟩
      | succ n ih =>
        intro hn
        by_cases he : l.toArray[n + 1]! = l.toArray[n]!
        · obtain ⟨j, hj, hk, hv⟩ := ih (by omega)
          refine ⟨j, by omega, hk, hv.trans ?_⟩
          rw [getElem!_pos _ (n + 1) (by simpa using hn), getElem!_pos _ n (by simp; omega)] at he
          simpa using he.symm
        · exact ⟨n + 1, Nat.le_refl _, (keeps_iff _ _).2 (.inr (by simpa using he)), by rw [getElem!_pos _ (n + 1) (by simpa using hn)]; simp⟩
    obtain ⟨j, hj, hk, hv⟩ := key n hn
    exact List.mem_map.2 ⟨j, List.mem_filter.2 ⟨List.mem_range.2 (by omega), hk⟩, hv⟩
theorem sort_le (l : List Int) : (l.mergeSort fun x y => decide (x ≤ y)).Pairwise (· ≤ ·) := by
  have := List.pairwise_mergeSort (le := fun x y : Int => decide (x ≤ y)) (fun a b c h1 h2 => by simp at *; omega) (fun a b => by simp; omega) l
  exact this.imp (by simp)
theorem mom_lt (o : Int) (l : List (Int × Int)) (s : Int) : (mom o l s).Pairwise (· < ·) := compact_lt (sort_le _)
theorem mom_mem (o : Int) (l : List (Int × Int)) (s x : Int) : x ∈ mom o l s ↔ ∃ c ∈ (0, o) :: l, (-100000000000 ≤ s - c.2 ∧ s - c.2 ≤ 100000000000) ∧ offs o l (s - c.2) = c.2 ∧ x = s - c.2 := by
  unfold mom
  rw [compact_mem, List.mem_mergeSort, raw, List.mem_filterMap]
  constructor
  · rintro ⟨c, hc, h⟩
    unfold hit at h
    split at h
    · rename_i h1; exact ⟨c, hc, h1.1, h1.2, by simpa using h.symm⟩
    · cases h
  · rintro ⟨c, hc, h1, h2, rfl⟩
    exact ⟨c, hc, by rw [hit, if_pos ⟨h1, h2⟩]⟩
theorem offs_mem (o : Int) (l : List (Int × Int)) (n : Int) : ∃ c ∈ (0, o) :: l, offs o l n = c.2 := by
  have key : ∀ (l : List (Int × Int)) (x : Int), offs x l n = x ∨ ∃ c ∈ l, offs x l n = c.2 := by
    intro l
    induction l with
    | nil => intro x; exact .inl rfl
    | cons c l ih =>
      intro x
      simp only [offs, List.foldl_cons]
      rcases ih (if c.1 ≤ n then c.2 else x) with h | ⟨d, hd, h⟩
      · unfold offs at h
        rw [h]
        split
        · exact .inr ⟨c, by simp, rfl⟩
        · exact .inl rfl
      · exact .inr ⟨d, by simp [hd], h⟩
  rcases key l o with h | ⟨c, hc, h⟩
  · exact ⟨(0, o), by simp, h⟩
  · exact ⟨c, by simp [hc], h⟩

/-! ### The date of a number of seconds -/
theorem secs_of (n : Int) : Cal.secs (Cal.cy (n / 86400)) (Cal.cm (n / 86400)) (Cal.cd (n / 86400)) (n % 86400 / 3600) (n % 86400 / 60 % 60) (n % 86400 % 60) = n := by
  have := Cal.civ (n / 86400)
  unfold Cal.secs
  rw [this.2.2.2.2]
  omega
theorem valid_of (n : Int) (h : -60000000000 ≤ n ∧ n ≤ 60000000000) : Cal.validP (Cal.cy (n / 86400)) (Cal.cm (n / 86400)) (Cal.cd (n / 86400)) (n % 86400 / 3600) (n % 86400 / 60 % 60) (n % 86400 % 60) := by
  have hc := Cal.civ (n / 86400)
  have h1 := Cal.cy_mono (-700000) (n / 86400) (by omega)
  have h2 := Cal.cy_mono (n / 86400) 700000 (by omega)
  have e1 : Cal.cy (-700000) = 53 := by decide
  have e2 : Cal.cy 700000 = 3886 := by decide
  unfold Cal.validP
  omega
theorem dtOf_inj {n k : Int} (h : dtOf n = dtOf k) : n = k := by
  unfold dtOf dt at h
  simp only [Value.agg.injEq] at h
  have ha := congrArg Array.toList h
  simp only [List.cons.injEq, Value.int.injEq, true_and, and_true] at ha
  obtain ⟨h1, h2, h3, h4, h5, h6⟩ := ha
  rw [← secs_of n, ← secs_of k, h1, h2, h3, h4, h5, h6]
end Go.Proofs.Ytnecdpkmmncfaaa
