/-
  slices.Sort and slices.Compact at whole numbers, as contracts on a slice that grows.
-/
import Derived.Test.YtnecdpkmmncfaaaS1
import Derived.Test.YtnecdpkmmncfaaaC12
import Derived.Test.YtnecdpkmmncfaaaAx17
namespace Go.Proofs.Ytnecdpkmmncfaaa
open Go.AX Go.Sort Go.RowKit
set_option maxRecDepth 20000

def ints (l : List Int) : List Value := l.map (Value.int .i64)
theorem ints_len (l : List Int) : (ints l).length = l.length := by simp [ints]

theorem rowF_holds {T : TypeId} {l : List Int} {b cap : Nat} {w : World} (h : RowF T 1 l.length (ints l) b cap w) : Holds (Value.int .i64) w b 0 l.toArray := by
  obtain ⟨arr, hb, h1, h2, h3, h4, h5⟩ := h
  rw [Nat.mul_one] at h5
  intro j hj
  have hj' : j < l.length := by simpa using hj
  refine ⟨?_, ?_⟩
  · rw [Nat.zero_add, cell_of_row w b j arr T (0, 0) hb]
    have h6 : (arr.toList.take l.length)[j]? = some (.int .i64 l[j]) := by rw [h5]; simp [ints, hj']
    rw [List.getElem?_take, if_pos hj'] at h6
    rw [getElem!_pos _ j hj]
    simpa using h6
  · have hc : w.frozen? ⟨b, 0 + j, none⟩ = false := by simp [World.frozen?, hb]
    exact hc

theorem put_row {T : TypeId} {l l' r : List Int} {b cap : Nat} {w : World} (h : RowF T 1 l.length (ints l) b cap w) (hl : (l' ++ r).length = l.length) (q : Nat) (os : Array Obj) :
    RowF T 1 l'.length (ints l') b cap (grow (putRow (Value.int .i64) (Sort.ahead w q) b 0 (l' ++ r).toArray) os) ∧ w.heap.size ≤ (grow (putRow (Value.int .i64) (Sort.ahead w q) b 0 (l' ++ r).toArray) os).heap.size ∧
      (∀ k, k < w.heap.size → k ≠ b → (grow (putRow (Value.int .i64) (Sort.ahead w q) b 0 (l' ++ r).toArray) os).heap[k]? = w.heap[k]?) ∧
      (grow (putRow (Value.int .i64) (Sort.ahead w q) b 0 (l' ++ r).toArray) os).os = w.os ∧ (grow (putRow (Value.int .i64) (Sort.ahead w q) b 0 (l' ++ r).toArray) os).tape = w.tape ∧ (grow (putRow (Value.int .i64) (Sort.ahead w q) b 0 (l' ++ r).toArray) os).output = w.output := by
  obtain ⟨arr, hb, h1, h2, h3, h4, h5⟩ := h
  rw [Nat.mul_one] at h4 h5
  have hlen : l'.length + r.length = l.length := by simpa using hl
  have hbl : b < w.heap.size := (Array.getElem?_eq_some_iff.1 hb).1
  have hput : (putRow (Value.int .i64) (Sort.ahead w q) b 0 (l' ++ r).toArray).heap = w.heap.modify b (onCells (putCells (Value.int .i64) 0 (l' ++ r).toArray)) := rfl
  refine ⟨⟨putCells (Value.int .i64) 0 (l' ++ r).toArray arr, ?_, by simp [ints], by omega, h3, ?_, ?_⟩, ?_, ?_, rfl, rfl, rfl⟩
  · rw [heap_grow_old _ _ (by rw [hput]; simpa using hbl), hput, Array.getElem?_modify, if_pos rfl, hb]
    rfl
  · simp [putCells, h4]
  · rw [Nat.mul_one]
    apply List.ext_getElem?
    intro j
    rw [List.getElem?_take]
    by_cases hj : j < l'.length
    · rw [if_pos hj]
      have hja : j < arr.size := by omega
      have : (putCells (Value.int .i64) 0 (l' ++ r).toArray arr).toList[j]? = some (.int .i64 l'[j]) := by
        rw [Array.getElem?_toList, putCells, Array.getElem?_mapIdx, Array.getElem?_eq_getElem hja, Option.map_some, if_pos ⟨Nat.zero_le _, by simp; omega⟩, Nat.sub_zero,
          getElem!_pos _ j (by simp; omega)]
        simp [List.getElem_append_left hj]
      rw [this]; simp [ints, hj]
    · rw [if_neg hj, List.getElem?_eq_none (by simp [ints]; omega)]
  · rw [size_grow, hput]; simp
  · intro k hk hne
    rw [heap_grow_old _ _ (by rw [hput]; simpa using hk), hput, Array.getElem?_modify, if_neg (Ne.symm hne)]

theorem grow_nil (w : World) : grow w #[] = w := by simp [grow]

theorem Sort_c {H : List Ent} {K : Out → List Ent → Prop} (i : Nat) {T : TypeId} {l : List Int} {b cap : Nat} (hi : nthE H i = some (.app T 1 (ints l) (some ⟨b, 0, none⟩) l.length cap)) (hl : l.length < 1000000)
    (hk : setEK H i (.app T 1 (ints (l.mergeSort fun x y => decide (x ≤ y))) (some ⟨b, 0, none⟩) l.length cap) fun H' => K (.val (.c (.v (.tuple #[])))) H') :
    SpecH Try.prog 65 (pvs [.slice (some ⟨b, 0, none⟩) l.length cap]) H K := by
  refine SpecH.rawA (callOk Try.func65 (by kernel_rfl) rfl) i hi (R := fun r n' ys' => r = .tuple #[] ∧ n' = l.length ∧ ys' = ints (l.mergeSort fun x y => decide (x ≤ y))) ?_ fun r n' ys' ⟨h1, h2, h3⟩ => by subst h1 h2 h3; exact hk
  intro w hrow hb
  refine (Try.slices_Sort_int b 0 cap l w (rowF_holds hrow) hb (by omega)).mono fun e w' ⟨he, q, os, hw⟩ => ?_
  have := put_row (l' := l.mergeSort fun x y => decide (x ≤ y)) (r := []) hrow (by simp) q os
  rw [List.append_nil, ← hw] at this
  have hlen : (l.mergeSort fun x y => decide (x ≤ y)).length = l.length := by simp
  rw [hlen] at this
  exact ⟨_, _, _, he, ⟨rfl, rfl, rfl⟩, this⟩

theorem compact_len (l : List Int) : (Lib.compact l).length ≤ l.length := by
  unfold Lib.compact Lib.compactUpTo
  rw [List.length_map]
  exact Nat.le_trans (List.length_filter_le _ _) (by simp)
theorem Compact_c {H : List Ent} {K : Out → List Ent → Prop} (i : Nat) {T : TypeId} {l : List Int} {b cap : Nat} (hi : nthE H i = some (.app T 1 (ints l) (some ⟨b, 0, none⟩) l.length cap)) (hl : l.length < 1000000)
    (hk : setEK H i (.app T 1 (ints (Lib.compact l)) (some ⟨b, 0, none⟩) (Lib.compact l).length cap) fun H' => K (.val (.c (.v (.slice (some ⟨b, 0, none⟩) (Lib.compact l).length cap)))) H') :
    SpecH Try.prog 66 (pvs [.slice (some ⟨b, 0, none⟩) l.length cap]) H K := by
  refine SpecH.rawA (callOk Try.func66 (by kernel_rfl) rfl) i hi (R := fun r n' ys' => r = .slice (some ⟨b, 0, none⟩) (Lib.compact l).length cap ∧ n' = (Lib.compact l).length ∧ ys' = ints (Lib.compact l)) ?_ fun r n' ys' ⟨h1, h2, h3⟩ => by subst h1 h2 h3; exact hk
  intro w hrow hb
  have hc : l.length ≤ cap := by obtain ⟨_, _, _, h, _⟩ := hrow; exact h
  have hcl := compact_len l
  refine (Try.slices_Compact_int b 0 cap l w (rowF_holds hrow) (by omega) hc).mono fun e w' ⟨he, q, hw⟩ => ?_
  have := put_row (l' := Lib.compact l) (r := List.replicate (l.length - (Lib.compact l).length) 0) hrow (by simp; omega) q #[]
  rw [grow_nil, ← hw] at this
  exact ⟨_, _, _, he, ⟨rfl, rfl, rfl⟩, this⟩
theorem Compact_nil (H : List Ent) : SpecH Try.prog 66 (pvs [.slice none 0 0]) H (Ret (.slice none 0 0) H) := by
  refine SpecH.rawP (callOk Try.func66 (by kernel_rfl) rfl) (R := fun r => r = .slice none 0 0) ?_ fun r hr => by subst hr; exact ⟨rfl, rfl⟩
  intro w _
  refine (Try.slices_Compact_int_empty none 0 w).mono fun e w' ⟨he, hw⟩ => ?_
  subst hw
  exact ⟨_, he, rfl, Below.refl _ _⟩
theorem Sort_nil (H : List Ent) : SpecH Try.prog 65 (pvs [.slice none 0 0]) H (Ret (.tuple #[]) H) := by
  refine SpecH.rawP (callOk Try.func65 (by kernel_rfl) rfl) (R := fun r => r = .tuple #[]) ?_ fun r hr => by subst hr; exact ⟨rfl, rfl⟩
  intro w _
  refine (Try.slices_Sort_int_none none 0 w).mono fun e w' ⟨he, hw⟩ => ?_
  subst hw
  exact ⟨_, he, rfl, Below.refl _ _⟩
end Go.Proofs.Ytnecdpkmmncfaaa
