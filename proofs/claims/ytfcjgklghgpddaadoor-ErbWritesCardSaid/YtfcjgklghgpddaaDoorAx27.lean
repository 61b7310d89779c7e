/-
  AX, twenty-seventh text: arguments that are slices of structs.
-/
import Derived.Test.YtfcjgklghgpddaaDoorAx18
namespace Go.AX
open Go.ChangeShapes Go.WideShapes Go.ChangeAt Go.RowKit

theorem choose_list {α : Type} {R : Nat → α → Prop} : ∀ n, (∀ i, i < n → ∃ x, R i x) → ∃ l : List α, l.length = n ∧ ∀ i x, l[i]? = some x → R i x
  | 0, _ => ⟨[], rfl, fun i x h => by simp at h⟩
  | n + 1, h => by
    obtain ⟨l, hl, hR⟩ := choose_list n fun i hi => h i (by omega)
    obtain ⟨x, hx⟩ := h n (by omega)
    refine ⟨l ++ [x], by simp [hl], fun i y hy => ?_⟩
    by_cases hi : i < l.length
    · rw [List.getElem?_append_left hi] at hy
      exact hR i y hy
    · have hlt := (List.getElem?_eq_some_iff.1 hy).1
      simp only [List.length_append, List.length_cons, List.length_nil] at hlt
      have e : i = l.length := by omega
      subst e
      simp at hy
      subst hy
      rw [hl]; exact hx
section
variable {H : Type} {enc : TypeId × Value → H} {P : Program} {w : World}
theorem weights_all {e : TypeId} : ∀ {l : List (DataW H)} {d : DataW H}, d ∈ l → ∀ k ∈ d.weights P e, k ∈ DataW.weightsAll P e l
  | [], _, h, _, _ => by cases h
  | a :: l, d, h, k, hk => by
    rw [DataW.weightsAll, List.mem_append]
    rcases List.mem_cons.1 h with rfl | h
    · exact .inl hk
    · exact .inr (weights_all h k hk)
/-- A slice of structs: g lays one out, Q is what the reading says of it. -/
theorem known_rows {α : Type} {Q : α → Prop} {m : Nat} (g : α → List Value) (hg : ∀ x, (g x).length = m) {t e : TypeId} {v : Value} {d : DataW H} {ps : List MemPlace} {ts : List TypeId} {ds : List (DataW H)} {j : Nat} (ht : P.underlying t = some (.slice e)) (hc : P.cellsOf e = m) (hb : 1 ≤ P.bytesOf e)
    (hread : ∀ n cs (y : DataW H × List MemPlace), DataW.trod enc P w 0 (fun _ => true) true n e cs = some y → (∀ k ∈ y.1.weights P e, k ≤ reachBytes) → ∃ x, Q x ∧ cs = g x)
    (hsz : (DataW.weightsEach P ts ds).all (· ≤ reachBytes) = true) (hj : ts[j]? = some t) (hd : ds[j]? = some d)
    {r : Reach} {b : Nat} (hv : Value.okWide P w r b t v) (h : DataW.Trod enc P w 0 (fun _ => true) true t v d ps) : ∃ (a : Option Addr) (l : List α) (cap : Nat), v = .slice a l.length cap ∧ l.length ≤ 200000000000000 ∧ Imm (fun b => b < w.heap.size) w (SlAt a (l.length * m) (l.flatMap g)) ∧ (a = none → l = []) ∧ ∀ x ∈ l, Q x := by
  obtain ⟨a, n, c, rfl⟩ := okWide_slice ht hv
  obtain ⟨fuel, hf⟩ := h
  rcases DataW.trod_slice ht hf with ⟨h1, h2⟩ | ⟨a, len, cap, elems, rest, n, _, h1, h2, _, _, _, hlen, hel, _⟩
  · refine ⟨none, [], 0, by simpa [Value.cells] using h1, by simp, ?_, fun _ => rfl, by simp⟩
    rw [List.length_nil, Nat.zero_mul]
    exact SlAt.nil.imm
  · simp only [Prod.mk.injEq] at h2
    rw [h2.1] at hd
    have hs := sized_slice hsz hj hd ht
    have hr : reachBytes < 200000000000000 := by decide
    have hb' : len ≤ reachBytes := by
      rw [List.length_map, hlen] at hs
      exact Nat.le_trans (Nat.le_trans (Nat.le_add_right _ _) (Nat.le_mul_of_pos_right _ hb)) hs
    have hall : ∀ k ∈ (DataW.slice (elems.map (·.1)) (rest.map (·.1))).weights P t, k ≤ reachBytes := fun k hk => by
      have := List.all_eq_true.1 hsz _ (DataW.weights_mem_each hj hd k hk)
      simpa using this
    have hx : ∀ i, i < len → ∃ x, Q x ∧ ∀ q, q < m → w.cell? (a.add (i * m + q)) = (g x)[q]? := fun i hi => by
      have hi2 := hel i hi
      rw [hc, List.getElem?_eq_getElem (by omega)] at hi2
      obtain ⟨cs, hcs, hy⟩ := Option.bind_eq_some_iff.1 hi2
      obtain ⟨x, hQ, rfl⟩ := hread n cs _ hy fun k hk => by
        refine hall k ?_
        simp only [DataW.weights, ht, List.mem_cons, List.mem_append]
        exact .inr (.inl (weights_all (List.mem_map.2 ⟨_, List.getElem_mem _, rfl⟩) k hk))
      refine ⟨x, hQ, fun q hq => ?_⟩
      obtain ⟨_, _, hcell⟩ := World.cells?_some hcs
      have := hcell q hq
      rwa [Addr.add_add] at this
    obtain ⟨l, hl, hR⟩ := choose_list len hx
    refine ⟨some a, l, cap, by rw [hl]; simpa [Value.cells] using h1, by omega, ?_, (fun h => by cases h), fun x hx => ?_⟩
    · refine SlAt.imm ⟨flat_len hg l, fun _ => rfl, fun q hq => ?_⟩
      have hm : 0 < m := Nat.pos_of_ne_zero fun e => by rw [e] at hq; simp at hq
      have hq2 : q = q / m * m + q % m := by rw [Nat.mul_comm]; exact (Nat.div_add_mod q m).symm
      have hqi : q / m < l.length := Nat.div_lt_of_lt_mul (by rw [Nat.mul_comm]; exact hq)
      have hqm := Nat.mod_lt q hm
      show w.cell? (a.add q) = _
      rw [hq2, flat_get hg l _ _ hqm, List.getElem?_eq_getElem hqi]
      exact (hR _ _ (List.getElem?_eq_getElem hqi)).2 _ hqm
    · obtain ⟨i, hi⟩ := List.getElem?_of_mem hx
      exact (hR i x hi).1
end
end Go.AX
