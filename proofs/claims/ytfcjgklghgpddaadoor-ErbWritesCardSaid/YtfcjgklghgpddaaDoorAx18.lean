/-
  AX, eighteenth text: a law whose arguments are slices of numbers or of strings.
-/
import Derived.Test.YtfcjgklghgpddaaDoorAx17
import Derived.Test.YtfcjgklghgpddaaDoorAx13
import Derived.SliceStrings
import Derived.ChangeSlices
import Derived.SizedLaws
namespace Go.AX
open Go.ChangeShapes Go.WideShapes Go.ChangeAt Go.RowKit

theorem cell?_keep {w w' : World} {a : Addr} {x : Value} (h : w.cell? a = some x) (hb : w'.heap[a.block]? = w.heap[a.block]?) : w'.cell? a = some x := by
  simp only [World.cell?] at h ⊢
  rw [hb]; exact h
theorem cell?_lt {w : World} {a : Addr} {x : Value} (h : w.cell? a = some x) : a.block < w.heap.size := by
  simp only [World.cell?] at h
  rcases hc : w.heap[a.block]? with _ | o
  · rw [hc] at h; cases h
  · exact (Array.getElem?_eq_some_iff.1 hc).1
theorem SlAt.imm {w : World} {a : Option Addr} {k : Nat} {xs : List Value} (h : SlAt a k xs w) : Imm (fun b => b < w.heap.size) w (SlAt a k xs) := by
  refine ⟨h, fun w' hw => ⟨h.1, h.2.1, fun j hj => ?_⟩⟩
  have h1 := h.2.2 j hj
  have hj' : j < xs.length := by rw [h.1]; exact hj
  rw [List.getElem?_eq_getElem hj'] at h1 ⊢
  exact cell?_keep h1 (hw _ (cell?_lt h1))

/-- A law whose arguments are plain values, under facts of the memory that it finds. -/
theorem walkH {P : Program} {f : FuncId} {vs : List Value} {w : World} (H : List Ent) (hF : ∀ e ∈ H, ∃ F, e = .fact F ∧ Imm (fun b => b < w.heap.size) w F)
    (h : SpecH P f (pvs vs) H (Ret (.bool true) H)) : Walk P f vs.toArray w := by
  have hn : ∀ (ρ : List Loc) (i : Nat) (e : Ent) (b : Nat), H[i]? = some e → entB ρ i e = some b → False := fun ρ i e b he hb => by
    obtain ⟨F, rfl, _⟩ := hF e (List.mem_of_getElem? he)
    cases hb
  have hm : ∀ (ρ : List Loc) b, ¬ mb ρ H b := fun ρ b ⟨i, e, he, hb⟩ => hn ρ i e b he hb
  have hs : Sat (H.map fun _ => ⟨0, 0⟩) (fun b => b < w.heap.size) H w := by
    refine ⟨by simp, fun i e he => ?_, fun i j e f b he hf hb _ => (hn _ i e b he hb).elim, fun b hb => (hm _ b hb).elim, fun b hb => hb⟩
    obtain ⟨F, rfl, hi⟩ := hF e (List.mem_of_getElem? he)
    exact hi
  refine (h.run _ _ w vs hs (pvs_rel _ vs)).mono fun e w' ⟨ρ', S', H', out, hs', hev, hout, hx, hH⟩ => ?_
  subst hx
  obtain ⟨v, rfl, hv⟩ := hout
  have : v = .bool true := hv
  subst this
  exact ⟨rfl, hev.os, hev.tape, hev.output, hev.size, fun b hb => hev.keep b hb (hm _ b)⟩

section
variable {H : Type} {enc : TypeId × Value → H} {P : Program} {w : World}

/-- A slice of cells that fits in the reach. -/
def SlOk (w : World) (a : Option Addr) (n : Nat) (xs : List Value) : Prop := n ≤ 200000000000000 ∧ (a.isSome = true ∨ n = 0) ∧ Imm (fun b => b < w.heap.size) w (SlAt a n xs)

theorem known_ints {t e : TypeId} {k : IntKind} {v : Value} {d : DataW H} {ps : List MemPlace} {ts : List TypeId} {ds : List (DataW H)} {j : Nat} (ht : P.underlying t = some (.slice e)) (he : P.underlying e = some (.int k)) (hc : P.cellsOf e = 1) (hb : 1 ≤ P.bytesOf e)
    (hsz : (DataW.weightsEach P ts ds).all (· ≤ reachBytes) = true) (hj : ts[j]? = some t) (hd : ds[j]? = some d)
    {r : Reach} {b : Nat} (hv : Value.okWide P w r b t v) (h : DataW.Trod enc P w 0 (fun _ => true) true t v d ps) : ∃ (a : Option Addr) (l : List Int) (cap : Nat), v = .slice a l.length cap ∧ SlOk w a l.length (l.map (Value.int k)) ∧ l.length ≤ cap ∧ ∀ n ∈ l, (Lit.int k n).wf = true := by
  obtain ⟨a, n, c, rfl⟩ := okWide_slice ht hv
  obtain ⟨fuel, hf⟩ := h
  rcases open_ints ht he hc hf with ⟨h1, h2⟩ | ⟨a, len, cap, zs, h1, _, hl, hm, hlen, h2, h3, h4⟩
  · refine ⟨none, [], 0, ?_, ⟨by simp, .inr rfl, SlAt.nil.imm⟩, by simp, by simp⟩
    simpa [Value.cells] using h1
  · simp at hlen
    simp only [Prod.mk.injEq] at h2
    rw [h2.1] at hd
    have hs := sized_slice hsz hj hd ht
    have hr : reachBytes < 200000000000000 := by decide
    have hlz : (zs.take len).length = len := by rw [List.length_take]; omega
    have hb' : len ≤ reachBytes := by
      have h5 : (lits (H := H) k (zs.take len)).length = len := by simp [lits]; omega
      rw [h5] at hs
      exact Nat.le_trans (Nat.le_trans (Nat.le_add_right _ _) (Nat.le_mul_of_pos_right _ hb)) hs
    refine ⟨some a, zs.take len, cap, ?_, ⟨by rw [hlz]; omega, .inl rfl, ?_⟩, by rw [hlz]; exact hl, fun n hn => h4 n (List.mem_of_mem_take hn)⟩
    · rw [hlz]
      simpa [Value.cells] using h1
    · refine SlAt.imm ⟨by simp, fun _ => rfl, fun j hj => ?_⟩
      rw [hlz] at hj
      have := h3 j (by omega)
      show w.cell? (a.add j) = _
      rw [this, List.getElem?_map, List.getElem?_take_of_lt hj, List.getElem?_eq_getElem (by omega)]
      simp [List.getD, List.getElem?_eq_getElem (show j < zs.length by omega)]

theorem known_strs {t e : TypeId} {v : Value} {d : DataW H} {ps : List MemPlace} {ts : List TypeId} {ds : List (DataW H)} {j : Nat} (ht : P.underlying t = some (.slice e)) (he : P.underlying e = some .string) (hc : P.cellsOf e = 1) (hb : 1 ≤ P.bytesOf e)
    (hsz : (DataW.weightsEach P ts ds).all (· ≤ reachBytes) = true) (hj : ts[j]? = some t) (hd : ds[j]? = some d)
    {r : Reach} {b : Nat} (hv : Value.okWide P w r b t v) (h : DataW.Trod enc P w 0 (fun _ => true) true t v d ps) : ∃ (a : Option Addr) (l : List ByteArray) (cap : Nat), v = .slice a l.length cap ∧ SlOk w a l.length (l.map Value.string) ∧ l.length ≤ cap ∧ ∀ s ∈ l, s.size ≤ maxLen := by
  obtain ⟨a, n, c, rfl⟩ := okWide_slice ht hv
  obtain ⟨fuel, hf⟩ := h
  rcases open_strings ht he hc hf with ⟨h1, h2⟩ | ⟨a, len, cap, zs, h1, _, hl, hm, hlen, h2, h3, h4⟩
  · refine ⟨none, [], 0, ?_, ⟨by simp, .inr rfl, SlAt.nil.imm⟩, by simp, by simp⟩
    simpa [Value.cells] using h1
  · simp at hlen
    simp only [Prod.mk.injEq] at h2
    rw [h2.1] at hd
    have hs := sized_slice hsz hj hd ht
    have hr : reachBytes < 200000000000000 := by decide
    have hlz : (zs.take len).length = len := by rw [List.length_take]; omega
    have hb' : len ≤ reachBytes := by
      have h5 : (strs (H := H) (zs.take len)).length = len := by simp [strs]; omega
      rw [h5] at hs
      exact Nat.le_trans (Nat.le_trans (Nat.le_add_right _ _) (Nat.le_mul_of_pos_right _ hb)) hs
    refine ⟨some a, zs.take len, cap, ?_, ⟨by rw [hlz]; omega, .inl rfl, ?_⟩, by rw [hlz]; exact hl, fun n hn => h4 n (List.mem_of_mem_take hn)⟩
    · rw [hlz]
      simpa [Value.cells] using h1
    · refine SlAt.imm ⟨by simp, fun _ => rfl, fun j hj => ?_⟩
      rw [hlz] at hj
      have := h3 j (by omega)
      show w.cell? (a.add j) = _
      rw [this, List.getElem?_map, List.getElem?_take_of_lt hj, List.getElem?_eq_getElem (by omega)]
      simp [List.getD, List.getElem?_eq_getElem (show j < zs.length by omega)]

theorem known_string {t : TypeId} {v : Value} {d : DataW H} {ps : List MemPlace} {ts : List TypeId} {ds : List (DataW H)} {j : Nat} (ht : P.underlying t = some .string)
    (hsz : (DataW.weightsEach P ts ds).all (· ≤ reachBytes) = true) (hj : ts[j]? = some t) (hd : ds[j]? = some d)
    {r : Reach} {b : Nat} (hv : Value.okWide P w r b t v) (h : DataW.Trod enc P w 0 (fun _ => true) true t v d ps) : ∃ s : ByteArray, v = .string s ∧ s.size ≤ 200000000000000 := by
  obtain ⟨s, rfl⟩ := okWide_string ht hv
  obtain ⟨fuel, hf⟩ := h
  obtain ⟨s, h1, h2, hw⟩ := DataW.trod_string ht hf
  simp only [Prod.mk.injEq] at h2
  rw [h2.1] at hd
  have hs := sized_string hsz hj hd
  have hr : reachBytes < 200000000000000 := by decide
  refine ⟨s, ?_, ?_⟩
  · simpa [Value.cells] using h1
  · have : s.size = s.data.toList.length := rfl
    omega
theorem trodAll_get {base : Nat} {sp : Nat → Bool} {held : Bool} : ∀ {ts : List TypeId} {vs : List Value} {ds : List (DataW H)} {ps : List MemPlace}, DataW.TrodAll enc P w base sp held ts vs ds ps →
    ∀ (j : Nat) t v, ts[j]? = some t → vs[j]? = some v → ∃ d p, ds[j]? = some d ∧ DataW.Trod enc P w base sp held t v d p
  | [], [], [], _, _, j, t, v, h, _ => by simp at h
  | t :: ts, v :: vs, d :: ds, _, ⟨p, _, h1, h, _⟩, 0, t', v', ht, hv => by
    simp only [List.getElem?_cons_zero, Option.some.injEq] at ht hv
    subst ht; subst hv
    exact ⟨d, p, rfl, h1⟩
  | t :: ts, v :: vs, d :: ds, _, ⟨_, _, _, h, _⟩, j + 1, t', v', ht, hv => by
    simp only [List.getElem?_cons_succ] at ht hv ⊢
    exact trodAll_get h j t' v' ht hv
  | [], _ :: _, _, _, h, _, _, _, _, _ => h.elim
  | [], [], _ :: _, _, h, _, _, _, _, _ => h.elim
  | _ :: _, [], _, _, h, _, _, _, _, _ => h.elim
  | _ :: _, _ :: _, [], _, h, _, _, _, _, _ => h.elim

variable {fn : Func} {base : Nat} {args : Array Value} {ds : List (DataW H)} {p : List MemPlace}
/-- What is known of a law's arguments, its memory's shape aside. -/
structure Known0 (enc : TypeId × Value → H) (P : Program) (fn : Func) (W : World) (base : Nat) (args : Array Value) (ds : List (DataW H)) (p : List MemPlace) : Prop where
  val : ∀ (j : Nat) t v, fn.params[j]? = some t → args[j]? = some v → Value.okWide P W .any base t v
  trod : DataW.TrodAll enc P W 0 (fun _ => true) true fn.params.toList args.toList ds p
  weights : (DataW.weightsEach P fn.params.toList ds).all (· ≤ reachBytes) = true
theorem Known.low (k : Known enc P fn w base args ds p) : Known0 enc P fn w base args ds p := ⟨k.val, k.trod, k.weights⟩
theorem Known0.int (k : Known0 enc P fn w base args ds p) (j : Nat) {t : TypeId} {v : Value} {i : IntKind} (hj : fn.params[j]? = some t) (hv : args[j]? = some v) (ht : P.underlying t = some (.int i)) : ∃ n, v = .int i n := okWide_int ht (k.val j t v hj hv)
theorem Known0.ints (k : Known0 enc P fn w base args ds p) (j : Nat) {t e : TypeId} {v : Value} {i : IntKind} (hj : fn.params[j]? = some t) (hv : args[j]? = some v) (ht : P.underlying t = some (.slice e)) (he : P.underlying e = some (.int i)) (hc : P.cellsOf e = 1) (hb : 1 ≤ P.bytesOf e) :
    ∃ (a : Option Addr) (l : List Int) (cap : Nat), v = .slice a l.length cap ∧ SlOk w a l.length (l.map (Value.int i)) ∧ l.length ≤ cap ∧ ∀ n ∈ l, (Lit.int i n).wf = true := by
  obtain ⟨d, q, hd, h⟩ := trodAll_get k.trod j t v (by simpa using hj) (by simpa using hv)
  exact known_ints ht he hc hb k.weights (by simpa using hj) hd (k.val j t v hj hv) h
theorem Known0.strs (k : Known0 enc P fn w base args ds p) (j : Nat) {t e : TypeId} {v : Value} (hj : fn.params[j]? = some t) (hv : args[j]? = some v) (ht : P.underlying t = some (.slice e)) (he : P.underlying e = some .string) (hc : P.cellsOf e = 1) (hb : 1 ≤ P.bytesOf e) :
    ∃ (a : Option Addr) (l : List ByteArray) (cap : Nat), v = .slice a l.length cap ∧ SlOk w a l.length (l.map Value.string) ∧ l.length ≤ cap ∧ ∀ s ∈ l, s.size ≤ maxLen := by
  obtain ⟨d, q, hd, h⟩ := trodAll_get k.trod j t v (by simpa using hj) (by simpa using hv)
  exact known_strs ht he hc hb k.weights (by simpa using hj) hd (k.val j t v hj hv) h
theorem Known0.string (k : Known0 enc P fn w base args ds p) (j : Nat) {t : TypeId} {v : Value} (hj : fn.params[j]? = some t) (hv : args[j]? = some v) (ht : P.underlying t = some .string) :
    ∃ s : ByteArray, v = .string s ∧ s.size ≤ 200000000000000 := by
  obtain ⟨d, q, hd, h⟩ := trodAll_get k.trod j t v (by simpa using hj) (by simpa using hv)
  exact known_string ht k.weights (by simpa using hj) hd (k.val j t v hj hv) h
end
end Go.AX
