/-
  AX, sixth text: literals, append; effK is sound.
-/
import Derived.Test.YtfcjgklghgpddaaDoorAx5
namespace Go.AX

theorem anys_len : ∀ n, (anys n).length = n
  | 0 => rfl
  | n + 1 => by simp [anys, anys_len n]
theorem anys_rel (ρ : List Loc) : ∀ (n : Nat) (xs : List Value), xs.length = n → RelL ρ (anys n) xs
  | 0, [], _ => trivial
  | n + 1, x :: xs, h => ⟨trivial, anys_rel ρ n xs (by simpa using h)⟩
  | 0, _ :: _, h => by simp at h
  | _ + 1, [], h => by simp at h
theorem alloc_sound {P : Program} {o : Oper} {s : List AV} {H : List Ent} {T : TypeId} {i : TypeInfo} {z : Value} (ho : o.op = .alloc T) (hi : P.info? T = some i) (hz : i.zero = some z) :
    Effs P o s H (.c (.lp H.length 0)) (H ++ [.blk T (cellsV z)]) :=
  new_sound fun ρ w a _ => ⟨z.cells, cellsV_rel ρ z, by
    unfold execOp
    simp only [ho, Instr.alloc, Sem.run_bind, run_zeroValue hi hz, Result.andThen_ok]
    rfl⟩

theorem box_sound {P : Program} {o : Oper} {s : List AV} {H : List Ent} {T : TypeId} {x : Operand} {cs : List CV} (ho : o.op = .box T x) (hx : avCells (opv s x) = some cs) :
    Effs P o s H (.c (.lp H.length 0)) (H ++ [.blk T cs]) :=
  new_sound fun ρ w a hr => ⟨(a.eval x).cells, avCells_rel hx (opv_rel hr x), by
    unfold execOp
    simp only [ho]
    rfl⟩

theorem newRow_sound {P : Program} {o : Oper} {s : List AV} {H : List Ent} {e : TypeId} {sz n : Nat} {cs : List CV} (hn : n ≤ maxLen) (hcs : cs.length = n * sz)
    (h : ∀ (ρ : List Loc) (w : World) (a : Act), RelS ρ s a.tmps.toList → ∃ arr : Array Value, RelL ρ cs arr.toList ∧ (execOp a.eval o).run P w = .ok (.value (.slice (some ⟨w.heap.size, 0, none⟩) n n)) (w.alloc (.cells arr e))) :
    Effs P o s H (.c (.sl H.length n)) (H ++ [.row e sz n cs]) := by
  intro ρ S w a hs hr
  obtain ⟨arr, hrel, hrun⟩ := h ρ w a hr
  have hlen := RelL_len hrel
  have hS := hs.snoc (e := .row e sz n cs) (l := ⟨w.heap.size, n⟩) (w' := w.alloc (.cells arr e)) (ob := .cells arr e) rfl rfl rfl rfl rfl
    ⟨⟨w.heap.size, n⟩, arr, by rw [← hs.len]; simp, heap_alloc_new w _, hcs, Nat.le_refl _, hn, by show arr.size = n * sz; simp at hlen; omega, by rw [List.take_of_length_le (by omega)]; exact RelL_pre _ hrel⟩
  exact ⟨_, _, _, _, hrun, .inl rfl, hS.1, hS.2, ⟨⟨w.heap.size, n⟩, by rw [← hs.len]; simp, rfl⟩⟩

theorem buildSlice_sound {P : Program} {o : Oper} {s : List AV} {H : List Ent} {T e : TypeId} {len : Nat} {parts : Array (Nat × Operand)} {inf : TypeInfo} {z : Value} {cs : List CV} (ho : o.op = .buildSlice T len parts)
    (hu : P.underlying T = some (.slice e)) (hi : P.info? e = some inf) (hz : inf.zero = some z) (hl : Nat.ble (len + len * inf.size) 10000 = true) (hlm : len ≤ maxLen)
    (hf : fillC (fun i => some (i * inf.size, inf.size)) s parts.toList (anys (len * inf.size)) = some cs) (hcl : cs.length = len * inf.size) :
    Effs P o s H (.c (.sl H.length len)) (H ++ [.row e inf.size len cs]) := by
  refine newRow_sound hlm hcl fun ρ w a hr => ?_
  have hb : len + len * inf.size ≤ 10000 := Nat.le_of_ble_eq_true hl
  have hng : ¬ (len * inf.size > 2 ^ 24) := by omega
  have key : ∀ zc : Array Value, ∃ us' : Array Value, Instr.fill (fun i => some (i * inf.size, inf.size)) ((Array.range (len * inf.size)).map (zc[· % zc.size]!)) (parts.map fun (i, x) => (i, a.eval x)).toList = some us' ∧ RelL ρ cs us'.toList := fun zc => by
    obtain ⟨us', h1, h2⟩ := fillC_rel hr (fun i => some (i * inf.size, inf.size)) (fun i => some (i * inf.size, inf.size)) (fun _ _ h => h) parts.toList _ cs ((Array.range (len * inf.size)).map (zc[· % zc.size]!)) hf
      (anys_rel ρ _ _ (by simp))
    refine ⟨us', ?_, h2⟩
    rw [← h1]
    congr 1
    simp
  unfold execOp
  simp only [ho, Instr.buildSlice, Sem.run_bind, run_underlying hu, sizeOf, typeInfo, run_program, hi, Result.andThen_ok, Sem.run_pure]
  rw [if_neg hng]
  by_cases h0 : len * inf.size = 0
  · obtain ⟨us', h1, h2⟩ := key #[]
    refine ⟨us', h2, ?_⟩
    simp only [h0, if_true, Sem.run_bind, Sem.run_pure, Result.andThen_ok]
    rw [h0] at h1
    rw [h1]
    rfl
  · obtain ⟨us', h1, h2⟩ := key z.cells
    refine ⟨us', h2, ?_⟩
    simp only [h0, if_false, Sem.run_bind, Sem.run_pure, Result.andThen_ok, run_zeroValue hi hz, h1]
    rfl

end Go.AX
