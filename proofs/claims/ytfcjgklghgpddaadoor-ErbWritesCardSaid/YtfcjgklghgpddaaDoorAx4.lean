/-
  AX, fourth text: readK is sound; operations that make or write memory of the call's own.
-/
import Derived.Test.YtfcjgklghgpddaaDoorAx3
namespace Go.AX

theorem reads_same {P : Program} {o : Oper} {s : List AV} {H : List Ent} {K : AV → Prop} {x : Operand} (he : ∀ ev, execOp ev o = pure (.value (ev x))) (h : K (opv s x)) :
    ∃ av, K av ∧ Reads P o s H av :=
  ⟨_, h, fun ρ S w a _ hr => ⟨a.eval x, by rw [he]; rfl, opv_rel hr x⟩⟩

theorem Reads.of_value {P : Program} {o : Oper} {s : List AV} {H : List Ent} {av : AV}
    (h : ∀ (ρ : List Loc) (S : Nat → Prop) (w : World) (a : Act), Sat ρ S H w → RelS ρ s a.tmps.toList → ∃ v, (execOp a.eval o).run P w = .ok (.value v) w ∧ av.rel ρ v) : Reads P o s H av := h

theorem run_indexAt {P : Program} {T e : TypeId} {inf : TypeInfo} (hu : P.underlying T = some (.slice e)) (hi : P.info? e = some inf) (w : World) (b : Addr) (n cap : Nat) (k : IntKind) (i : Int) (h : 0 ≤ i ∧ i < (n : Int)) :
    (Instr.indexAt T (.slice (some b) n cap) (.int k i)).run P w = .ok (.pointer (some (b.add (i.toNat * inf.size)))) w := by
  simp [Instr.indexAt, asIntOf, run_underlying hu, sizeOf, typeInfo, hi, h]
theorem run_indexAt_array {P : Program} {T e : TypeId} {inf : TypeInfo} {n : Nat} (hu : P.underlying T = some (.array n e)) (hi : P.info? e = some inf) (w : World) (b : Addr) (k : IntKind) (i : Int) (h : 0 ≤ i ∧ i < (n : Int)) :
    (Instr.indexAt T (.pointer (some b)) (.int k i)).run P w = .ok (.pointer (some (b.add (i.toNat * inf.size)))) w := by
  simp [Instr.indexAt, asIntOf, run_underlying hu, Instr.sureAddr, sizeOf, typeInfo, hi, h]

theorem execOp_indexAddr {P : Program} {o : Oper} {ev : Operand → Value} {w : World} {T : TypeId} {x i : Operand} {v : Value} (ho : o.op = .indexAddr T x i)
    (h : (Instr.indexAt T (ev x) (ev i)).run P w = .ok v w) : (execOp ev o).run P w = .ok (.value v) w := by
  unfold execOp
  simp only [ho, Sem.run_bind, h, Result.andThen_ok, Sem.run_pure]

theorem run_index_string {P : Program} {T : TypeId} (w : World) (b : ByteArray) (k : IntKind) (n : Int) (hu : P.underlying T = some .string) (h : 0 ≤ n ∧ n < (b.size : Int)) :
    (Instr.index T (.string b) (.int k n)).run P w = .ok (.int .u8 (byteAt b n.toNat)) w := by
  have hlt : n.toNat < b.size := by omega
  have hb : b[n.toNat]? = some b[n.toNat] := by simp [hlt]
  simp only [Instr.index, asIntOf, Sem.run_bind, Sem.run_pure, Result.andThen_ok, run_underlying hu, h.1, if_true, hb]
  congr 2
  unfold byteAt
  have : b.data.toList.getD n.toNat 0 = b[n.toNat] := by
    have hl : n.toNat < b.data.toList.length := by simpa using hlt
    rw [List.getD_eq_getElem?_getD, List.getElem?_eq_getElem hl]
    rfl
  rw [this]

theorem avCells_rel {ρ : List Loc} {av : AV} {cs : List CV} {v : Value} (h : avCells av = some cs) (hr : av.rel ρ v) : RelL ρ cs v.cells.toList := by
  cases av with
  | agg ds =>
    simp only [avCells, Option.some.injEq] at h
    subst h
    obtain ⟨xs, rfl, hx⟩ := hr
    simpa [Value.cells] using hx
  | c c =>
    cases c with
    | any => cases h
    | v x =>
      simp only [avCells, Option.some.injEq] at h
      subst h
      have : v = x := hr
      subst this
      unfold cellsV
      split
      · simpa [Value.cells] using RelL_vs ρ _
      · rename_i hne
        have : v.cells.toList = [v] := by
          unfold Value.cells
          split
          · rename_i cs; exact absurd rfl (hne cs)
          · rfl
        rw [this]
        exact ⟨rfl, trivial⟩
    | lp i off =>
      simp only [avCells, Option.some.injEq] at h
      subst h
      obtain ⟨l, hl, rfl⟩ := hr
      exact ⟨⟨l, hl, rfl⟩, trivial⟩
    | sl i n =>
      simp only [avCells, Option.some.injEq] at h
      subst h
      obtain ⟨l, hl, rfl⟩ := hr
      exact ⟨⟨l, hl, rfl⟩, trivial⟩

theorem putC_rel {ρ : List Loc} : ∀ {cs xs cs' : List CV} {off : Nat} {us ys : List Value}, putC cs off xs = some cs' → RelL ρ cs us → RelL ρ xs ys →
    off + ys.length ≤ us.length ∧ RelL ρ cs' (us.take off ++ ys ++ us.drop (off + ys.length))
  | cs, [], cs', 0, us, ys, h, r, q => by
    cases ys with
    | cons _ _ => exact q.elim
    | nil =>
      have : cs' = cs := by cases cs <;> (simp [putC] at h; first | exact h.symm | exact h)
      subst this
      simpa using r
  | c :: cs, x :: xs, cs', 0, us, ys, h, r, q => by
    cases us with
    | nil => exact r.elim
    | cons u us =>
      cases ys with
      | nil => exact q.elim
      | cons y ys =>
        simp only [putC] at h
        split at h
        · rename_i l hl
          cases h
          have := putC_rel (off := 0) hl r.2 q.2
          refine ⟨by simp at this ⊢; omega, ?_⟩
          have e : List.take 0 (u :: us) ++ (y :: ys) ++ List.drop (0 + (y :: ys).length) (u :: us) = y :: (List.take 0 us ++ ys ++ List.drop (0 + ys.length) us) := by simp
          rw [e]
          exact ⟨q.1, this.2⟩
        · cases h
  | c :: cs, xs, cs', off + 1, us, ys, h, r, q => by
    cases us with
    | nil => exact r.elim
    | cons u us =>
      simp only [putC] at h
      split at h
      · rename_i l hl
        cases h
        have := putC_rel (off := off) hl r.2 q
        refine ⟨by simp at this ⊢; omega, ?_⟩
        have e : List.take (off + 1) (u :: us) ++ ys ++ List.drop (off + 1 + ys.length) (u :: us) = u :: (List.take off us ++ ys ++ List.drop (off + ys.length) us) := by
          rw [show off + 1 + ys.length = (off + ys.length) + 1 by omega]; simp
        rw [e]
        exact ⟨r.1, this.2⟩
      · cases h
  | [], _ :: _, _, 0, _, _, h, _, _ => by simp [putC] at h
  | [], _, _, _ + 1, _, _, h, _, _ => by simp [putC] at h

theorem fold_put (off : Nat) : ∀ (l : List Value) (k : Nat) (cells : Array Value), off + k + l.length ≤ cells.size →
    ((l.zipIdx k).foldl (fun cs p => cs.setIfInBounds (off + p.2) p.1) cells).toList = cells.toList.take (off + k) ++ l ++ cells.toList.drop (off + k + l.length)
  | [], k, cells, _ => by simp
  | v :: l, k, cells, h => by
    simp only [List.zipIdx_cons, List.foldl_cons]
    rw [fold_put off l (k + 1) (cells.setIfInBounds (off + k) v) (by simp at h ⊢; omega)]
    have e := list_seg_step cells.toList (off + k) v l (by simp at h ⊢; omega)
    simpa [Array.toList_setIfInBounds, Nat.add_assoc] using e

theorem fill_step (place : Nat → Option (Nat × Nat)) (cells : Array Value) (i off sz : Nat) (v : Value) (rest : List (Nat × Value)) (hp : place i = some (off, sz)) (hv : v.cells.size = sz) (hfit : off + v.cells.size ≤ cells.size) :
    Instr.fill place cells ((i, v) :: rest) = Instr.fill place (cells.toList.take off ++ v.cells.toList ++ cells.toList.drop (off + v.cells.toList.length)).toArray rest := by
  have h1 : ¬ (off + v.cells.size > cells.size) := by omega
  simp only [Instr.fill, hp, hv, ne_eq, not_true_eq_false, decide_false, Bool.false_or, gt_iff_lt]
  rw [hv] at h1
  rw [if_neg (by simpa using h1)]
  congr 1
  apply Array.ext'
  have e := fold_put off v.cells.toList 0 cells (by simpa using hfit)
  simp only [Nat.add_zero] at e
  have hz : v.cells.zipIdx.foldl (fun cs (p : Value × Nat) => cs.setIfInBounds (off + p.2) p.1) cells = (v.cells.toList.zipIdx 0).foldl (fun cs p => cs.setIfInBounds (off + p.2) p.1) cells := by
    rw [← Array.foldl_toList, Array.toList_zipIdx]
  have hz2 : (v.cells.zipIdx.foldl (fun cs (c, j) => cs.setIfInBounds (off + j) c) cells) = v.cells.zipIdx.foldl (fun cs (p : Value × Nat) => cs.setIfInBounds (off + p.2) p.1) cells := rfl
  rw [hz2, hz, e]

theorem fillC_rel {ρ : List Loc} {s : List AV} {a : Act} (hr : RelS ρ s a.tmps.toList) (place place' : Nat → Option (Nat × Nat)) (hpl : ∀ i p, place i = some p → place' i = some p) :
    ∀ (parts : List (Nat × Operand)) (cs cs' : List CV) (us : Array Value), fillC place s parts cs = some cs' → RelL ρ cs us.toList →
    ∃ us' : Array Value, Instr.fill place' us (parts.map fun p => (p.1, a.eval p.2)) = some us' ∧ RelL ρ cs' us'.toList
  | [], cs, cs', us, h, r => by
    simp only [fillC, Option.some.injEq] at h
    subst h
    exact ⟨us, rfl, r⟩
  | (i, x) :: rest, cs, cs', us, h, r => by
    simp only [fillC] at h
    split at h
    · rename_i off sz xs hp hx
      split at h
      · rename_i cs1 hlen hput
        have hxr := avCells_rel hx (opv_rel hr x)
        obtain ⟨hfit, hrel⟩ := putC_rel hput r hxr
        have hsz : (a.eval x).cells.size = sz := by
          have h1 := RelL_len hxr
          have h2 := Nat.eq_of_beq_eq_true hlen
          simp at h1; omega
        have ih := fillC_rel hr place place' hpl rest cs1 cs' (us.toList.take off ++ (a.eval x).cells.toList ++ us.toList.drop (off + (a.eval x).cells.toList.length)).toArray h (by simpa using hrel)
        obtain ⟨us', hf, hr'⟩ := ih
        refine ⟨us', ?_, hr'⟩
        simp only [List.map_cons]
        rw [fill_step place' us i off sz _ _ (hpl _ _ hp) hsz (by simpa using hfit)]
        exact hf
      · cases h
    · cases h

theorem cellsV_rel (ρ : List Loc) (z : Value) : RelL ρ (cellsV z) z.cells.toList :=
  avCells_rel (av := .c (.v z)) (v := z) (by simp [avCells]) rfl

theorem run_zeroValue {P : Program} {T : TypeId} {i : TypeInfo} {z : Value} (hi : P.info? T = some i) (hz : i.zero = some z) (w : World) : (zeroValue T).run P w = .ok z w := by
  simp [zeroValue, typeInfo, hi, hz]

def pl1 (P : Program) (f : Field) : Option (Nat × Nat) := (P.info? f.type).map fun inf => (f.offset, inf.size)
theorem places_run {P : Program} (w : World) : ∀ l : List Field, fieldsOk P l = true →
    ∃ q : List (Nat × Nat), (l.mapM fun f => (do pure (f.offset, ← sizeOf f.type) : Sem (Nat × Nat))).run P w = .ok q w ∧ ∀ i : Nat, q[i]? = (l[i]?).bind (pl1 P)
  | [], _ => ⟨[], by simp, fun i => by simp⟩
  | f :: l, h => by
    simp only [fieldsOk] at h
    split at h
    · rename_i fi hfi
      obtain ⟨q, hq, hqi⟩ := places_run w l h
      refine ⟨(f.offset, fi.size) :: q, ?_, ?_⟩
      · simp only [List.mapM_cons, Sem.run_bind, sizeOf, typeInfo, run_program, Result.andThen_ok, hfi, Sem.run_pure]
        simp only [sizeOf, typeInfo] at hq
        rw [hq]
        rfl
      · intro i
        cases i with
        | zero => simp [pl1, hfi]
        | succ i => simpa using hqi i
    · cases h
theorem build_sound {P : Program} {o : Oper} {s : List AV} {H : List Ent} {T : TypeId} {parts : Array (Nat × Operand)} {fs : Array Field} {inf : TypeInfo} {z : Value} {cs : List CV} (ho : o.op = .build T parts)
    (hu : P.underlying T = some (.struct fs)) (hi : P.info? T = some inf) (hz : inf.zero = some z) (hok : fieldsOk P fs.toList = true) (hf : fillC (placeF P fs) s parts.toList (cellsV z) = some cs) :
    Reads P o s H (mkAgg cs) := by
  intro ρ S w a _ hr
  obtain ⟨q, hq, hqi⟩ := places_run (P := P) w fs.toList hok
  have hpl : ∀ i p, placeF P fs i = some p → (fun i => q.toArray[i]?) i = some p := fun i p h => by
    simp only [List.getElem?_toArray]
    rw [hqi i]
    unfold placeF at h
    split at h
    · rename_i f hf
      split at h
      · rename_i fi hfi
        simp at h
        have : fs.toList[i]? = some f := by simpa using hf
        simp [this, pl1, hfi, h]
      · cases h
    · cases h
  obtain ⟨us', h1, h2⟩ := fillC_rel hr (placeF P fs) (fun i => q.toArray[i]?) hpl parts.toList (cellsV z) cs z.cells hf (cellsV_rel ρ z)
  have hm := mkAgg_rel h2
  refine ⟨.agg us', ?_, by simpa using hm⟩
  have hq2 : (fs.mapM fun f => (do pure (f.offset, ← sizeOf f.type) : Sem (Nat × Nat))).run P w = .ok q.toArray w := by
    rw [Array.mapM_eq_mapM_toList, Sem.run_map, hq]; rfl
  unfold execOp
  simp only [ho, Instr.build, Sem.run_bind, run_zeroValue hi hz, run_underlying hu, Result.andThen_ok, hq2, Sem.run_pure]
  have e : (parts.map fun (i, x) => (i, a.eval x)).toList = parts.toList.map fun p => (p.1, a.eval p.2) := by simp
  rw [e, h1]
  rfl
theorem sameKind_eq {j k : IntKind} (h : sameKind j k = true) : j = k := by
  cases j <;> cases k <;> first | rfl | cases h
theorem divK_sound {P : Program} {o : Oper} {s : List AV} {H : List Ent} {K : AV → Prop} {op : BinOp} {T U : TypeId} {x y : Operand} {j k : IntKind} {a b : Int}
    (ho : o.op = .binOp op T x y U) (hx : opv s x = .c (.v (.int j a))) (hy : opv s y = .c (.v (.int k b))) (hjk : sameKind j k = true) (h : divK op j a b K) : ∃ av, K av ∧ Reads P o s H av := by
  have := sameKind_eq hjk
  subst this
  have key : ∀ v, K (.c (.v v)) → (∀ w, (binOp op T (.int j a) (.int j b)).run P w = .ok v w) → (∀ w, (eqGuard op T x y (.int j a) (.int j b)).run P w = .ok () w) → ∃ av, K av ∧ Reads P o s H av := by
    intro v hK hrun hg
    refine ⟨_, hK, fun ρ S w ac _ hr => ⟨v, ?_, rfl⟩⟩
    have h1 := opv_rel hr x
    have h2 := opv_rel hr y
    rw [hx] at h1; rw [hy] at h2
    have e1 : ac.eval x = .int j a := h1
    have e2 : ac.eval y = .int j b := h2
    exact execOp_bin ho (by rw [e1, e2]; exact hg w) (by rw [e1, e2]; exact hrun w)
  unfold divK at h
  split at h
  · obtain ⟨hb, h⟩ := h
    exact key _ h (fun w => by simp [binOp, Op.intDiv, hb]) (fun w => rfl)
  · obtain ⟨hb, h⟩ := h
    exact key _ h (fun w => by simp [binOp, Op.intDiv, hb]) (fun w => rfl)
  · exact h.elim

theorem opvs_one {s : List AV} {l : List Operand} {a : AV} (h : opvs s l = [a]) : ∃ x, l = [x] ∧ opv s x = a := by
  match l, h with
  | [x], h => simp [opvs] at h; exact ⟨x, rfl, h⟩
  | [], h => simp [opvs] at h
  | _ :: _ :: _, h => simp [opvs] at h
theorem opvs_two {s : List AV} {l : List Operand} {a b : AV} (h : opvs s l = [a, b]) : ∃ x y, l = [x, y] ∧ opv s x = a ∧ opv s y = b := by
  match l, h with
  | [x, y], h => simp [opvs] at h; exact ⟨x, y, rfl, h.1, h.2⟩
  | [], h => simp [opvs] at h
  | [_], h => simp [opvs] at h
  | _ :: _ :: _ :: _, h => simp [opvs] at h
theorem execOp_blt {P : Program} {o : Oper} {ev : Operand → Value} {w : World} {b : Builtin} {args : Array Operand} {ts : Array TypeId} {v : Value}
    (ho : o.op = .call { callee := .builtin b, args := args, argTypes := ts }) (h : ∀ consts, (builtin b ts o.type consts (args.toList.map ev).toArray).run P w = .ok (.value v) w) : (execOp ev o).run P w = .ok (.value v) w := by
  have e : args.map ev = (args.toList.map ev).toArray := by apply Array.ext'; simp
  unfold execOp
  simp only [ho, resolve, invoke, Sem.run_bind, Sem.run_pure, Result.andThen_ok, e]
  exact h _
theorem lenK_sound {P : Program} {o : Oper} {s : List AV} {H : List Ent} {K : AV → Prop} {T : TypeId} {x : Operand} {args : Array Operand} {ts : Array TypeId}
    (ho : o.op = .call { callee := .builtin .len, args := args, argTypes := ts }) (ht : ts.toList = [T]) (ha : args.toList = [x]) (h : lenK P T (opv s x) K) : ∃ av, K av ∧ Reads P o s H av := by
  have hts : ts = #[T] := by rw [← Array.toArray_toList (xs := ts), ht]
  unfold lenK at h
  split at h
  · rename_i hu
    split at h
    · rename_i b hx
      refine ⟨_, h, fun ρ S w a _ hr => ⟨_, execOp_blt ho fun consts => ?_, rfl⟩⟩
      have hxr := opv_rel hr x
      rw [hx] at hxr
      have he : a.eval x = .string b := hxr
      rw [ha, hts]
      simp [builtin, Builtin.len_, run_underlying hu, he, goInt]
    · exact h.elim
  · rename_i e hu
    split at h
    · rename_i p n c hx
      refine ⟨_, h, fun ρ S w a _ hr => ⟨_, execOp_blt ho fun consts => ?_, rfl⟩⟩
      have hxr := opv_rel hr x
      rw [hx] at hxr
      have he : a.eval x = .slice p n c := hxr
      rw [ha, hts]
      simp [builtin, Builtin.len_, run_underlying hu, he, goInt]
    · rename_i i n hx
      refine ⟨_, h, fun ρ S w a _ hr => ⟨_, execOp_blt ho fun consts => ?_, rfl⟩⟩
      have hxr := opv_rel hr x
      rw [hx] at hxr
      obtain ⟨l, _, he⟩ := hxr
      rw [ha, hts]
      simp [builtin, Builtin.len_, run_underlying hu, he, goInt]
    · exact h.elim
  · exact h.elim
theorem bltK_sound {P : Program} {o : Oper} {s : List AV} {H : List Ent} {K : AV → Prop} {b : Builtin} {args : Array Operand} {ts : Array TypeId}
    (ho : o.op = .call { callee := .builtin b, args := args, argTypes := ts }) (h : bltK P b ts.toList (opvs s args.toList) K) : ∃ av, K av ∧ Reads P o s H av := by
  unfold bltK at h
  split at h
  · split at h
    · rename_i T x ht hx
      obtain ⟨x', ha, rfl⟩ := opvs_one hx
      exact lenK_sound ho ht ha h
    · exact h.elim
  · split at h
    · rename_i T p n c ht hx
      obtain ⟨x', ha, hx'⟩ := opvs_one hx
      have hts : ts = #[T] := by rw [← Array.toArray_toList (xs := ts), ht]
      split at h
      · rename_i e hu
        refine ⟨_, h, fun ρ S w a _ hr => ⟨_, execOp_blt ho fun consts => ?_, rfl⟩⟩
        have hxr := opv_rel hr x'
        rw [hx'] at hxr
        have he : a.eval x' = .slice p n c := hxr
        rw [ha, hts]
        simp [builtin, Builtin.cap_, run_underlying hu, he, goInt]
      · exact h.elim
    · exact h.elim
  · split at h
    · rename_i j a k b hx
      split at h
      · rename_i hjk
        have := sameKind_eq hjk
        subst this
        obtain ⟨x', y', ha, hx, hy⟩ := opvs_two hx
        refine ⟨_, h, fun ρ S w ac _ hr => ⟨_, execOp_blt ho fun consts => ?_, rfl⟩⟩
        have h1 := opv_rel hr x'
        have h2 := opv_rel hr y'
        rw [hx] at h1; rw [hy] at h2
        have e1 : ac.eval x' = .int j a := h1
        have e2 : ac.eval y' = .int j b := h2
        rw [ha]
        simp [builtin, Builtin.min_, Builtin.min2, e1, e2, minI]
      · exact h.elim
    · exact h.elim
  · split at h
    · rename_i j a k b hx
      split at h
      · rename_i hjk
        have := sameKind_eq hjk
        subst this
        obtain ⟨x', y', ha, hx, hy⟩ := opvs_two hx
        refine ⟨_, h, fun ρ S w ac _ hr => ⟨_, execOp_blt ho fun consts => ?_, rfl⟩⟩
        have h1 := opv_rel hr x'
        have h2 := opv_rel hr y'
        rw [hx] at h1; rw [hy] at h2
        have e1 : ac.eval x' = .int j a := h1
        have e2 : ac.eval y' = .int j b := h2
        rw [ha]
        simp [builtin, Builtin.max_, Builtin.max2, e1, e2, maxI]
      · exact h.elim
    · exact h.elim
  · exact h.elim

/-- A reading operation by the model's own word. -/
def ReadW (P : Program) (o : Oper) (s : List AV) (H : List Ent) (K : AV → Prop) : Prop := ∃ av, K av ∧ Reads P o s H av
/-- An operation that only reads. -/
def readK (P : Program) (o : Oper) (s : List AV) (H : List Ent) (K : AV → Prop) : Prop :=
  match o.op with
  | .move x => forceA (opv s x) K
  | .assign x => asgK s x K
  | .pick c a b => match opv s c with
    | .c (.v (.bool t)) => brd t (forceA (opv s a) K) (forceA (opv s b) K)
    | _ => False
  | .load T x => match opv s x with
    | .c (.lp i off) => loadL P T (nthE H i) off K
    | .c (.v (.pointer (some a))) => LdN P T a H K
    | _ => False
  | .fieldAddr T x f => match opv s x with
    | .c (.lp i off) => match fieldOff P T f with | some fo => forceN fo fun fo => K (.c (.lp i (off + fo))) | none => False
    | .c (.v (.pointer (some a))) => match fieldOff P T f with | some fo => forceN fo fun fo => K (.c (.v (.pointer (some (a.add fo))))) | none => False
    | _ => False
  | .indexAddr T x i => match opv s x, opv s i with
    | .c (.sl j n), .c (.v (.int _ k)) => match P.underlying T with
      | some (.slice e) => match P.info? e with
        | some inf => Nd (0 ≤ k ∧ k < (n : Int)) (K (.c (.lp j (k.toNat * inf.size))))
        | none => False
      | _ => False
    | .c (.v (.slice a n _)), .c (.v (.int _ k)) => match P.underlying T with
      | some (.slice e) => match P.info? e with
        | some inf => Nd (a.isSome = true ∧ 0 ≤ k ∧ k < (n : Int)) (K (.c (.v (.pointer (some (elemAddr a (k.toNat * inf.size)))))))
        | none => False
      | _ => False
    | .c (.lp j off), .c (.v (.int _ k)) => match P.underlying T with
      | some (.array n e) => match P.info? e with
        | some inf => Nd (0 ≤ k ∧ k < (n : Int)) (K (.c (.lp j (off + k.toNat * inf.size))))
        | none => False
      | _ => False
    | _, _ => False
  | .index T x i => match opv s x, opv s i with
    | .c (.v (.string b)), .c (.v (.int _ n)) => match P.underlying T with
      | some .string => Nd (0 ≤ n ∧ n < (b.size : Int)) (K (.c (.v (.int .u8 (byteAt b n.toNat)))))
      | _ => False
    | _, _ => genK P o s K
  | .slice .. => ReadW P o s H K
  | .lookup .. => ReadW P o s H K
  | .convert _ _ x => match opv s x with
    | .c (.v (.slice ..)) => ReadW P o s H K
    | .c (.v (.string _)) => ReadW P o s H K
    | .c (.lp ..) => ReadW P o s H K
    | _ => genK P o s K
  | .call { callee := .builtin b, args := args, argTypes := ts } => match b with
    | .len | .min | .max | .cap => bltK P b ts.toList (opvs s args.toList) K
    | _ => ReadW P o s H K
  | .nilCheck x => match opv s x with
    | .c (.lp i off) => K (.c (.lp i off))
    | _ => genK P o s K
  | .build T parts => match P.underlying T with
    | some (.struct fs) => match P.info? T with
      | some inf => match inf.zero with
        | some z => match fieldsOk P fs.toList, fillC (placeF P fs) s parts.toList (cellsV z) with
          | true, some cs => forceA (mkAgg cs) K
          | _, _ => False
        | none => False
      | none => False
    | _ => False
  | .binOp op T x y _ => match opv s x, opv s y with
    | .c (.v (.string a)), .c (.v (.string b)) => strBin op a b K
    | .c (.v (.agg a)), .c (.v (.agg b)) => aggBin P op T a b K
    | .c (.v (.int j a)), .c (.v (.int k b)) => match isDiv op y with
      | false => genK P o s K
      | true => match sameKind j k with
        | true => divK op j a b K
        | false => False
    | .c (.lp ..), _ => ReadW P o s H K
    | _, .c (.lp ..) => ReadW P o s H K
    | _, _ => genK P o s K
  | _ => genK P o s K

theorem read_sound {P : Program} {o : Oper} {s : List AV} {H : List Ent} {K : AV → Prop} (h : readK P o s H K) : ∃ av, K av ∧ Reads P o s H av := by
  unfold readK at h
  split at h
  · rename_i x ho
    rw [forceA_eq] at h
    exact reads_same (x := x) (fun ev => by unfold execOp; rw [ho]) h
  · rename_i x ho
    have hk : K (opv s x) := by
      unfold asgK at h
      split at h
      · rw [forceA_eq] at h; exact h
      · split at h
        · rename_i hx
          obtain ⟨h⟩ := h
          rw [hx]; exact h
        · rw [forceA_eq] at h; exact h
    exact reads_same (x := x) (fun ev => by unfold execOp; rw [ho]) hk
  · rename_i c a b ho
    split at h
    · rename_i t hc
      rw [forceA_eq, forceA_eq] at h
      cases t with
      | true =>
        refine ⟨_, h, fun ρ S w ac _ hr => ⟨ac.eval a, ?_, opv_rel hr a⟩⟩
        have hcr := opv_rel hr c
        rw [hc] at hcr
        have e : ac.eval c = .bool true := hcr
        unfold execOp
        simp [ho, e, asBool]
      | false =>
        refine ⟨_, h, fun ρ S w ac _ hr => ⟨ac.eval b, ?_, opv_rel hr b⟩⟩
        have hcr := opv_rel hr c
        rw [hc] at hcr
        have e : ac.eval c = .bool false := hcr
        unfold execOp
        simp [ho, e, asBool]
    · exact h.elim
  · rename_i T x ho
    split at h
    · rename_i i off hx
      exact loadL_sound ho hx h
    · rename_i a hx
      obtain ⟨y, hok, h⟩ := h
      rw [forceV_eq] at h
      refine ⟨_, h, fun ρ S w ac hs hr => ⟨y, ?_, rfl⟩⟩
      have hxr := opv_rel hr x
      rw [hx] at hxr
      exact execOp_load ho hxr (hok w hs.facts)
    · exact h.elim
  · rename_i T x f ho
    have fin : ∀ (p : Addr) (fo : Nat) (w : World) (ev : Operand → Value), ev x = .pointer (some p) → fieldOff P T f = some fo → (execOp ev o).run P w = .ok (.value (.pointer (some (p.add fo)))) w := fun p fo w ev hx hfo => by
      unfold execOp
      simp only [ho, hx, Sem.run_bind, fieldOff_spec hfo w p, Result.andThen_ok, Sem.run_pure]
    split at h
    · rename_i i off hx
      split at h
      · rename_i fo hfo
        rw [forceN_eq] at h
        refine ⟨_, h, fun ρ S w ac hs hr => ?_⟩
        have hxr := opv_rel hr x
        rw [hx] at hxr
        obtain ⟨l, hl, he⟩ := hxr
        exact ⟨_, fin _ _ w _ he hfo, l, hl, by rw [add_lit]⟩
      · exact h.elim
    · rename_i a hx
      split at h
      · rename_i fo hfo
        rw [forceN_eq] at h
        refine ⟨_, h, fun ρ S w ac hs hr => ?_⟩
        have hxr := opv_rel hr x
        rw [hx] at hxr
        exact ⟨_, fin _ _ w _ hxr hfo, rfl⟩
      · exact h.elim
    · exact h.elim
  · rename_i T x i ho
    split at h
    · rename_i j n kk k hx hi
      split at h
      · rename_i e hu
        split at h
        · rename_i inf hinf
          obtain ⟨hb, h⟩ := h
          refine ⟨_, h, fun ρ S w ac hs hr => ?_⟩
          have hxr := opv_rel hr x
          have hir := opv_rel hr i
          rw [hx] at hxr; rw [hi] at hir
          obtain ⟨l, hl, he⟩ := hxr
          have hi2 : ac.eval i = .int kk k := hir
          refine ⟨_, execOp_indexAddr ho (by rw [he, hi2]; exact run_indexAt hu hinf w _ n l.cap kk k hb), l, hl, by rw [add_lit]; simp⟩
        · exact h.elim
      · exact h.elim
    · rename_i a n cap kk k hx hi
      split at h
      · rename_i e hu
        split at h
        · rename_i inf hinf
          obtain ⟨hb, h⟩ := h
          refine ⟨_, h, fun ρ S w ac hs hr => ?_⟩
          have hxr := opv_rel hr x
          have hir := opv_rel hr i
          rw [hx] at hxr; rw [hi] at hir
          have hx2 : ac.eval x = .slice a n cap := hxr
          have hi2 : ac.eval i = .int kk k := hir
          cases a with
          | none => exact absurd hb.1 (by simp)
          | some p => exact ⟨_, execOp_indexAddr ho (by rw [hx2, hi2]; exact run_indexAt hu hinf w p n cap kk k hb.2), rfl⟩
        · exact h.elim
      · exact h.elim
    · rename_i j off kk k hx hi
      split at h
      · rename_i n e hu
        split at h
        · rename_i inf hinf
          obtain ⟨hb, h⟩ := h
          refine ⟨_, h, fun ρ S w ac hs hr => ?_⟩
          have hxr := opv_rel hr x
          have hir := opv_rel hr i
          rw [hx] at hxr; rw [hi] at hir
          obtain ⟨l, hl, he⟩ := hxr
          have hi2 : ac.eval i = .int kk k := hir
          refine ⟨_, execOp_indexAddr ho (by rw [he, hi2]; exact run_indexAt_array hu hinf w _ kk k hb), l, hl, by rw [add_lit]⟩
        · exact h.elim
      · exact h.elim
    · exact h.elim
  · rename_i T x i ho
    split at h
    · rename_i b kk n hx hi
      split at h
      · rename_i hu
        obtain ⟨hb, h⟩ := h
        refine ⟨_, h, fun ρ S w ac hs hr => ⟨_, ?_, rfl⟩⟩
        have hxr := opv_rel hr x
        have hir := opv_rel hr i
        rw [hx] at hxr; rw [hi] at hir
        have hx2 : ac.eval x = .string b := hxr
        have hi2 : ac.eval i = .int kk n := hir
        unfold execOp
        simp only [ho, hx2, hi2, Sem.run_bind, run_index_string w b kk n hu hb, Result.andThen_ok, Sem.run_pure]
      · exact h.elim
    · exact gen_sound h
  · exact h
  · exact h
  · split at h
    · exact h
    · exact h
    · exact h
    · exact gen_sound h
  · rename_i b args ts ho
    split at h <;> first | exact bltK_sound ho h | exact h
  · rename_i x ho
    split at h
    · rename_i i off hx
      refine ⟨_, h, fun ρ S w ac _ hr => ?_⟩
      have hxr := opv_rel hr x
      rw [hx] at hxr
      obtain ⟨l, hl, he⟩ := hxr
      refine ⟨_, ?_, l, hl, rfl⟩
      unfold execOp
      simp [ho, he]
    · exact gen_sound h
  · rename_i T parts ho
    split at h
    · rename_i fs hu
      split at h
      · rename_i inf hi
        split at h
        · rename_i z hz
          split at h
          · rename_i cs hok hf
            rw [forceA_eq] at h
            exact ⟨_, h, build_sound ho hu hi hz hok hf⟩
          · exact h.elim
        · exact h.elim
      · exact h.elim
    · exact h.elim
  · rename_i op T x y U ho
    split at h
    · rename_i a b hx hy
      exact strBin_sound ho hx hy h
    · rename_i a b hx hy
      exact aggBin_sound ho hx hy h
    · rename_i j a k b hx hy
      split at h
      · exact gen_sound h
      · split at h
        · rename_i hjk
          exact divK_sound ho hx hy hjk h
        · exact h.elim
    · exact h
    · exact h
    · exact gen_sound h
  · exact gen_sound h
end Go.AX
