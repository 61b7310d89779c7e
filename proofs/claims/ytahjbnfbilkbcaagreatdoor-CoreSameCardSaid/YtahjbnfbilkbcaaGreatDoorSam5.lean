/-
  Lemmas (Ax28 Ax29 Ax25 Ax30 Ax31 Ax32 Ax33 Ax35 Ax36 S1 S2 N2 P9 Ax40 Ax46 Ax45 Ax44 Ax39 Ax41 Ax42 Ax43 C1 Ax27 Ax37 A1 R1 C10 C2 C3 C4 N3 C5 C6 Ax48).
-/
import Derived.Laws.IdiomCopy
import Derived.Laws.MakeOwn
import Derived.Laws.IdiomStrings
import Derived.Lib.AppendZerosOnto
import Derived.Recover
import Derived.Lay
import Derived.Lib.LaidU8
import Derived.PinnedBridge
import Derived.Test.YtahjbnfbilkbcaaGreatDoorSam4
set_option linter.unusedVariables false
set_option linter.unusedSimpArgs false
/-
  AX, twenty-eighth text: a struct of one's own at a known address: one cell is set (as the model's own functions without body set it).
-/
namespace Go.AX

theorem app1_arr {ρ : List Loc} {S : Nat → Prop} {w : World} {i : Nat} {T : TypeId} {m b : Nat} {xs : List Value} (h : EntOk ρ S w i (.app T m xs (some ⟨b, 0, none⟩) 1 1)) : (∃ fr, w.heap[b]? = some (.cells xs.toArray T fr) ∧ NoFr fr xs.length) ∧ xs.length = m := by
  rcases h with ⟨h0, _⟩ | ⟨b', hb', arr, fr, ⟨hb, hfr⟩, hxl, _, _, hasz, htk⟩
  · cases h0
  · cases hb'
    rw [Nat.one_mul] at hxl hasz htk
    have e : arr.toList = xs := by rw [← htk, List.take_of_length_le (by simp [hasz])]
    refine ⟨⟨fr, ?_, ?_⟩, hxl⟩
    · rw [hb, ← e]
    · rw [← e]; simpa using hfr
theorem Sat.setApp1 {ρ : List Loc} {S : Nat → Prop} {H : List Ent} {w : World} {i : Nat} {T : TypeId} {m b : Nat} {xs : List Value} (hs : Sat ρ S H w) (hi : H[i]? = some (.app T m xs (some ⟨b, 0, none⟩) 1 1)) (j : Nat) (v : Value) {w0 : World} (hh : w0.heap = w.heap) (ho : w0.os = w.os) (ht : w0.tape = w.tape) (hu : w0.output = w.output) :
    Sat ρ S (H.set i (.app T m (xs.set j v) (some ⟨b, 0, none⟩) 1 1)) (w0.setCell ⟨b, j, none⟩ v) ∧ Ev ρ S H w ρ S (H.set i (.app T m (xs.set j v) (some ⟨b, 0, none⟩) 1 1)) (w0.setCell ⟨b, j, none⟩ v) := by
  obtain ⟨⟨fr, hb, hfr⟩, hm⟩ := app1_arr (hs.ent i _ hi)
  have hbl : b < w.heap.size := (Array.getElem?_eq_some_iff.1 hb).1
  have hsame : (w0.setCell ⟨b, j, none⟩ v).heap[b]? = some (.cells (xs.toArray.setIfInBounds j v) T fr) := by
    simp [World.setCell, Array.getElem?_modify, hh, hb]
  refine hs.setG (e' := .app T m (xs.set j v) (some ⟨b, 0, none⟩) 1 1) (c := b) hi rfl (by simp [World.setCell, hh]) (fun k _ hne => by simp [World.setCell, Array.getElem?_modify, Ne.symm hne, hh]) ho ht hu (fun c hc => .inl (Option.some.inj hc).symm) (.inr ⟨b, rfl, _, fr, ⟨hsame, by simpa using hfr⟩, by simp [hm], Nat.le_refl _, by simp only [maxLen]; omega, by simp [hm], ?_⟩)
  simp only [Nat.one_mul]
  rw [List.take_of_length_le (by simp [hm])]
  simp
theorem app1_cell {ρ : List Loc} {S : Nat → Prop} {w : World} {i : Nat} {T : TypeId} {m b : Nat} {xs : List Value} (h : EntOk ρ S w i (.app T m xs (some ⟨b, 0, none⟩) 1 1)) {j : Nat} {v : Value} (hv : xs[j]? = some v) : w.cell? ⟨b, j, none⟩ = some v ∧ w.frozen? ⟨b, j, none⟩ = false := by
  obtain ⟨⟨fr, hb, hfr⟩, _⟩ := app1_arr h
  have hj := (List.getElem?_eq_some_iff.1 hv).1
  constructor
  · simp [World.cell?, hb, hv]
  · obtain ⟨lo, hi⟩ := fr
    simp only [World.frozen?, hb, Bool.and_eq_false_iff, decide_eq_false_iff_not]
    rcases hfr with h | h
    · cases h; right; omega
    · left; simp only at h; omega
/-- sync.Once.Do of a function by its contract, not yet done: cells 0 and 1 of the struct are the Once's word and its lock's state. -/
theorem SpecH.once {P : Program} {fd fb : FuncId} {p : Value} {H : List Ent} {K : Out → List Ent → Prop} (ok : CallOk P fd) (i : Nat) {T : TypeId} {m b : Nat} {xs : List Value} (hi : nthE H i = some (.app T m xs (some ⟨b, 0, none⟩) 1 1)) (hx0 : xs[0]? = some (.int .u32 0)) (hx1 : xs[1]? = some (.int .i32 0))
    (raw : ∀ (Q : World → Prop) (w : World), w.cell? ⟨b, 0, none⟩ = some (.int .u32 0) → w.cell? ⟨b, 1, none⟩ = some (.int .i32 0) → w.frozen? ⟨b, 1, none⟩ = false →
      Calls P fb #[p] (w.setCell ⟨b, 1, none⟩ (.int .i32 1)) (fun e w2 => e = .returned (.tuple #[]) ∧ Q w2) →
      (∀ w2, Q w2 → (∃ x, w2.cell? ⟨b, 0, none⟩ = some x) ∧ w2.cell? ⟨b, 1, none⟩ = some (.int .i32 1) ∧ w2.frozen? ⟨b, 0, none⟩ = false ∧ w2.frozen? ⟨b, 1, none⟩ = false) →
      Calls P fd #[.pointer (some ⟨b, 0, none⟩), .func (.func fb) #[p] #[]] w fun e w' => e = .returned (.tuple #[]) ∧ ∃ w2, Q w2 ∧ w' = (w2.drew.setCell ⟨b, 0, none⟩ (.int .u32 1)).setCell ⟨b, 1, none⟩ (.int .i32 0))
    (hb : SpecH P fb (pvs [p]) (H.set i (.app T m (xs.set 1 (.int .i32 1)) (some ⟨b, 0, none⟩) 1 1)) fun out H2 => out = .val (.c (.v (.tuple #[]))) ∧ ∃ m2 ys, H2[i]? = some (.app T m2 ys (some ⟨b, 0, none⟩) 1 1) ∧ (∃ x, ys[0]? = some x) ∧ ys[1]? = some (.int .i32 1) ∧
      K (.val (.c (.v (.tuple #[])))) (H2.set i (.app T m2 ((ys.set 0 (.int .u32 1)).set 1 (.int .i32 0)) (some ⟨b, 0, none⟩) 1 1))) :
    SpecH P fd (pvs [.pointer (some ⟨b, 0, none⟩), .func (.func fb) #[p] #[]]) H K := by
  rw [nthE_eq] at hi
  refine ⟨ok, fun ρ S w vs hs hr => ?_⟩
  obtain rfl := RelS_pvs hr
  obtain ⟨c0, _⟩ := app1_cell (hs.ent i _ hi) hx0
  obtain ⟨c1, z1⟩ := app1_cell (hs.ent i _ hi) hx1
  obtain ⟨hs1, hev1⟩ := hs.setApp1 hi 1 (.int .i32 1) (w0 := w) rfl rfl rfl rfl
  have hrun := hb.run ρ S _ [p] hs1 (pvs_rel ρ [p])
  refine (raw (fun w2 => ∃ ρ' S' H2, Sat ρ' S' H2 w2 ∧ Ev ρ S H w ρ' S' H2 w2 ∧ ∃ m2 ys, H2[i]? = some (.app T m2 ys (some ⟨b, 0, none⟩) 1 1) ∧ (∃ x, ys[0]? = some x) ∧ ys[1]? = some (.int .i32 1) ∧
      K (.val (.c (.v (.tuple #[])))) (H2.set i (.app T m2 ((ys.set 0 (.int .u32 1)).set 1 (.int .i32 0)) (some ⟨b, 0, none⟩) 1 1))) w c0 c1 z1 ?_ ?_).mono ?_
  · refine hrun.mono fun e w2 ⟨ρ', S', H2, out, hs2, hev2, hout, hx, hrest⟩ => ?_
    subst hx
    obtain ⟨v, rfl, hv⟩ := hout
    have : v = .tuple #[] := hv
    subst this
    exact ⟨rfl, ρ', S', H2, hs2, hev1.trans hev2, hrest⟩
  · rintro w2 ⟨ρ', S', H2, hs2, _, m2, ys, h2, ⟨x, hy0⟩, hy1, _⟩
    obtain ⟨d0, y0⟩ := app1_cell (hs2.ent i _ h2) hy0
    obtain ⟨d1, y1⟩ := app1_cell (hs2.ent i _ h2) hy1
    exact ⟨⟨x, d0⟩, d1, y0, y1⟩
  · rintro e w' ⟨rfl, w2, ⟨ρ', S', H2, hs2, hev2, m2, ys, h2, _, _, hK⟩, rfl⟩
    obtain ⟨hs3, hev3⟩ := hs2.setApp1 h2 0 (.int .u32 1) (w0 := w2.drew) rfl rfl rfl rfl
    have h3 : (H2.set i (.app T m2 (ys.set 0 (.int .u32 1)) (some ⟨b, 0, none⟩) 1 1))[i]? = some (.app T m2 (ys.set 0 (.int .u32 1)) (some ⟨b, 0, none⟩) 1 1) := by
      rw [List.getElem?_set_self (List.getElem?_eq_some_iff.1 h2).1]
    obtain ⟨hs4, hev4⟩ := hs3.setApp1 h3 1 (.int .i32 0) (w0 := w2.drew.setCell ⟨b, 0, none⟩ (.int .u32 1)) rfl rfl rfl rfl
    rw [List.set_set] at hs4 hev4
    exact ⟨ρ', S', _, .val (.c (.v (.tuple #[]))), hs4, (hev2.trans hev3).trans hev4, ⟨.tuple #[], rfl, rfl⟩, hK⟩
end Go.AX

/-
  AX, twenty-ninth text: the rest of a slice.
-/
namespace Go.AX
theorem ReadW.slc_l {P : Program} {o : Oper} {s : List AV} {H : List Ent} {K : AV → Prop} {t e : TypeId} {x y : Operand} {b n cap : Nat} {k : IntKind} {i : Int} (j : Nat) (ho : o.op = .slice t x (some y) none none) (hu : P.underlying t = some (.slice e)) (he : byteB P e = true)
    (hx : opv s x = .c (.v (.slice (some ⟨b, 0, none⟩) n cap))) (hy : opv s y = .c (.v (.int k i))) (hj : i = (j : Int) ∧ j ≤ n ∧ n ≤ cap ∧ j < cap) (h : K (.c (.v (.slice (some ⟨b, j, none⟩) (n - j) (cap - j))))) : ReadW P o s H K := by
  obtain ⟨inf, hi, _, h1, _⟩ := byteB_spec he
  obtain ⟨rfl, hjn, hnc, hjc⟩ := hj
  refine ReadW.val _ (fun cs b => by rw [ho]; simp) (by rw [ho]; simp [Op.operands, allPlain, hx, hy]) (fun w _ => ?_) h
  have e1 := plainEv_v hx
  have e2 := plainEv_v hy
  have : (Instr.sliceAt t (.slice (some ⟨b, 0, none⟩) n cap) (some (.int k (j : Int))) none none).run P w = .ok (.slice (some ⟨b, j, none⟩) (n - j) (cap - j)) w := by
    simp [Instr.sliceAt, Instr.slice, run_underlying hu, Instr.sliceBounds, Instr.sliceBound, asIntOf, hjn, sizeOf, typeInfo, hi, h1, add_lit0]
    omega
  refine run_op_slice ho ?_
  rw [e1]
  simpa [e2] using this
theorem setCells_heap (b : Nat) (T : TypeId) (fr : Nat × Nat) : ∀ (ys : List Value) (q : Nat) (w : World) (arr : Array Value), w.heap[b]? = some (.cells arr T fr) → q + ys.length ≤ arr.size →
    (w.setCells b q ys).heap[b]? = some (.cells (arr.toList.take q ++ ys ++ arr.toList.drop (q + ys.length)).toArray T fr)
  | [], q, w, arr, h, _ => by simp [World.setCells, h]
  | v :: r, q, w, arr, h, hl => by
    simp only [List.length_cons] at hl
    rw [World.setCells, setCells_heap b T fr r (q + 1) (w.setCell ⟨b, q, none⟩ v) (arr.setIfInBounds q v) (by simp [World.setCell, Array.getElem?_modify, h]) (by simp; omega)]
    congr 3
    rw [Array.toList_setIfInBounds, List.drop_set_of_lt (by omega), List.take_set, List.length_cons, show q + 1 + r.length = q + (r.length + 1) by omega]
    have e : (arr.toList.take (q + 1)).set q v = arr.toList.take q ++ [v] := by
      rw [List.take_succ_eq_append_getElem (by simp; omega), List.set_append_right _ _ (by simp; omega)]
      simp [show min q arr.size = q by omega]
    rw [e]; simp
theorem setCells_rest (b : Nat) : ∀ (ys : List Value) (q : Nat) (w : World), (w.setCells b q ys).heap.size = w.heap.size ∧ (∀ k, k ≠ b → (w.setCells b q ys).heap[k]? = w.heap[k]?) ∧ (w.setCells b q ys).os = w.os ∧ (w.setCells b q ys).tape = w.tape ∧ (w.setCells b q ys).output = w.output
  | [], _, _ => ⟨rfl, fun _ _ => rfl, rfl, rfl, rfl⟩
  | v :: r, q, w => by
    obtain ⟨h1, h2, h3, h4, h5⟩ := setCells_rest b r (q + 1) (w.setCell ⟨b, q, none⟩ v)
    rw [World.setCells]
    exact ⟨h1.trans (by simp [World.setCell]), fun k hk => (h2 k hk).trans (by simp [World.setCell, Array.getElem?_modify, Ne.symm hk]), h3, h4, h5⟩
/-- copy of cells that are read into a part of an own row of bytes. -/
theorem EffW.copyIn {P : Program} {o : Oper} {s : List AV} {H : List Ent} {K : AV → List Ent → Prop} {args : Array Operand} {ts : Array TypeId} {T U e : TypeId} {x y : Operand} {b q dl dc n cap sl sc : Nat} {a : Addr} {xs ys : List Value} (i : Nat) (ho : o.op = .call { callee := .builtin .copy, args := args, argTypes := ts }) (ha : args.toList = [x, y]) (ht : ts.toList = [T, U])
    (hT : P.underlying T = some (.slice e)) (he : byteB P e = true) (hx : opv s x = .c (.v (.slice (some ⟨b, q, none⟩) dl dc))) (hy : opv s y = .c (.v (.slice (some a) sl sc))) (hi : nthE H i = some (.app e 1 xs (some ⟨b, 0, none⟩) n cap))
    (hF : ∀ w, Facts H w → SlAt (some a) sl ys w) (hone : ∀ v ∈ ys, v.oneCell' = true) (hle : sl ≤ dl) (hq : q + sl ≤ n)
    (next : setEK H i (.app e 1 (xs.take q ++ ys ++ xs.drop (q + sl)) (some ⟨b, 0, none⟩) n cap) fun H' => K (.c (.v (.int .i64 (sl : Int)))) H') : EffW P o s H K := by
  obtain ⟨inf, hinf, _, h1, _⟩ := byteB_spec he
  rw [nthE_eq] at hi
  obtain ⟨_, hk⟩ := setEK_spec next
  intro ρ S w ac hs hr
  have e1 : args = #[x, y] := by rw [← Array.toArray_toList (xs := args), ha]
  have e2 : ts = #[T, U] := by rw [← Array.toArray_toList (xs := ts), ht]
  subst e1; subst e2
  have hxr := opv_rel hr x
  have hyr := opv_rel hr y
  rw [hx] at hxr; rw [hy] at hyr
  have hxe : ac.eval x = .slice (some ⟨b, q, none⟩) dl dc := hxr
  have hye : ac.eval y = .slice (some a) sl sc := hyr
  obtain ⟨hyl, _, hyc⟩ := hF w hs.facts
  rcases hs.ent i _ hi with ⟨h0, _⟩ | ⟨b', hb', arr, fr, ⟨hb, hfr⟩, hxl, hnc, hcm, hasz, htk⟩
  · cases h0
  cases hb'
  rw [Nat.mul_one] at hxl hasz htk
  have hrun := run_copy_cells (P := P) w T U o.type e b q dl dc a sl sc ys hT (by simp [hinf, h1]) (by rw [hyl]; exact (Nat.min_eq_left hle).symm)
    (fun j v hv => by
      have hj : j < sl := by rw [← hyl]; exact (List.getElem?_eq_some_iff.1 hv).1
      exact (hyc j hj).trans hv)
    (fun j hj => by
      have : q + j < arr.size := by omega
      simp [World.cell?, hb, this])
    (fun j hj => by
      obtain ⟨lo, hi'⟩ := fr
      simp only [World.frozen?, hb, Bool.and_eq_false_iff, decide_eq_false_iff_not]
      rcases hfr with h | h
      · cases h; right; omega
      · left; simp only at h; omega) hone
  obtain ⟨r1, r2, r3, r4, r5⟩ := setCells_rest b ys q w
  have hheap := setCells_heap b e fr ys q w arr hb (by omega)
  rw [hyl] at hrun hheap
  have hrow : RowF e 1 n (xs.take q ++ ys ++ xs.drop (q + sl)) b cap (w.setCells b q ys) := by
    refine ⟨_, fr, ⟨hheap, by have e0 : (arr.toList.take q ++ ys ++ arr.toList.drop (q + sl)).toArray.size = arr.size := (by simp; omega); rw [e0]; exact hfr⟩, by simp; omega, hnc, hcm, by simp; omega, ?_⟩
    rw [Nat.mul_one, ← htk]
    apply List.ext_getElem?
    intro j
    simp only [List.getElem?_take, List.getElem?_append, List.getElem?_drop, List.length_append, List.length_take, Array.length_toList]
    by_cases j1 : j < q
    · simp [show min q arr.size = q by omega, show min q (min n arr.size) = q by omega, j1, show j < q + ys.length by omega, show j < n by omega]
    · by_cases j2 : j < q + ys.length
      · simp [show min q arr.size = q by omega, show min q (min n arr.size) = q by omega, j1, j2, show j < n by omega]
      · simp only [show min q arr.size = q by omega, show min q (min n arr.size) = q by omega, j1, j2, if_false]
        by_cases j3 : j < n
        · simp [j3, show q + sl + (j - (q + ys.length)) = j by omega]
        · simp [j3]; omega
  have hS := hs.setG (e' := .app e 1 (xs.take q ++ ys ++ xs.drop (q + sl)) (some ⟨b, 0, none⟩) n cap) hi rfl (Nat.le_of_eq r1.symm) (fun k _ hne => r2 k hne) r3 r4 r5 (fun c hc => .inl (Option.some.inj hc).symm) (.inr ⟨b, rfl, hrow⟩)
  refine ⟨_, _, hk, .value (goInt (sl : Int)), _, ρ, _, ?_, .inl rfl, hS.1, hS.2, rfl⟩
  unfold execOp
  simp only [ho, resolve, invoke, builtin, Sem.run_bind, Sem.run_pure, Result.andThen_ok, List.map_toArray, List.map_cons, List.map_nil, hxe, hye, hrun]
end Go.AX

/-
  AX, twenty-fifth text: rows of bytes that are made.
-/
namespace Go.AX

theorem made_bytes (n : Nat) : (madeCells #[Value.int .u8 0] n).toList = List.replicate n (.int .u8 0) := by
  apply List.ext_getElem?
  intro i
  rw [madeCells, Array.toList_map, List.getElem?_map, Array.toList_range]
  by_cases h : i < n
  · rw [List.getElem?_range h, List.getElem?_replicate, if_pos h]
    simp [Nat.mod_one]
  · rw [List.getElem?_eq_none (by simpa using h), List.getElem?_eq_none (by simpa using h)]
    rfl
/-- make([]byte, n) -/
theorem EffW.mkBytes {P : Program} {o : Oper} {s : List AV} {H : List Ent} {K : AV → List Ent → Prop} {t e : TypeId} {x y : Operand} (n : Nat) (ho : o.op = .makeSlice t x y) (ht : P.underlying t = some (.slice e)) (he : byteB P e = true)
    (hx : opv s x = .c (.v (.int .i64 (n : Int)))) (hy : opv s y = .c (.v (.int .i64 (n : Int)))) (hn : n ≤ 16000000)
    (next : ∀ b, K (.c (.v (.slice (some ⟨b, 0, none⟩) n n))) (H ++ [.app e 1 (List.replicate n (.int .u8 0)) (some ⟨b, 0, none⟩) n n])) : EffW P o s H K := by
  obtain ⟨inf, hi, hz, h1, h2⟩ := byteB_spec he
  intro ρ S w a hs hr
  have hxr := opv_rel hr x
  have hyr := opv_rel hr y
  rw [hx] at hxr; rw [hy] at hyr
  have hxe : a.eval x = .int .i64 (n : Int) := hxr
  have hye : a.eval y = .int .i64 (n : Int) := hyr
  have hrun := run_makeSlice (P := P) (w := w) t e inf (.int .u8 0) ht hi hz .i64 .i64 (n : Int) (n : Int) (by omega) (Int.le_refl _) (by rw [h1]; omega) (by rw [h2]; omega) (by omega)
  simp only [Int.toNat_natCast, h1, Nat.mul_one] at hrun
  have hrow : RowF e 1 n (List.replicate n (.int .u8 0)) w.heap.size n (w.alloc (.cells (madeCells #[Value.int .u8 0] n) e)) :=
    ⟨_, (0, 0), ⟨heap_alloc_new w _, .inl rfl⟩, by simp, Nat.le_refl _, by simp only [maxLen]; omega, by rw [size_madeCells, Nat.mul_one], by rw [made_bytes, Nat.mul_one, List.take_of_length_le (by simp)]⟩
  have hS := hs.newApp (w' := w.alloc (.cells (madeCells #[Value.int .u8 0] n) e)) rfl rfl rfl rfl hrow
  refine ⟨_, _, next w.heap.size, _, _, _, _, ?_, .inl rfl, hS.1, hS.2, rfl⟩
  unfold execOp
  simp only [ho, hxe, hye, Sem.run_bind, Sem.run_pure, hrun, Result.andThen_ok]
  rfl
end Go.AX

/-
  AX, thirtieth text: bytes of a string; own entries that nobody writes any more become facts.
-/
namespace Go.AX

theorem EffW.appTo {P : Program} {o : Oper} {s : List AV} {H : List Ent} {K : AV → List Ent → Prop} {Ty T : TypeId} {x y : Operand} {sz n cap b q i : Nat} {xs ys : List Value} {inf : TypeInfo} (zs : List Value) (sz' : Nat) (ho : o.op = .store Ty x y)
    (hx : opv s x = .c (.v (.pointer (some ⟨b, q, none⟩)))) (hi : nthE H i = some (.app T sz xs (some ⟨b, 0, none⟩) n cap)) (hy : avCells (opv s y) = some (vs ys)) (hone : oneCs (vs ys) = true) (hinf : P.info? Ty = some inf) (hlen : ys.length = inf.size)
    (hq : q + ys.length ≤ n * sz) (hz : xs.take q ++ ys ++ xs.drop (q + ys.length) = zs) (hs : sz = sz') (hk : setEK H i (.app T sz' zs (some ⟨b, 0, none⟩) n cap) fun H' => K (.c .any) H') : EffW P o s H K := by
  subst hz; subst hs
  exact EffW.app ho hx hi hy hone hinf hlen hq hk
theorem put_set {xs : List Value} {q : Nat} (v : Value) (h : q < xs.length) : xs.take q ++ [v] ++ xs.drop (q + [v].length) = xs.set q v := by
  rw [List.set_eq_take_append_cons_drop, if_pos h]
  simp
/-- The arguments in another spelling. -/
theorem SpecH.args {P : Program} {f : FuncId} {args args' : List AV} {H : List Ent} {K : Out → List Ent → Prop} (e : args = args') (h : SpecH P f args' H K) : SpecH P f args H K := e ▸ h
theorem plains_vs : ∀ xs : List Value, plains (vs xs) = some xs
  | [] => rfl
  | _ :: xs => by simp [vs, plains, plains_vs xs]
/-- string(b) of bytes of the call's own. -/
theorem ReadW.bytesOwn {P : Program} {o : Oper} {s : List AV} {H : List Ent} {K : AV → Prop} {src dst e : TypeId} {x : Operand} {i n : Nat} (l : List UInt8) (hn : l.length = n) (ho : o.op = .convert src dst x) (hs : P.underlying src = some (.slice e))
    (he : P.underlying e = some (.int .u8)) (hd : P.underlying dst = some .string) (hx : opv s x = .c (.sl i n)) (hi : nthE H i = some (.row e 1 n (vs (u8s l)))) (hk : K (.c (.v (.string (bs l))))) : ReadW P o s H K := by
  subst hn
  rw [nthE_eq] at hi
  refine ⟨.c (.v (.string (bs l))), hk, fun ρ S w ac hsat hr => ⟨.string (bs l), ?_, rfl⟩⟩
  obtain ⟨l', arr, hl, hb, h1, h2, h3, h4, hrel⟩ := hsat.ent i _ hi
  have hxr := opv_rel hr x
  rw [hx] at hxr
  obtain ⟨l2, hl2, hxe⟩ := hxr
  obtain rfl := Option.some.inj (hl2.symm.trans hl)
  have hrun := run_convert_bytes_back w src dst e ⟨l2.b, 0, none⟩ l2.cap l hs he hd (fun j hj => by
    have e0 := vs_only hrel
    rw [add_lit0, cell_of_row w l2.b j arr e (0, 0) hb]
    have : (arr.toList.take (l.length * 1))[j]? = (u8s l)[j]? := by rw [e0]
    rw [List.getElem?_take, if_pos (by omega)] at this
    rw [← Array.getElem?_toList, this]
    simp [u8s, hj])
  unfold execOp
  simp only [ho, hxe, Sem.run_bind, hrun, Result.andThen_ok, Sem.run_pure]
  rfl
/-- make([]T, 0, n) -/
theorem EffW.mkEmpty {P : Program} {o : Oper} {s : List AV} {H : List Ent} {K : AV → List Ent → Prop} {t e : TypeId} {x y : Operand} {inf : TypeInfo} {z : Value} (n : Nat) (ho : o.op = .makeSlice t x y) (ht : P.underlying t = some (.slice e)) (hi : P.info? e = some inf) (hz : inf.zero = some z)
    (hx : opv s x = .c (.v (.int .i64 0))) (hy : opv s y = .c (.v (.int .i64 (n : Int)))) (hn : n ≤ 1000000 ∧ inf.size ≤ 16 ∧ inf.bytes ≤ 1000)
    (next : ∀ b, K (.c (.v (.slice (some ⟨b, 0, none⟩) 0 n))) (H ++ [.app e inf.size [] (some ⟨b, 0, none⟩) 0 n])) : EffW P o s H K := by
  intro ρ S w a hs hr
  have hxr := opv_rel hr x
  have hyr := opv_rel hr y
  rw [hx] at hxr; rw [hy] at hyr
  have hxe : a.eval x = .int .i64 0 := hxr
  have hye : a.eval y = .int .i64 (n : Int) := hyr
  have hm1 : n * inf.size ≤ n * 16 := Nat.mul_le_mul_left _ hn.2.1
  have hm2 : inf.bytes * n ≤ 1000 * n := Nat.mul_le_mul_right _ hn.2.2
  have hrun := run_makeSlice (P := P) (w := w) t e inf z ht hi hz .i64 .i64 0 (n : Int) (Int.le_refl _) (by omega) (by rw [Int.toNat_natCast]; omega) (by rw [← Int.natCast_mul]; omega) (by omega)
  simp only [Int.toNat_natCast] at hrun
  have hrow : RowF e inf.size 0 [] w.heap.size n (w.alloc (.cells (madeCells z.cells (n * inf.size)) e)) :=
    ⟨_, (0, 0), ⟨heap_alloc_new w _, .inl rfl⟩, by simp, Nat.zero_le _, by simp only [maxLen]; omega, by rw [size_madeCells], by simp⟩
  have hS := hs.newApp (w' := w.alloc (.cells (madeCells z.cells (n * inf.size)) e)) rfl rfl rfl rfl hrow
  refine ⟨_, _, next w.heap.size, _, _, _, _, ?_, .inl rfl, hS.1, hS.2, rfl⟩
  unfold execOp
  simp only [ho, hxe, hye, Sem.run_bind, Sem.run_pure, hrun, Result.andThen_ok]
  rfl
/-- []byte(s) -/
theorem EffW.bytesOf {P : Program} {o : Oper} {s : List AV} {H : List Ent} {K : AV → List Ent → Prop} {src dst e : TypeId} {x : Operand} (l : List UInt8) (ho : o.op = .convert src dst x) (hs : P.underlying src = some .string) (hd : P.underlying dst = some (.slice e)) (he : P.underlying e = some (.int .u8))
    (hx : opv s x = .c (.v (.string (bs l)))) (hl : l.length ≤ 140737488355328) (next : ∀ b cap : Nat, l.length ≤ cap → cap ≤ maxLen → K (.c (.v (.slice (some ⟨b, 0, none⟩) l.length cap))) (H ++ [.app e 1 (u8s l) (some ⟨b, 0, none⟩) l.length cap])) : EffW P o s H K := by
  intro ρ S w ac hsat hr
  have hxr := opv_rel hr x
  rw [hx] at hxr
  have hxe : ac.eval x = .string (bs l) := hxr
  have hrun := run_bytes_of_string (P := P) w src dst e (bs l) hs hd he
  rw [bs_size] at hrun
  have hge := grownCap_ge w l.length 0 e
  have hgm := grownCap_le_maxLen w l.length 0 e (by simp only [maxLen]; omega)
  generalize grownCap w l.length 0 e = cap at hrun hge hgm
  have hsz : (bytesRow (bs l) cap).size = cap := by
    have e1 : (bs l).data.size = l.length := by simp [bs]
    simp only [bytesRow, Array.size_append, Array.size_map, Array.size_replicate, bs_size, e1]
    omega
  have hrow : RowF e 1 l.length (u8s l) w.heap.size cap (w.drew.alloc (.cells (bytesRow (bs l) cap) e ((bytesRow (bs l) cap).size, (bytesRow (bs l) cap).size + 1))) := by
    refine ⟨_, _, ⟨heap_alloc_new w.drew _, .inr (Nat.le_refl _)⟩, by simp [u8s_len], hge, hgm, by rw [hsz, Nat.mul_one], ?_⟩
    rw [Nat.mul_one]
    unfold bytesRow
    rw [Array.toList_append, List.take_append_of_le_length (by simp [bs]), List.take_of_length_le (by simp [bs])]
    simp [bs, u8s]
  have hS := hsat.newApp (w' := w.drew.alloc (.cells (bytesRow (bs l) cap) e ((bytesRow (bs l) cap).size, (bytesRow (bs l) cap).size + 1))) rfl rfl rfl rfl hrow
  refine ⟨_, _, next w.heap.size cap hge hgm, _, _, _, _, ?_, .inl rfl, hS.1, hS.2, rfl⟩
  unfold execOp
  simp only [ho, hxe, Sem.run_bind, hrun, Result.andThen_ok, Sem.run_pure]

/-- Own entries that nobody writes any more: what they say becomes facts. -/
theorem Sat.seal {ρ : List Loc} {S : Nat → Prop} {H : List Ent} {w : World} (h : Sat ρ S H w) {G : List Ent} (hl : G.length ≤ H.length) (hG : ∀ e ∈ G, e = .dead ∨ ∃ Γ, e = .fact Γ ∧ ∀ w, Facts H w → Γ w) :
    Sat (ρ.take G.length) (fun b => S b ∨ appB H b) G w ∧ ∀ ρ' b, ¬ mb ρ' G b := by
  have hno : ∀ (ρ' : List Loc) (i : Nat) (e : Ent), G[i]? = some e → ∀ b, ¬ entB ρ' i e b := fun ρ' i e he b hb => by
    rcases hG e (List.mem_of_getElem? he) with rfl | ⟨Γ, rfl, _⟩ <;> exact hb.elim
  have hmb : ∀ ρ' b, ¬ mb ρ' G b := fun ρ' b ⟨i, e, he, hb⟩ => hno ρ' i e he b hb
  refine ⟨⟨by rw [List.length_take, h.len]; omega, fun i e he => ?_, fun i j e f b he _ hb _ => ?_, fun b hb => absurd hb (hmb _ b), fun b hb => ?_⟩, hmb⟩
  · rcases hG e (List.mem_of_getElem? he) with rfl | ⟨Γ, rfl, hΓ⟩
    · trivial
    · exact h.imm.mono hΓ
  · exact absurd hb (hno _ i e he b)
  · rcases hb with hb | hb
    · exact h.low b hb
    · obtain ⟨i, e, he, heb⟩ := appB_mb (ρ := ρ) hb
      exact h.blk_lt he heb
theorem SpecH.seal {P : Program} {f : FuncId} {args : List AV} {H : List Ent} {ι : Type} {inv : ι → Prop} {val : ι → Value} {G : ι → List Ent} (hl : ∀ i, inv i → H.length ≤ (G i).length)
    (h : SpecH P f args H fun out H' => ∃ i, inv i ∧ out = .val (.c (.v (val i))) ∧ (G i).length ≤ H'.length ∧ ∀ e ∈ G i, e = .dead ∨ ∃ Γ, e = .fact Γ ∧ ∀ w, Facts H' w → Γ w) : SpecH P f args H (RetG inv val G) := by
  refine ⟨h.ok, fun ρ S w vs hs hr => (h.run ρ S w vs hs hr).mono fun e w' ⟨ρ', S', H', out, hs', hev, hout, i, hi, hx, hln, hG⟩ => ?_⟩
  subst hx
  obtain ⟨h1, h2⟩ := hs'.seal hln hG
  refine ⟨ρ'.take (G i).length, _, G i, .val (.c (.v (val i))), h1, ⟨?_, hev.os, hev.tape, hev.output, hev.size, hev.keep, fun b hb => ?_, fun b hb => absurd hb (h2 _ b)⟩, hout, i, hi, rfl, rfl⟩
  · obtain ⟨t, ht⟩ := hev.pre
    refine ⟨t.take ((G i).length - ρ.length), ?_⟩
    rw [ht, List.take_append, List.take_of_length_le (by rw [hs.len]; exact hl i hi)]
  · rcases hb with hb | hb
    · exact hev.imm b hb
    · rcases hev.own b (appB_mb (ρ := ρ') hb) with h3 | h3
      · exact .inr (.inl h3)
      · exact .inr (.inr h3)
end Go.AX

/-
  AX, thirty-first text: a key that a map does not have.
-/
namespace Go.AX
/-! ### Parts of strings, where memory is not looked at -/
theorem BlindW.val {P : Program} {o : Oper} {s : List AV} {K : AV → Prop} (x : Value) (hp : allPlain s o.op.operands.toList = true) (hrun : ∀ w, (execOp (plainEv s) o).run P w = .ok (.value x) w) (h : K (.c (.v x))) : ∃ x, BlindW P o s K x := ⟨x, hp, hrun, h⟩
/-- s[i:] -/
theorem BlindW.sl_l {P : Program} {o : Oper} {s : List AV} {K : AV → Prop} {t : TypeId} {x y : Operand} {b : List UInt8} {k : IntKind} {i : Int} (n : Nat) (ho : o.op = .slice t x (some y) none none) (hu : P.underlying t = some .string) (hx : opv s x = .c (.v (.string (bs b)))) (hy : opv s y = .c (.v (.int k i)))
    (h : i = (n : Int) ∧ n ≤ b.length) (hk : K (.c (.v (.string (bs (b.drop n)))))) : ∃ x, BlindW P o s K x :=
  BlindW.val (.string (bs (b.drop n))) (by rw [ho]; show allPlain s [x, y] = true; simp [allPlain, hx, hy])
    (fun w => run_op_slice ho (by
      simp only [Option.map, plainEv_v hx, plainEv_v hy]
      rw [run_sliceAt_string w t _ _ _ _ hu, run_slice_string_l w t (bs b) hu k i (by omega) (by rw [bs_size]; omega), bs_size, show i.toNat = n by omega, bs_drop])) hk
/-- s[1:] -/
theorem BlindW.tl {P : Program} {o : Oper} {s : List AV} {K : AV → Prop} {t : TypeId} {x y : Operand} {c : UInt8} {r : List UInt8} {k : IntKind} (ho : o.op = .slice t x (some y) none none) (hu : P.underlying t = some .string) (hx : opv s x = .c (.v (.string (bs (c :: r))))) (hy : opv s y = .c (.v (.int k 1)))
    (hk : K (.c (.v (.string (bs r))))) : ∃ x, BlindW P o s K x := BlindW.sl_l 1 ho hu hx hy ⟨rfl, by simp⟩ hk
theorem ReadW.tl {P : Program} {o : Oper} {s : List AV} {H : List Ent} {K : AV → Prop} {t : TypeId} {x y : Operand} {c : UInt8} {r : List UInt8} {k : IntKind} (ho : o.op = .slice t x (some y) none none) (hu : P.underlying t = some .string) (hx : opv s x = .c (.v (.string (bs (c :: r))))) (hy : opv s y = .c (.v (.int k 1)))
    (hk : K (.c (.v (.string (bs r))))) : ReadW P o s H K := ReadW.sl_l 1 ho hu hx hy ⟨rfl, by simp⟩ hk
/-- s[:j] -/
theorem BlindW.sl_h {P : Program} {o : Oper} {s : List AV} {K : AV → Prop} {t : TypeId} {x y : Operand} {b : List UInt8} {k : IntKind} {i : Int} (n : Nat) (ho : o.op = .slice t x none (some y) none) (hu : P.underlying t = some .string) (hx : opv s x = .c (.v (.string (bs b)))) (hy : opv s y = .c (.v (.int k i)))
    (h : i = (n : Int) ∧ n ≤ b.length) (hk : K (.c (.v (.string (bs (b.take n)))))) : ∃ x, BlindW P o s K x :=
  BlindW.val (.string (bs (b.take n))) (by rw [ho]; show allPlain s [x, y] = true; simp [allPlain, hx, hy])
    (fun w => run_op_slice ho (by
      simp only [Option.map, plainEv_v hx, plainEv_v hy]
      rw [run_sliceAt_string w t _ _ _ _ hu, run_slice_string_h w t (bs b) hu k i (by omega) (by rw [bs_size]; omega), show i.toNat = n by omega, bs_take])) hk
end Go.AX

/-
  AX, thirty-second text: append(l, make([]byte, n)...): so many zeros onto a slice of bytes that grows.
-/
namespace Go.AX

end Go.AX

/-
  AX, thirty-third text: readings that are the same in all worlds of a kind.
-/
namespace Go.AX

theorem ReadC.load {P : Program} {C : World → Prop} {o : Oper} {s : List AV} {K : AV → Prop} {T : TypeId} {x : Operand} {p : Addr} (v : Value) (ho : o.op = .load T x) (hx : opv s x = .c (.v (.pointer (some p)))) (hF : ∀ w, C w → (loadVar T p).run P w = .ok v w) (hk : K (.c (.v v))) : ∃ x, ReadC P C o s K x :=
  ⟨v, fun cs b e => (by rw [ho] at e; cases e), by rw [ho]; show allPlain s [x] = true; simp [allPlain, hx], fun w hw => by
    have hx2 : plainEv s x = .pointer (some p) := by unfold plainEv; rw [hx]
    unfold execOp
    simp [ho, hx2, Instr.loadAt, Instr.sureAddr, hF w hw], hk⟩
/-- A load of one cell. -/
theorem ReadC.one {P : Program} {C : World → Prop} {o : Oper} {s : List AV} {K : AV → Prop} {T : TypeId} {x : Operand} {a : Option Addr} {q k : Nat} {xs : List Value} (v : Value) (ho : o.op = .load T x) (hx : opv s x = .c (.v (.pointer (some (elemAddr a q))))) (hT : shapeT P T = some none)
    (hF : ∀ w, C w → SlAt a k xs w) (hv : xs[q]? = some v) (hk : K (.c (.v v))) : ∃ x, ReadC P C o s K x :=
  ReadC.load v ho hx (fun w hw => loadVar_cell hT ((hF w hw).cell hv)) hk
/-- A load of a struct. -/
theorem ReadC.agg {P : Program} {C : World → Prop} {o : Oper} {s : List AV} {K : AV → Prop} {T : TypeId} {x : Operand} {a : Option Addr} {q n k : Nat} {xs : List Value} (ys : List Value) (ho : o.op = .load T x) (hx : opv s x = .c (.v (.pointer (some (elemAddr a q))))) (hT : shapeT P T = some (some n))
    (hF : ∀ w, C w → SlAt a k xs w) (hl : ys.length = n) (hv : ∀ j, j < n → xs[q + j]? = ys[j]?) (hk : K (.c (.v (.agg ys.toArray)))) : ∃ x, ReadC P C o s K x :=
  ReadC.load (.agg ys.toArray) ho hx (fun w hw => loadVar_cells hT hl fun j v hj => by
    have hjn : j < n := by rw [← hl]; exact (List.getElem?_eq_some_iff.1 hj).1
    rw [elemAddr, Addr.add_add]
    exact (hF w hw).cell ((hv j hjn).trans hj)) hk
theorem ReadC.nil {P : Program} {C : World → Prop} {o : Oper} {s : List AV} {K : AV → Prop} {x : Operand} {p : Addr} (ho : o.op = .nilCheck x) (hx : opv s x = .c (.v (.pointer (some p)))) (hk : K (.c (.v (.pointer (some p))))) : ∃ x, ReadC P C o s K x :=
  ⟨.pointer (some p), fun cs b e => (by rw [ho] at e; cases e), by rw [ho]; show allPlain s [x] = true; simp [allPlain, hx], fun w _ => by
    have hx2 : plainEv s x = .pointer (some p) := by unfold plainEv; rw [hx]
    unfold execOp
    simp [ho, hx2], hk⟩
end Go.AX

/-
  AX, thirty-fifth text: an executor whose arms may come together again.
-/
namespace Go.AX

end Go.AX

/-
  AX, thirty-sixth text: a function that defers one closure, which is quiet where nothing panics.
-/
namespace Go.AX
open Go.RowKit

end Go.AX

/-
  Contract: what Scan defers, where nothing panics.
-/
namespace Go.Proofs.YtahjbnfbilkbcaaGreatDoor
open Go.AX Go.RowKit
set_option maxRecDepth 20000

end Go.Proofs.YtahjbnfbilkbcaaGreatDoor

/-
  Contracts: kinds of bytes (program).
-/
namespace Go.Scan
def sml (c : UInt8) : Bool := (decide (97 ≤ c.toNat) && decide (c.toNat ≤ 122)) || decide (c.toNat = 95)
def grt (c : UInt8) : Bool := decide (65 ≤ c.toNat) && decide (c.toNat ≤ 90)
def dig (c : UInt8) : Bool := decide (48 ≤ c.toNat) && decide (c.toNat ≤ 57)
def ltr (c : UInt8) : Bool := sml c || grt c
def wrd (c : UInt8) : Bool := ltr c || dig c
def blk (c : UInt8) : Bool := decide (c.toNat = 32) || decide (c.toNat = 9)
end Go.Scan
namespace Go.Proofs.YtahjbnfbilkbcaaGreatDoor
open Go.AX Go.RowKit Go.Scan
set_option maxRecDepth 20000

theorem ret_b {a b : Bool} (h : a = true ↔ b = true) : Out.val (.c (.v (.bool a))) = Out.val (.c (.v (.bool b))) := by rw [Bool.eq_iff_iff.2 h]
-- isSmall: the function, sml: what it tells
theorem sml_c (c : UInt8) : ∀ H, SpecH Tryz.prog 111 (pvs [.int .u8 (c.toNat : Int)]) H (Ret (.bool (sml c)) H) := by
  refine pureC hm Tryz.func111 (by kernel_rfl) rfl rfl ?_
  (first | refine wX ?_ | exact wZ)
  (repeat' (first | (refine brd_dec (fun _ => ?_) (fun _ => ?_)) | (refine brd_eq (fun _ => ?_) (fun _ => ?_))))
  all_goals (first | refine wX ?_ | exact wZ)
  (repeat' (first | (refine brd_dec (fun _ => ?_) (fun _ => ?_)) | (refine brd_eq (fun _ => ?_) (fun _ => ?_))))
  all_goals (first | refine wX ?_ | exact wZ)
  (repeat' (first | (refine brd_dec (fun _ => ?_) (fun _ => ?_)) | (refine brd_eq (fun _ => ?_) (fun _ => ?_))))
  all_goals (first | refine wX ?_ | exact wZ)
  all_goals
    refine ret_b ?_
    simp [sml]
    try omega
-- isBlank: the function, blk: what it tells
theorem dig_c (c : UInt8) : ∀ H, SpecH Tryz.prog 126 (pvs [.int .u8 (c.toNat : Int)]) H (Ret (.bool (dig c)) H) := by
  refine pureC hm Tryz.func126 (by kernel_rfl) rfl rfl ?_
  (first | refine wX ?_ | exact wZ)
  (repeat' (first | (refine brd_dec (fun _ => ?_) (fun _ => ?_)) | (refine brd_eq (fun _ => ?_) (fun _ => ?_))))
  all_goals (first | refine wX ?_ | exact wZ)
  (repeat' (first | (refine brd_dec (fun _ => ?_) (fun _ => ?_)) | (refine brd_eq (fun _ => ?_) (fun _ => ?_))))
  all_goals (first | refine wX ?_ | exact wZ)
  (repeat' (first | (refine brd_dec (fun _ => ?_) (fun _ => ?_)) | (refine brd_eq (fun _ => ?_) (fun _ => ?_))))
  all_goals (first | refine wX ?_ | exact wZ)
  all_goals
    refine ret_b ?_
    simp [dig]
    try omega
theorem ltr_c (c : UInt8) : ∀ H, SpecH Tryz.prog 135 (pvs [.int .u8 (c.toNat : Int)]) H (Ret (.bool (ltr c)) H) := by
  refine pureC hm Tryz.func135 (by kernel_rfl) rfl rfl ?_
  (first | refine wX ?_ | exact wZ)
  refine call1 (sml_c c _) ?_
  cases h : sml c with
  | true =>
    (first | refine wX ?_ | exact wZ)
    exact ret_b (by simp [ltr, h])
  | false =>
    (first | refine wX ?_ | exact wZ)
    (repeat' (first | (refine brd_dec (fun _ => ?_) (fun _ => ?_)) | (refine brd_eq (fun _ => ?_) (fun _ => ?_))))
    all_goals (first | refine wX ?_ | exact wZ)
    (repeat' (first | (refine brd_dec (fun _ => ?_) (fun _ => ?_)) | (refine brd_eq (fun _ => ?_) (fun _ => ?_))))
    all_goals (first | refine wX ?_ | exact wZ)
    all_goals
      refine ret_b ?_
      simp [ltr, h, grt]
      try omega
theorem wrd_c (c : UInt8) : ∀ H, SpecH Tryz.prog 125 (pvs [.int .u8 (c.toNat : Int)]) H (Ret (.bool (wrd c)) H) := by
  refine pureC hm Tryz.func125 (by kernel_rfl) rfl rfl ?_
  (first | refine wX ?_ | exact wZ)
  refine call1 (ltr_c c _) ?_
  cases h : ltr c with
  | true =>
    (first | refine wX ?_ | exact wZ)
    exact ret_b (by simp [wrd, h])
  | false =>
    (first | refine wX ?_ | exact wZ)
    refine call1 (dig_c c _) ?_
    (first | refine wX ?_ | exact wZ)
    exact ret_b (by simp [wrd, h])
end Go.Proofs.YtahjbnfbilkbcaaGreatDoor

/-
  Plain Lean: names, constants and variables (as in chapter 14's N2, as far as chapter 21 asks).
-/
namespace Go.Scan
set_option maxRecDepth 20000

def hd (s : List UInt8) : UInt8 := s.headD 0
def iwB (s : List UInt8) : Bool := s.all wrd && !s.isEmpty && decide (s.length ≤ 40) && !dig (hd s)
def icB (s : List UInt8) : Bool := iwB s && !sml (hd s)
def iiB (s : List UInt8) : Bool := decide (1 < s.length) && hd s == 64 && iwB s.tail && sml (hd s.tail) && decide (s.length ≤ 40)
theorem sml_wrd {c : UInt8} (h : sml c = true) : wrd c = true ∧ ltr c = true ∧ dig c = false ∧ grt c = false := by
  simp [sml] at h
  refine ⟨?_, ?_, ?_, ?_⟩ <;> simp [wrd, ltr, sml, dig, grt] <;> omega
theorem grt_iff (c : UInt8) : (wrd c = true ∧ dig c = false ∧ sml c = false) ↔ grt c = true := by
  simp [wrd, ltr, sml, dig, grt]
  omega
theorem grt_ltr {c : UInt8} (h : grt c = true) : ltr c = true := by simp [ltr, h]
end Go.Scan

/-
  Plain: which graphs are valid (program and document).
-/
namespace Go.Core
open Go.Scan

/-- A word that begins with a great letter or a small one (document). -/
def wordD (s : List UInt8) (great : Bool) : Bool := !s.isEmpty && decide (s.length ≤ 40) && ltr (hd s) && (grt (hd s) == great) && s.tail.all fun c => ltr c || dig c
def constD (s : List UInt8) : Bool := wordD s true
def ivarD (s : List UInt8) : Bool := decide (s.length ≤ 40) && decide (1 < s.length) && hd s == 64 && wordD s.tail false
theorem wordD_true (s : List UInt8) : wordD s true = icB s := by
  cases s with
  | nil => rfl
  | cons c r =>
    have h := grt_iff c
    unfold wordD icB iwB hd
    rw [Bool.eq_iff_iff]
    simp only [List.isEmpty_cons, Bool.not_false, Bool.true_and, List.headD_cons, List.tail_cons, Bool.and_eq_true, Bool.not_eq_true', beq_iff_eq, decide_eq_true_eq, List.all_cons, Bool.and_true]
    have e : (r.all fun c => ltr c || dig c) = r.all wrd := rfl
    rw [e]
    constructor
    · rintro ⟨⟨⟨h1, h2⟩, h3⟩, h4⟩
      obtain ⟨a1, a2, a3⟩ := h.2 h3
      exact ⟨⟨⟨⟨a1, h4⟩, h1⟩, a2⟩, a3⟩
    · rintro ⟨⟨⟨⟨h1, h2⟩, h3⟩, h4⟩, h5⟩
      have h6 := h.1 ⟨h1, h4, h5⟩
      exact ⟨⟨⟨h3, grt_ltr h6⟩, h6⟩, h2⟩
theorem wordD_false (s : List UInt8) : wordD s false = (iwB s && sml (hd s)) := by
  cases s with
  | nil => rfl
  | cons c r =>
    unfold wordD iwB hd
    rw [Bool.eq_iff_iff]
    simp only [List.isEmpty_cons, Bool.not_false, Bool.true_and, List.headD_cons, List.tail_cons, Bool.and_eq_true, Bool.not_eq_true', beq_iff_eq, decide_eq_true_eq, List.all_cons, Bool.and_true]
    have e : (r.all fun c => ltr c || dig c) = r.all wrd := rfl
    rw [e]
    constructor
    · rintro ⟨⟨⟨h1, h2⟩, h3⟩, h4⟩
      have h5 : sml c = true := by
        unfold ltr at h2
        rw [h3, Bool.or_false] at h2
        exact h2
      obtain ⟨a1, a2, a3, a4⟩ := sml_wrd h5
      exact ⟨⟨⟨⟨a1, h4⟩, h1⟩, a3⟩, h5⟩
    · rintro ⟨⟨⟨⟨h1, h2⟩, h3⟩, h4⟩, h5⟩
      obtain ⟨a1, a2, a3, a4⟩ := sml_wrd h5
      exact ⟨⟨⟨h3, a2⟩, a4⟩, h2⟩
theorem constD_eq (s : List UInt8) : constD s = icB s := wordD_true s
theorem ivarD_eq (s : List UInt8) : ivarD s = iiB s := by
  unfold ivarD iiB
  rw [wordD_false]
  generalize decide (s.length ≤ 40) = a
  generalize decide (1 < s.length) = b
  cases a <;> cases b <;> cases (hd s == 64) <;> cases iwB s.tail <;> cases sml (hd s.tail) <;> rfl
def maxI : Int := 1000000000000000
def rangeB (n : Nat) (c : Cell) : Bool := c.items.all fun i => decide (0 ≤ i) && decide (i < (n : Int))
/-- A cell is valid by itself (program). -/
def plainS (c : Cell) : Bool :=
  (decide (0 ≤ c.kind) && decide (c.kind ≤ 8)) && (if c.kind = 4 then decide (c.text.length ≤ 2000) else if c.kind = 5 then decide (c.text.length ≤ 40) else if c.kind = 8 then icB c.text else decide (c.text = [])) &&
    (decide (c.kind = 3) || decide (c.num = 0)) && (decide (-maxI ≤ c.num) && decide (c.num ≤ maxI)) &&
    (if c.kind ≤ 5 then decide (c.items = []) && decide (c.names = []) else if c.kind ≠ 8 then decide (c.names = []) && (decide (c.kind = 6) || decide (c.items.length % 2 = 0)) else
      decide (c.names.length = c.items.length) && decide c.names.Nodup && c.names.all iiB)
/-- The same (document). -/
def cellD (n : Nat) (c : Cell) : Bool :=
  rangeB n c && !(decide (c.kind < 0) || decide (8 < c.kind) || decide (c.kind ≤ 5) && !decide (c.items = []) || !decide (c.kind = 8) && !decide (c.names = []) || !decide (c.kind = 3) && !decide (c.num = 0)) &&
    (if c.kind = 3 then decide (c.text = []) && decide (-maxI ≤ c.num) && decide (c.num ≤ maxI) else if c.kind = 4 then decide (c.text.length ≤ 2000) else if c.kind = 5 then decide (c.text.length ≤ 40) else
      if c.kind = 7 then decide (c.text = []) && decide (c.items.length % 2 = 0) else if c.kind = 8 then constD c.text && decide (c.names.length = c.items.length) && ((List.range c.names.length).all fun i => ivarD (c.names.getD i []) && !decide (c.names.getD i [] ∈ c.names.take i))
      else decide (c.text = []))
theorem names_iff (l : List (List UInt8)) : ((List.range l.length).all fun i => ivarD (l.getD i []) && !decide (l.getD i [] ∈ l.take i)) = (decide l.Nodup && l.all iiB) := by
  rw [Bool.eq_iff_iff]
  simp only [List.all_eq_true, List.mem_range, Bool.and_eq_true, Bool.not_eq_true', decide_eq_false_iff_not, decide_eq_true_eq]
  constructor
  · intro h
    refine ⟨List.pairwise_iff_getElem.2 fun i j hi hj hij he => ?_, fun x hx => ?_⟩
    · have h1 := (h j hj).2
      rw [List.getD_eq_getElem?_getD, List.getElem?_eq_getElem hj] at h1
      refine h1 (List.mem_of_getElem? (i := i) ?_)
      rw [List.getElem?_take_of_lt hij, List.getElem?_eq_getElem hi, he]
      rfl
    · obtain ⟨i, hi⟩ := List.getElem?_of_mem hx
      have h1 := (h i (List.getElem?_eq_some_iff.1 hi).1).1
      rw [List.getD_eq_getElem?_getD, hi, ivarD_eq] at h1
      exact h1
  · rintro ⟨h1, h2⟩ i hi
    have e : l.getD i [] = l[i] := by rw [List.getD_eq_getElem?_getD, List.getElem?_eq_getElem hi]; rfl
    refine ⟨by rw [e, ivarD_eq]; exact h2 _ (List.getElem_mem _), fun hm => ?_⟩
    rw [e] at hm
    obtain ⟨j, hj⟩ := List.getElem?_of_mem hm
    have hji : j < i := by
      have := (List.getElem?_eq_some_iff.1 hj).1
      rw [List.length_take] at this
      omega
    rw [List.getElem?_take_of_lt hji] at hj
    rw [List.getElem?_eq_getElem (by omega)] at hj
    exact List.pairwise_iff_getElem.1 h1 j i (by omega) hi hji (Option.some.inj hj)
theorem cell_eq (n : Nat) (c : Cell) : (plainS c && rangeB n c) = cellD n c := by
  unfold plainS cellD
  rw [names_iff, constD_eq]
  cases rangeB n c with
  | false => simp
  | true =>
    rw [Bool.and_true, Bool.true_and]
    have hb : c.num = 0 → -maxI ≤ c.num ∧ c.num ≤ maxI := fun h => by rw [h]; decide
    by_cases h0 : 0 ≤ c.kind ∧ c.kind ≤ 8
    · have : c.kind = 0 ∨ c.kind = 1 ∨ c.kind = 2 ∨ c.kind = 3 ∨ c.kind = 4 ∨ c.kind = 5 ∨ c.kind = 6 ∨ c.kind = 7 ∨ c.kind = 8 := by omega
      rw [Bool.eq_iff_iff]
      rcases this with h | h | h | h | h | h | h | h | h <;> rw [h] <;> simp <;> first | (constructor <;> intro hx <;> simp_all <;> done) | skip
    · rw [Bool.eq_iff_iff]
      have : c.kind < 0 ∨ 8 < c.kind := by omega
      rcases this with h | h <;> simp [h] <;> omega
end Go.Core

/-
  AX, fortieth text: the address of an element, in a drawing region.
-/
namespace Go.AX
/-- The address of an element of a slice at a known block. -/
theorem ReadC.idx {P : Program} {C : World → Prop} {o : Oper} {s : List AV} {K : AV → Prop} {T e : TypeId} {inf : TypeInfo} {x i : Operand} {b n cap sz : Nat} {kk : IntKind} (k : Nat) (ho : o.op = .indexAddr T x i) (hu : P.underlying T = some (.slice e)) (hi : P.info? e = some inf) (hsz : inf.size = sz)
    (hx : opv s x = .c (.v (.slice (some ⟨b, 0, none⟩) n cap))) (hy : opv s i = .c (.v (.int kk (k : Int)))) (hk : k < n) (next : K (.c (.v (.pointer (some ⟨b, k * sz, none⟩))))) : ∃ x, ReadC P C o s K x :=
  ⟨.pointer (some ⟨b, k * sz, none⟩), fun cs b e => (by rw [ho] at e; cases e), by rw [ho]; show allPlain s [x, i] = true; simp [allPlain, hx, hy], fun w _ => by
    have hx2 : plainEv s x = .slice (some ⟨b, 0, none⟩) n cap := by unfold plainEv; rw [hx]
    have hy2 : plainEv s i = .int kk (k : Int) := by unfold plainEv; rw [hy]
    have h := run_indexAt (P := P) hu hi w ⟨b, 0, none⟩ n cap kk (k : Int) ⟨by omega, by omega⟩
    rw [Int.toNat_natCast, hsz, add_lit0] at h
    exact execOp_indexAddr ho (by rw [hx2, hy2]; exact h), next⟩
/-- The address of a field of a struct at a known block. -/
theorem ReadC.field {P : Program} {C : World → Prop} {o : Oper} {s : List AV} {K : AV → Prop} {T : TypeId} {x : Operand} {b q f : Nat} (fo : Nat) (ho : o.op = .fieldAddr T x f) (hx : opv s x = .c (.v (.pointer (some ⟨b, q, none⟩)))) (hf : fieldOff P T f = some fo) (next : K (.c (.v (.pointer (some ⟨b, q + fo, none⟩))))) : ∃ x, ReadC P C o s K x :=
  ⟨.pointer (some ⟨b, q + fo, none⟩), fun cs b e => (by rw [ho] at e; cases e), by rw [ho]; show allPlain s [x] = true; simp [allPlain, hx], fun w _ => by
    have hx2 : plainEv s x = .pointer (some ⟨b, q, none⟩) := by unfold plainEv; rw [hx]
    have h := fieldOff_spec (P := P) hf w ⟨b, q, none⟩
    rw [add_lit] at h
    unfold execOp
    simp only [ho, hx2, Sem.run_bind, h, Result.andThen_ok, Sem.run_pure], next⟩
end Go.AX

/-
  AX, forty-sixth text: regions that draw their order, by a plan whose readings may stand anywhere between what is written; what is read is told by facts.
-/
namespace Go.AX

def hasN : List Nat → Nat → Bool
  | [], _ => false
  | x :: l, n => match Nat.beq x n with | true => true | false => hasN l n
/-- What is made whenever the order has it: behind a place that only the walk knows. -/
def ownD (D : MkD) (H : List Ent) (Kv : AV → List Ent → Prop) : Prop := snocK H D.ent 0 fun H' n => Kv (D.av n) H'
/-- The same of a slice of constants, at an address that is any number. -/
def knwD (D : MkD) (H : List Ent) (Kv : AV → List Ent → Prop) : Prop :=
  match D with
  | ⟨val, _, _, cap, ent, _⟩ => match ent with
    | .row e sz n cs => match plains cs with
      | some xs => ∀ b : Nat, snocK H (.app e sz xs (some ⟨b, 0, none⟩) n cap) 0 fun H' _ => Kv (.c (.v (val b))) H'
      | none => False
    | _ => False
/-- A step of a plan without a head: mode 1 is a blind operation, or a load that is the same in all worlds of the kind. -/
def stepR (P : Program) (C : World → Prop) (kn : Bool) (o : Oper) (s : List AV) (H : List Ent) (how : Nat) (Kv : AV → List Ent → Prop) (Kp : List PanicEntry → List Ent → Prop) : Prop :=
  match how with
  | 0 => stepK P o s H fun out H' => match out with
    | .val av => Nd (∀ w, Facts H' w → C w) (Kv av H')
    | .vals _ => False
    | .pan c => Kp c H'
  | 1 => match o.op with
    | .load _ _ => ∃ x, ReadC P C o s (fun av => Kv av H) x
    | .indexAddr _ _ _ => ∃ x, ReadC P C o s (fun av => Kv av H) x
    | _ => blindK P o s fun av => Kv av H
  | _ + 2 => match mkD P o with
    | some D => match kn with
      | false => ownD D H fun av H' => Nd (∀ w, Facts H' w → C w) (Kv av H')
      | true => knwD D H fun av H' => Nd (∀ w, Facts H' w → C w) (Kv av H')
    | none => False
def execR (P : Program) (C : World → Prop) (kn : List Nat) (ops : Array Oper) (l : List (Nat × Nat)) : List AV → List Ent → (Ex → List AV → List Ent → Prop) → Prop :=
  List.rec (motive := fun _ => List AV → List Ent → (Ex → List AV → List Ent → Prop) → Prop)
    (fun s H K => K .normal s H)
    (fun kb _ ih s H K => pickK ops kb.1 fun o => wantK ops o s (fun s => stepR P C (hasN kn kb.1) o s H kb.2 (fun av H' => putK s o.dst av fun s' => ih s' H' K) (fun c H' => K (.pan c) s H'))
      (fun s => putK s o.dst (.c (.v undef)) fun s' => ih s' H K)) l
def planRB (P : Program) (md : Region.Mode) (ops : Array Oper) (pre : List Nat) (tl : List (Nat × Nat)) : Bool :=
  (((((((((Region.noSelect ops && decide (pre.length + tl.length = ops.size)) && ((List.range ops.size).all fun i => pre.contains i || (tl.map Prod.fst).contains i)) && disj pre (tl.map Prod.fst)) && disj (wraps tl) (floats tl)) && decide (floats tl).Nodup) &&
    (floats tl).all (floatB P md ops)) && (floats tl).all (Region.free md ops (setAll (Array.replicate ops.size false) pre))) && preB md ops pre (Array.replicate ops.size false)) &&
    tlB md ops tl (floats tl) (setAll (Array.replicate ops.size false) pre))

/-- What an entry says of a block that was made so. -/
structure MkK (D : MkD) (b : Nat) (en : Ent) : Prop where
  ent : ∀ (ρ : List Loc) (S : Nat → Prop) (w : World) (i : Nat), ρ[i]? = some ⟨b, D.cap⟩ → w.heap[b]? = some (.cells D.cells D.T (0, 0)) → EntOk ρ S w i en
  entb : ∀ (ρ : List Loc) (i : Nat), ρ[i]? = some ⟨b, D.cap⟩ → entB ρ i en = fun c => some b = some c
section
variable {P : Program} {ops : Array Oper} {C : World → Prop} {kn : List Nat}
theorem MkOk.mk1 {o : Oper} {D : MkD} (h : MkOk P o D) (b : Nat) : MkK D b D.ent :=
  ⟨fun ρ S w i h1 h2 => h.ent ρ S w i b h1 h2, fun ρ i h1 => by rw [h.entb, h1]; rfl⟩
theorem rel_plains {ρ : List Loc} : ∀ {cs : List CV} {xs ys : List Value}, plains cs = some xs → RelL ρ cs ys → ys = xs
  | _, _, _, h, hr => plains_rel h hr
theorem MkOk.mk2 {o : Oper} {D : MkD} (h : MkOk P o D) (b : Nat) {e : TypeId} {sz n : Nat} {cs : List CV} {xs : List Value} (he : D.ent = .row e sz n cs) (hx : plains cs = some xs) : MkK D b (.app e sz xs (some ⟨b, 0, none⟩) n D.cap) :=
  ⟨fun ρ S w i h1 h2 => by
    have h3 := h.ent ρ S w i b h1 h2
    rw [he] at h3
    obtain ⟨l, arr, hl, hb, hc, hn, hm, hz, hr⟩ := h3
    rw [h1] at hl; cases hl
    have hxs := rel_plains hx hr
    exact .inr ⟨b, rfl, arr, (0, 0), ⟨hb, .inl rfl⟩, by rw [← hxs]; rw [← RelL_len hr, hc], hn, hm, hz, hxs⟩, fun ρ i h1 => rfl⟩
theorem known2 {ρ0 ρ : List Loc} {S0 S : Nat → Prop} {H0 H : List Ent} {w0 w : World} {e : Fl} {en : Ent} (hs : Sat ρ S H w) (hev : Ev ρ0 S0 H0 w0 ρ S H w) (he : Hid P ops ρ S H w w0.heap.size e) {D : MkD} (hok : MkK D e.b en) (hb : w.heap[e.b]? = some (.cells D.cells D.T (0, 0))) :
    Sat (ρ ++ [⟨e.b, D.cap⟩]) S (H ++ [en]) w ∧ Ev ρ0 S0 H0 w0 (ρ ++ [⟨e.b, D.cap⟩]) S (H ++ [en]) w := by
  have hcase : ∀ (i : Nat) (f : Ent), (H ++ [en])[i]? = some f → (i < H.length ∧ H[i]? = some f) ∨ (i = H.length ∧ f = en) := fun i f hf => by
    by_cases hi : i < H.length
    · rw [List.getElem?_append_left hi] at hf; exact .inl ⟨hi, hf⟩
    · have hi2 : i = H.length := by
        have := (List.getElem?_eq_some_iff.1 hf).1
        simp at this; omega
      subst hi2
      simp at hf
      exact .inr ⟨rfl, hf.symm⟩
  have hb2 : ∀ (i : Nat) (f : Ent) (b : Nat), (H ++ [en])[i]? = some f → entB (ρ ++ [⟨e.b, D.cap⟩]) i f b → (H[i]? = some f ∧ entB ρ i f b) ∨ (i = H.length ∧ b = e.b) := fun i f b hf hfb => by
    rcases hcase i f hf with ⟨hi, hf'⟩ | ⟨rfl, rfl⟩
    · rw [entB_pre _ (by rw [hs.len]; exact hi)] at hfb
      exact .inl ⟨hf', hfb⟩
    · refine .inr ⟨rfl, ?_⟩
      rw [hok.entb _ _ (by rw [← hs.len]; simp)] at hfb
      exact (Option.some.inj hfb).symm
  refine ⟨⟨by simp [hs.len], fun i f hf => ?_, fun i j f g b hf hg hfb hgb => ?_, fun b ⟨i, f, hf, hfb⟩ hS => ?_, hs.low⟩, ⟨?_, hev.os, hev.tape, hev.output, hev.size, hev.keep, hev.imm, fun b ⟨i, f, hf, hfb⟩ => ?_⟩⟩
  · rcases hcase i f hf with ⟨hi, hf'⟩ | ⟨rfl, rfl⟩
    · exact (hs.ent i f hf').move [⟨e.b, D.cap⟩] (fun _ _ => rfl) fun _ _ => rfl
    · exact hok.ent _ _ _ _ (by rw [← hs.len]; simp) hb
  · rcases hb2 i f b hf hfb with ⟨a1, a2⟩ | ⟨a1, a2⟩ <;> rcases hb2 j g b hg hgb with ⟨b1, b2⟩ | ⟨b1, b2⟩
    · exact hs.inj i j f g b a1 b1 a2 b2
    · exact absurd ⟨i, f, a1, b2 ▸ a2⟩ he.m
    · exact absurd ⟨j, g, b1, a2 ▸ b2⟩ he.m
    · omega
  · rcases hb2 i f b hf hfb with ⟨a1, a2⟩ | ⟨_, a2⟩
    · exact hs.out b ⟨i, f, a1, a2⟩ hS
    · exact he.s (a2 ▸ hS)
  · obtain ⟨t, ht⟩ := hev.pre
    exact ⟨t ++ [⟨e.b, D.cap⟩], by rw [ht, List.append_assoc]⟩
  · rcases hb2 i f b hf hfb with ⟨a1, a2⟩ | ⟨_, a2⟩
    · exact hev.own b ⟨i, f, a1, a2⟩
    · exact .inr (a2 ▸ he.lo)
theorem anyC_read {Q : Exit → Act → World → Prop} {i : Nat} {oi : Oper} {v : Value} (hi : ops[i]? = some oi) (hsel : ∀ (j : Nat) (o : Oper) cs b, ops[j]? = some o → o.op ≠ .select cs b)
    (hQ : ∀ c a w, Q (.panic c) (a.put oi.dst v) w → Q (.panic c) a w) :
    ∀ (f : Nat) (ls : Array Bool) (a : Act) (w : World),
      (∀ j oj, ops[j]? = some oj → j ≠ i → ls.getD j true = false → (∀ e ∈ oj.after, Region.binds .any e = true → e.on ≠ i) → oi.apart ops oj = true) →
      i ∈ Region.ready .any ops ls → YR P ops C oi v a → AnyC P ops Q C [] f (ls.setIfInBounds i true) (a.put oi.dst v) w → AnyC P ops Q C [] (f + 1) ls a w := by
  have nl : ∀ ls : Array Bool, ∀ t ∈ ([] : List Nat), ls.getD t false = false := fun _ t h => by cases h
  have own : ∀ (f : Nat) (ls : Array Bool) (a : Act) (w : World), YR P ops C oi v a → AnyC P ops Q C [] f (ls.setIfInBounds i true) (a.put oi.dst v) w → wpOp P ops Q i (AnyC P ops Q C [] f (ls.setIfInBounds i true)) a w := fun f ls a w hy hH => by
    unfold wpOp
    simp only [hi]
    rcases hy with ⟨hw, hv⟩ | ⟨hw, rfl⟩
    · rw [if_pos hw]
      refine .inl ?_
      unfold Oper.wp
      rw [hv w (hH.cls (nl _))]
      exact hH
    · rw [if_neg (by simp [hw])]; exact hH
  intro f
  induction f with
  | zero =>
    intro ls a w _ hr hy hL
    refine ⟨fun _ => hL.cls (nl _), fun h0 => (by rw [h0] at hr; cases hr), fun j hj => ?_⟩
    by_cases hji : j = i
    · subst hji; exact own 0 ls a w hy hL
    · have := ready_mono hj hji; rw [hL.2.1] at this; cases this
  | succ f ih =>
    intro ls a w hfree hr hy hH
    have hun := (mem_ready.1 hr).1
    refine ⟨fun _ => hH.cls (nl _), fun h0 => (by rw [h0] at hr; cases hr), fun j hj => ?_⟩
    by_cases hji : j = i
    · subst hji; exact own (f + 1) ls a w hy hH
    · obtain ⟨hjun, oj, hoj, hall⟩ := mem_ready.1 hj
      have hno : ∀ e ∈ oj.after, Region.binds .any e = true → e.on ≠ i := fun e he hb he2 => by
        have := hall e he hb
        rw [he2, getD_both hun] at this
        cases this
      have h1 := wpOp_swap hoj (hfree j oj hoj hji hjun hno) (fun cs b => hsel i oi cs b hi) (fun cs b => hsel j oj cs b hoj) hQ hy (hH.2.2 j (ready_mono hj hji))
      refine wpOp_mono (fun a' w' h3 => ih (ls.setIfInBounds j true) a' w' (fun k ok hk hki hun' hno' => ?_) (ready_mono hr (Ne.symm hji)) h3.1 ?_) h1
      · refine hfree k ok hk hki ?_ hno'
        by_cases hjk : j = k
        · subst hjk; exact hjun
        · rw [getD_set_ne true hjk] at hun'; exact hun'
      · rw [Array.setIfInBounds_comm _ _ hji]; exact h3.2
variable {K : Ex → List AV → List Ent → Prop} {ρ0 : List Loc} {S0 : Nat → Prop} {H0 : List Ent} {w0 : World} {dfs : List Deferred}
theorem tail_read {pre hd hq : List Nat} {tl : List (Nat × Nat)} (cx : Ctx P ops pre hd hq tl) : ∀ (l : List (Nat × Nat)) (s : List AV) (H : List Ent), (∀ w, Facts H w → C w) → execR P C kn ops l s H K → ∀ (rem : List Nat) (lc : Array Bool), tlB .any ops l rem lc = true →
    ∀ (n : Nat) (E : List Fl), n + E.length = rem.length → ∀ (ls : Array Bool) (ρ : List Loc) (S : Nat → Prop) (w : World) (a : Act), Mid P ops pre tl rem w0 lc E ls ρ S H w → Ev ρ0 S0 H0 w0 ρ S H w → a.defers = dfs → Sat ρ S H w → RelS ρ s a.tmps.toList →
      AnyC P ops (Post ρ0 S0 H0 w0 dfs K) C [] (l.length - E.length) ls (pt a E) w
  | [], s, H, hC, h, rem, lc, hB, n, E, hn, ls, ρ, S, w, a, m, hev, hdf, hs, hr => by
    simp only [tlB, Bool.and_eq_true, List.isEmpty_iff] at hB
    have hE : E = [] := by rw [hB.1] at hn; simp at hn; exact hn.2
    subst hE
    refine ⟨fun _ => hC w hs.facts, ?_, ρ, S, s, H, .normal, hs, hev, hr, hdf, trivial, h⟩
    rw [List.eq_nil_iff_forall_not_mem]
    intro j hj
    rcases (m.lst.ready (rem := rem) m.sub hj).1 with h1 | h1
    · rw [hB.1] at h1; rw [show setAll lc [] = lc from rfl, hB.2] at h1; cases h1
    · rw [hB.1] at h1; cases h1
  | (k, q) :: l, s, H, hC, h0, rem, lc, hB, n, E, hn, ls, ρ, S, w, a, m, hev, hdf, hs, hr => by
    have hp : pickK ops k fun o => wantK ops o s (fun s => stepR P C (hasN kn k) o s H q (fun av H' => putK s o.dst av fun s' => execR P C kn ops l s' H' K) (fun c H' => K (.pan c) s H')) (fun s => putK s o.dst (.c (.v undef)) fun s' => execR P C kn ops l s' H K) := h0
    obtain ⟨o, ho, hq⟩ := pickK_spec hp
    clear hp
    have hkl : k < ops.size := (Array.getElem?_eq_some_iff.1 ho).1
    have hrl := rem_le _ _ _ hB m.ndr
    have hEl := m.len
    have hsel := Region.noSelect_spec cx.sel k o
    match q with
    | 0 =>
      simp only [tlB, Bool.and_eq_true, decide_eq_true_eq, Bool.not_eq_true', List.contains_iff_mem] at hB
      obtain ⟨⟨⟨hk1, hk2⟩, hk3⟩, hB⟩ := hB
      have hk1 : k ∈ Region.ready .any ops lc := by simpa using hk1
      have hk3 : k ∉ rem := by intro hm; rw [← List.contains_iff_mem] at hm; rw [hm] at hk3; cases hk3
      have hrl2 := rem_le _ _ _ hB m.ndr
      have hkE : k ∉ E.map Fl.i := fun hm => by obtain ⟨e, he, hi⟩ := List.mem_map.1 hm; exact hk3 (hi ▸ m.sub e he)
      rw [show ((k, 0) :: l).length - E.length = (l.length - E.length) + 1 by simp; omega]
      have hoff := off_of cx ho hk1 m.pre (fun e he => ⟨(m.rf _ (m.sub e he)).1, (m.rf _ (m.sub e he)).2, fun h => hk3 (h ▸ m.sub e he)⟩) m.hid
      refine ⟨fun _ => hC w hs.facts, fun h1 => absurd (m.lst.own hk1 hkE) (by rw [h1]; simp), fun i hi => ?_⟩
      have hrd := m.lst.ready m.sub hi
      by_cases hik : i = k
      · subst hik
        refine op_pt ho (fun cs b => hsel cs b ho) hoff (fun c a d v w h => post_put c a d v w h) ?_
        unfold wpOp
        simp only [ho]
        rcases wantK_spec hq hr with ⟨hw, s', h', hr'⟩ | ⟨hw, s', h', hr'⟩
        · rw [if_pos hw]
          refine .inl (step_sound (K := fun out H' => match out with
            | .val av => Nd (∀ w, Facts H' w → C w) (putK s' o.dst av fun s2 => execR P C kn ops l s2 H' K)
            | .vals _ => False
            | .pan c => K (.pan c) s' H') h' hs hr' (fun ρ1 S1 H1 w1 av v hs1 hev1 hrel hK => ?_) (fun ρ1 S1 H1 w1 c hs1 hev1 hK => ?_) fun _ _ h => h)
          · obtain ⟨hC1, hK⟩ := hK
            obtain ⟨s2, hK2, hput⟩ := putK_spec hK
            have hrs : RelS ρ1 s' a.tmps.toList := by obtain ⟨t, ht⟩ := hev1.pre; rw [ht]; exact RelS_pre t hr'
            exact tail_read cx l s2 H1 hC1 hK2 rem _ hB n E hn _ ρ1 S1 w1 _ (m.step hkl hk3 hev1) (hev.trans hev1) (by rw [put_defers]; exact hdf) hs1 (hput ρ1 a v hrs hrel)
          · exact ⟨ρ1, S1, s', H1, .pan c, hs1, hev.trans hev1, trivial, hdf, rfl, hK⟩
        · rw [if_neg (by simp [hw])]
          obtain ⟨s2, hK2, hput⟩ := putK_spec h'
          exact tail_read cx l s2 H hC hK2 rem _ hB n E hn _ ρ S w _ (m.step hkl hk3 (Ev.refl _ _ _ _)) hev (by rw [put_defers]; exact hdf) hs (hput ρ a undef hr' rfl)
      · have hir : i ∈ rem := by
          rcases hrd.1 with h1 | h1
          · rw [hk2] at h1; simp at h1; exact absurd h1 hik
          · exact h1
        have hEl2 : E.length + 1 ≤ rem.length := by
          have := nodup_len (b := rem) (a := i :: E.map Fl.i) (List.nodup_cons.2 ⟨hrd.2.1, m.ndi⟩) fun x hx => by
            cases hx with
            | head => exact hir
            | tail _ hx => obtain ⟨e, he, rfl⟩ := List.mem_map.1 hx; exact m.sub e he
          simpa using this
        refine m.others cx hs hev hir hrd.2.1 fun e w1 he hs1 hev1 hm1 => ?_
        have := tail_read cx ((k, 0) :: l) s H hC h0 rem lc (by simp only [tlB, Bool.and_eq_true, decide_eq_true_eq]; exact ⟨⟨⟨by simpa using hk1, hk2⟩, by simpa using hk3⟩, hB⟩) (n - 1) (e :: E) (by simp; omega) _ ρ S w1 a hm1 (hev.trans hev1) hdf hs1 hr
        rw [show ((k, 0) :: l).length - (e :: E).length = l.length - E.length by simp] at this
        exact this
    | 1 =>
      simp only [tlB, Bool.and_eq_true, Bool.not_eq_true', List.contains_iff_mem] at hB
      obtain ⟨⟨⟨hk1, hfr⟩, hk3⟩, hB⟩ := hB
      have hk1 : k ∈ Region.ready .any ops lc := by simpa using hk1
      have hk3 : k ∉ rem := by intro hm; rw [← List.contains_iff_mem] at hm; rw [hm] at hk3; cases hk3
      have hrl2 := rem_le _ _ _ hB m.ndr
      have hkE : k ∉ E.map Fl.i := fun hm => by obtain ⟨e, he, hi⟩ := List.mem_map.1 hm; exact hk3 (hi ▸ m.sub e he)
      rw [show ((k, 1) :: l).length - E.length = (l.length - E.length) + 1 by simp; omega]
      have hoff := off_of cx ho hk1 m.pre (fun e he => ⟨(m.rf _ (m.sub e he)).1, (m.rf _ (m.sub e he)).2, fun h => hk3 (h ▸ m.sub e he)⟩) m.hid
      have hd' : ∀ e ∈ E, o.dst ≠ some e.d := fun e he => (hoff e he).2
      have fin : ∀ (v : Value) (s2 : List AV), Yields P ops o v a → execR P C kn ops l s2 H K → RelS ρ s2 (a.put o.dst v).tmps.toList → AnyC P ops (Post ρ0 S0 H0 w0 dfs K) C [] (l.length - E.length + 1) ls (pt a E) w := fun v s2 hy hK hr2 => by
        have he := exec_pt (ops := ops) (fun cs b => hsel cs b ho) a E hoff
        refine anyC_blind ho (Region.noSelect_spec cx.sel) (fun c a w h => h.put) (by simp) _ ls _ w (fun j oj hj hne hun hno => Region.free_spec ho hfr j oj hj hne (m.lst.un hun) hno) (m.lst.own hk1 hkE) (hy.of_same he.1 he.2) ?_
        rw [put_pt _ _ _ _ hd']
        exact tail_read cx l s2 H hC hK rem _ hB n E hn _ ρ S w _ (m.step hkl hk3 (Ev.refl _ _ _ _)) hev (by rw [put_defers]; exact hdf) hs hr2
      have finR : ∀ (v : Value) (s2 : List AV), YR P ops C o v a → execR P C kn ops l s2 H K → RelS ρ s2 (a.put o.dst v).tmps.toList → AnyC P ops (Post ρ0 S0 H0 w0 dfs K) C [] (l.length - E.length + 1) ls (pt a E) w := fun v s2 hy hK hr2 => by
        have he := exec_pt (ops := ops) (fun cs b => hsel cs b ho) a E hoff
        refine anyC_read ho (Region.noSelect_spec cx.sel) (fun c a w h => h.put) _ ls _ w (fun j oj hj hne hun hno => Region.free_spec ho hfr j oj hj hne (m.lst.un hun) hno) (m.lst.own hk1 hkE) (hy.same he.1 he.2) ?_
        rw [put_pt _ _ _ _ hd']
        exact tail_read cx l s2 H hC hK rem _ hB n E hn _ ρ S w _ (m.step hkl hk3 (Ev.refl _ _ _ _)) hev (by rw [put_defers]; exact hdf) hs hr2
      rcases wantK_spec hq hr with ⟨hw, s', h', hr'⟩ | ⟨hw, s', h', hr'⟩
      · by_cases hld : (∃ T x, o.op = .load T x) ∨ ∃ T x i, o.op = .indexAddr T x i
        · have h2 : ∃ x, ReadC P C o s' (fun av => putK s' o.dst av fun s2 => execR P C kn ops l s2 H K) x := by
            have h3 := h'
            unfold stepR at h3
            rcases hld with ⟨T, y, hop⟩ | ⟨T, y, i, hop⟩
            · simp only [hop] at h3
              exact h3
            · simp only [hop] at h3
              exact h3
          obtain ⟨x, rc⟩ := h2
          obtain ⟨s2, hK2, hput⟩ := putK_spec rc.next
          refine finR x s2 (.inl ⟨hw, fun w' hw' => ?_⟩) hK2 (hput ρ a x hr' rfl)
          rw [execOp_congr o rc.sel (ρ' := plainEv s') fun y hy => allPlain_eval hr' _ rc.plain y (Array.mem_toList_iff.2 hy)]
          exact rc.run w' hw'
        · have h2 : blindK P o s' fun av => putK s' o.dst av fun s2 => execR P C kn ops l s2 H K := by
            have h3 := h'
            unfold stepR at h3
            simp only at h3
            split at h3
            · rename_i T x hop
              exact absurd (.inl ⟨T, x, hop⟩) hld
            · rename_i T x i hop
              exact absurd (.inr ⟨T, x, i, hop⟩) hld
            · exact h3
          obtain ⟨av, v, hK, hrel, hrun⟩ := blind_sound (K := fun av => putK s' o.dst av fun s2 => execR P C kn ops l s2 H K) h2 hr'
          obtain ⟨s2, hK2, hput⟩ := putK_spec hK
          exact fin v s2 (.inl ⟨hw, hrun⟩) hK2 (hput ρ a v hr' hrel)
      · obtain ⟨s2, hK2, hput⟩ := putK_spec h'
        exact fin undef s2 (.inr ⟨hw, rfl⟩) hK2 (hput ρ a undef hr' rfl)
    | q + 2 =>
      have hB0 := hB
      simp only [tlB, Bool.and_eq_true, decide_eq_true_eq, List.contains_iff_mem] at hB
      obtain ⟨⟨hk1, hk2⟩, hB⟩ := hB
      have hk1 : k ∈ rem := by simpa using hk1
      have hrl2 := rem_le _ _ _ hB (m.ndr.erase k)
      have hle := List.length_erase_of_mem hk1
      have hpos : 0 < rem.length := List.length_pos_of_mem hk1
      obtain ⟨o', d, D, ho', hmk, hg, hdst, haft⟩ := floatB_spec (cx.op k (m.rf k hk1).1)
      have hok := mkD_ok hmk
      obtain rfl : o' = o := Option.some.inj (ho'.symm.trans ho)
      -- the plan's own state behind its turn
      have hst : ∀ b : Nat, ∃ en s2, MkK D b en ∧ (∀ w, Facts (H ++ [en]) w → C w) ∧ execR P C kn ops l s2 (H ++ [en]) K ∧ ∀ (ρ : List Loc) (a : Act), ρ[H.length]? = some ⟨b, D.cap⟩ → RelS ρ s a.tmps.toList → RelS ρ s2 (a.put o'.dst (D.val b)).tmps.toList := fun b => by
        have h2 := hq
        unfold wantK at h2
        rw [hg] at h2
        unfold stepR at h2
        simp only [hmk] at h2
        split at h2
        · unfold ownD at h2
          rw [snocK_eq, Nat.zero_add] at h2
          obtain ⟨s2, hK2, hput⟩ := putK_spec h2.next
          exact ⟨D.ent, s2, hok.mk1 b, h2.ok, hK2, fun ρ a hl hr => hput ρ a (D.val b) hr (hok.rel _ _ b hl)⟩
        · unfold knwD at h2
          split at h2
          rename_i val cells T cap ent av heq
          split at h2
          · rename_i e sz n cs
            split at h2
            · rename_i xs hx
              have h3 := h2 b
              rw [snocK_eq] at h3
              obtain ⟨s2, hK2, hput⟩ := putK_spec h3.next
              exact ⟨_, s2, hok.mk2 b rfl hx, h3.ok, hK2, fun ρ a hl hr => hput ρ a _ hr rfl⟩
            · exact h2.elim
          · exact h2.elim
      have mid2 : ∀ (E' : List Fl) (ls' : Array Bool) (ρ1 : List Loc) (S1 : Nat → Prop) (H1 : List Ent) (w1 : World), Lst ops (lc.setIfInBounds k true) E' ls' → (∀ e ∈ E', e ∈ E) → (E'.map Fl.i).Nodup → (E'.map Fl.d).Nodup → (E'.map Fl.b).Nodup → (∀ e ∈ E', e.i ≠ k) → (∀ e ∈ E', Hid P ops ρ1 S1 H1 w1 w0.heap.size e) →
          Mid P ops pre tl (rem.erase k) w0 (lc.setIfInBounds k true) E' ls' ρ1 S1 H1 w1 := fun E' ls' ρ1 S1 H1 w1 hl hsub h1 h2 h3b hne hh =>
        ⟨hl, fun j hj => getD_set_true (m.pre j hj), fun e he => (List.mem_erase_of_ne (hne e he)).2 (m.sub e (hsub e he)), h1, h2, h3b, fun i hi => by
          have h3 : i ∈ rem := List.mem_of_mem_erase hi
          have hne' : k ≠ i := fun h => by subst h; exact (List.Nodup.not_mem_erase m.ndr) hi
          exact ⟨(m.rf i h3).1, by rw [getD_set_ne false hne']; exact (m.rf i h3).2⟩, m.ndr.erase k, hh⟩
      by_cases hkE : k ∈ E.map Fl.i
      · obtain ⟨e, he, hei⟩ := List.mem_map.1 hkE
        obtain ⟨E', hE'⟩ : ∃ E', E.Perm (e :: E') := by
          obtain ⟨l1, l2, rfl⟩ := List.append_of_mem he
          exact ⟨l1 ++ l2, List.perm_middle⟩
        have hh := m.hid e he
        obtain ⟨oe, De, hoe, hmke, _, hde, hptr, hheap⟩ := hh.op
        rw [hei, ho] at hoe
        obtain rfl := Option.some.inj hoe
        rw [hmk] at hmke; cases hmke
        obtain ⟨en, s2, hmk2, hC2, hK2, hput⟩ := hst e.b
        have hkn := known2 hs hev hh hmk2 hheap
        have hEmem : ∀ e' ∈ E', e' ∈ E := fun e' he' => hE'.mem_iff.2 (by simp [he'])
        have hndi := (hE'.map Fl.i).nodup_iff.1 m.ndi
        have hndd := (hE'.map Fl.d).nodup_iff.1 m.ndd
        have hndb := (hE'.map Fl.b).nodup_iff.1 m.ndb
        have hbne : ∀ e' ∈ E', ¬ mb (ρ ++ [⟨e.b, D.cap⟩]) (H ++ [en]) e'.b := fun e' he' ⟨j, f, hf, hfb⟩ => by
          by_cases hj : j < H.length
          · rw [List.getElem?_append_left hj] at hf
            rw [entB_pre _ (by rw [hs.len]; exact hj)] at hfb
            exact (m.hid e' (hEmem e' he')).m ⟨j, f, hf, hfb⟩
          · have hj2 : j = H.length := by
              have := (List.getElem?_eq_some_iff.1 hf).1
              simp at this; omega
            subst hj2
            simp at hf
            subst hf
            rw [hmk2.entb _ _ (by rw [← hs.len]; simp)] at hfb
            exact (List.nodup_cons.1 hndb).1 (List.mem_map.2 ⟨e', he', (Option.some.inj hfb).symm⟩)
        have hlen : E.length = E'.length + 1 := by rw [hE'.length_eq]; rfl
        rw [show ((k, q + 2) :: l).length - E.length = l.length - E'.length by simp; omega]
        rw [pt_perm a hE' m.ndd, pt, put_pt _ _ _ _ (fun e' he' heq => (List.nodup_cons.1 hndd).1 (List.mem_map.2 ⟨e', he', (Option.some.inj heq).symm⟩))]
        have := tail_read cx l s2 _ hC2 hK2 (rem.erase k) _ hB n E' (by omega) ls _ S w (a.put (some e.d) e.ptr) (mid2 E' ls _ S _ w (by rw [← hei]; exact m.lst.take hE' (by rw [hei]; exact hkl)) hEmem (List.nodup_cons.1 hndi).2 (List.nodup_cons.1 hndd).2 (List.nodup_cons.1 hndb).2 (fun e' he' h => (List.nodup_cons.1 hndi).1 (by rw [hei, ← h]; exact List.mem_map.2 ⟨e', he', rfl⟩)) fun e' he' => by
            have h1 := m.hid e' (hEmem e' he')
            exact ⟨h1.op, h1.s, hbne e' he', h1.lo⟩) hkn.2 (by rw [put_defers]; exact hdf) hkn.1 (by
            have h1 := hput (ρ ++ [⟨e.b, D.cap⟩]) a (by rw [← hs.len]; simp) (RelS_pre _ hr)
            rw [hde, ← hptr] at h1
            exact h1)
        exact this
      · have hEk : ∀ e ∈ E, e.i ∈ rem.erase k := fun e he => (List.mem_erase_of_ne (fun h => hkE (List.mem_map.2 ⟨e, he, h⟩))).2 (m.sub e he)
        have hEl3 : E.length + 1 ≤ rem.length := by
          have := nodup_len (b := rem.erase k) m.ndi fun x hx => by obtain ⟨e, he, rfl⟩ := List.mem_map.1 hx; exact hEk e he
          simp at this; omega
        rw [show ((k, q + 2) :: l).length - E.length = (l.length - E.length) + 1 by simp; omega]
        have hkc : k ∈ Region.ready .any ops lc := mem_ready.2 ⟨getD_in (by rw [m.lst.s2]; exact hkl) (m.rf k hk1).2, o', ho, fun e he hb => by rw [haft e he] at hb; cases hb⟩
        refine ⟨fun _ => hC w hs.facts, fun h1 => absurd (m.lst.own hkc hkE) (by rw [h1]; simp), fun i hi => ?_⟩
        have hrd := m.lst.ready hEk hi
        have hir : i ∈ rem := by
          rcases hrd.1 with h1 | h1
          · rw [hk2] at h1; simp at h1; rw [h1]; exact hk1
          · exact List.mem_of_mem_erase h1
        refine m.others cx hs hev hir hrd.2.1 fun e w1 he hs1 hev1 hm1 => ?_
        have := tail_read cx ((k, q + 2) :: l) s H hC h0 rem lc hB0 (n - 1) (e :: E) (by simp; omega) _ ρ S w1 a hm1 (hev.trans hev1) hdf hs1 hr
        rw [show ((k, q + 2) :: l).length - (e :: E).length = l.length - E.length by simp] at this
        exact this
termination_by l _ _ _ _ _ _ _ n => (l.length, n)
decreasing_by all_goals (simp_wf; first | omega | (right; omega) | (left; omega))
end
theorem planR_sound {P : Program} {C : World → Prop} {kn : List Nat} {ops : Array Oper} (hm : P.follows .mixedOrders = true) {id : Nat} {s : List AV} {H : List Ent} {K : Ex → List AV → List Ent → Prop} {pre : List Nat} {tl : List (Nat × Nat)} (hB : planRB P .any ops pre tl = true) (hC : ∀ w, Facts H w → C w)
    (next : execB P ops pre s fun s1 => execR P C kn ops tl s1 H K) {ρ : List Loc} {S : Nat → Prop} {w : World} {a : Act} (hs : Sat ρ S H w) (hr : RelS ρ s a.tmps.toList) :
    (Code.region id ops true).wp P (Post ρ S H w a.defers K) a w := by
  simp only [planRB, Bool.and_eq_true, decide_eq_true_eq] at hB
  obtain ⟨⟨⟨⟨⟨⟨⟨⟨⟨hsel, hlen⟩, hcov⟩, hpt⟩, hwf⟩, hnd⟩, hfl⟩, hfree⟩, hpre⟩, htl⟩ := hB
  have hcov' : ∀ j, j < ops.size → j ∈ pre ∨ j ∈ ([] : List Nat) ∨ j ∈ floats tl ∨ j ∈ wraps tl := fun j hj => by
    have := List.all_eq_true.1 hcov j (List.mem_range.2 hj)
    simp only [Bool.or_eq_true, List.contains_iff_mem] at this
    rcases this with h | h
    · exact .inl h
    · exact .inr (.inr ((tl_split tl j).1 h))
  have hpt' := disj_spec hpt
  have inW : ∀ {j}, j ∈ wraps tl → j ∈ tl.map Prod.fst := fun h => (tl_split tl _).2 (.inr h)
  have inF : ∀ {j}, j ∈ floats tl → j ∈ tl.map Prod.fst := fun h => (tl_split tl _).2 (.inl h)
  have inv0 : PInv .any ops [] (wraps tl) (Array.replicate ops.size false) :=
    ⟨by simp, fun j oj _ hl => (by rw [getD_replicate_false] at hl; cases hl), fun t _ => getD_replicate_false _ _, fun k hk => by cases hk⟩
  have hin : ∀ (l : List Nat) (ls : Array Bool), preB .any ops l ls = true → ∀ k ∈ l, k < ops.size := by
    intro l
    induction l with
    | nil => intro ls _ k hk; cases hk
    | cons x l ih =>
      intro ls h k hk
      simp only [preB, Bool.and_eq_true] at h
      cases hk with
      | head =>
        have hr : x ∈ Region.ready .any ops ls := by simpa using h.1.1
        obtain ⟨_, o, ho, _⟩ := mem_ready.1 hr
        exact (Array.getElem?_eq_some_iff.1 ho).1
      | tail _ hk => exact ih _ h.2 k hk
  have inv1 := preB_inv (pre0 := pre) pre [] _ inv0 hpre (fun k hk h => hpt' k hk (inW h)) (hin _ _ hpre)
  rw [List.nil_append] at inv1
  have hs1 : (setAll (Array.replicate ops.size false) pre).size = ops.size := by rw [setAll_size]; simp
  have un1 : ∀ j, j < ops.size → j ∉ pre → (setAll (Array.replicate ops.size false) pre).getD j false = false := fun j hj hn => by
    rw [setAll_get _ _ _ (by simpa using hj), getD_replicate_false]
    simpa using hn
  have cx : Ctx P ops pre [] [] tl := by
    refine ⟨hsel, hcov', (fun j hj h => by cases hj), fun j hj h => disj_spec hwf j h hj, (fun j hj h => by cases hj), fun j hj h => hpt' j hj (inF h), fun i hi => List.all_eq_true.1 hfl i hi, fun i hi oi hoi k ok hk hne hnp hno => ?_, .inl rfl⟩
    have hkl : k < ops.size := (Array.getElem?_eq_some_iff.1 hk).1
    exact Region.free_spec hoi (List.all_eq_true.1 hfree i hi) k ok hk hne (getD_in (by rw [hs1]; exact hkl) (un1 k hkl hnp)) hno
  refine wp_region_any hm ?_
  have hsz : ops.size = pre.length + tl.length := by omega
  rw [hsz]
  have e0 : Array.replicate (pre.length + tl.length) false = Array.replicate ops.size false := by rw [hsz]
  rw [e0]
  refine execB_sound hsel (fun c a d v w h => h.put) (dfs := a.defers) (ρ := ρ) (fun s1 a1 h1 hr1 hd1 => ?_) pre s _ a next hpre rfl hr rfl
  have hfl0 : ∀ i ∈ floats tl, i < ops.size := fun i hi => by
    obtain ⟨o, _, _, ho, _⟩ := floatB_spec (List.all_eq_true.1 hfl i hi)
    exact (Array.getElem?_eq_some_iff.1 ho).1
  have hmid : Mid P ops pre tl (floats tl) w (setAll (Array.replicate ops.size false) pre) [] (setAll (Array.replicate ops.size false) pre) ρ S H { w with drawn := w.drawn + 1 } :=
    ⟨⟨hs1, hs1, fun j => by simp⟩, inv1.pre, fun e he => absurd he (by simp), List.nodup_nil, List.nodup_nil, List.nodup_nil, fun i hi => ⟨hi, un1 i (hfl0 i hi) fun h => hpt' i h (inF hi)⟩, hnd, fun e he => absurd he (by simp)⟩
  exact AnyC.any _ _ _ _ (tail_read cx tl s1 H hC h1 _ _ htl (floats tl).length [] (by simp) _ ρ S _ a1 hmid (Ev.drew ρ S H w) hd1 (hs.heap rfl) hr1)
/-- A region by a plan: first what is blind, then the others; mode 0 is the only one that may come, mode 1 is blind or a load under C, mode 2 is made whenever the order has it. -/
theorem DrawN.planR {P : Program} {ops : Array Oper} {s : List AV} {H : List Ent} {K : Ex → List AV → List Ent → Prop} (hm : P.follows .mixedOrders = true) (C : World → Prop) (pre : List Nat) (tl : List (Nat × Nat)) (ok : planRB P .any ops pre tl = true) (now : ∀ w, Facts H w → C w)
    (next : execB P ops pre s fun s1 => execR P C [] ops tl s1 H K) : DrawN P ops s H K :=
  .sem fun _ _ _ _ _ hs hr => planR_sound hm ok now next hs hr
/-- The same; of what is made whenever, the listed ones are slices at known addresses. -/
theorem DrawN.planK {P : Program} {ops : Array Oper} {s : List AV} {H : List Ent} {K : Ex → List AV → List Ent → Prop} (hm : P.follows .mixedOrders = true) (C : World → Prop) (kn pre : List Nat) (tl : List (Nat × Nat)) (ok : planRB P .any ops pre tl = true) (now : ∀ w, Facts H w → C w)
    (next : execB P ops pre s fun s1 => execR P C kn ops tl s1 H K) : DrawN P ops s H K :=
  .sem fun _ _ _ _ _ hs hr => planR_sound hm ok now next hs hr
/-- The address of an element of a slice that is there. -/
theorem ReadC.idxA {P : Program} {C : World → Prop} {o : Oper} {s : List AV} {K : AV → Prop} {T e : TypeId} {inf : TypeInfo} {x i : Operand} {a : Option Addr} {n cap sz : Nat} {kk : IntKind} (k : Nat) (ho : o.op = .indexAddr T x i) (hu : P.underlying T = some (.slice e)) (hi : P.info? e = some inf) (hsz : inf.size = sz)
    (hx : opv s x = .c (.v (.slice a n cap))) (hy : opv s i = .c (.v (.int kk (k : Int)))) (ha : a.isSome = true) (hk : k < n) (next : K (.c (.v (.pointer (some (elemAddr a (k * sz))))))) : ∃ x, ReadC P C o s K x := by
  cases a with
  | none => cases ha
  | some p =>
    refine ⟨.pointer (some (elemAddr (some p) (k * sz))), fun cs b e => (by rw [ho] at e; cases e), by rw [ho]; show allPlain s [x, i] = true; simp [allPlain, hx, hy], fun w _ => ?_, next⟩
    have hx2 : plainEv s x = .slice (some p) n cap := by unfold plainEv; rw [hx]
    have hy2 : plainEv s i = .int kk (k : Int) := by unfold plainEv; rw [hy]
    have h := run_indexAt (P := P) hu hi w p n cap kk (k : Int) ⟨by omega, by omega⟩
    rw [Int.toNat_natCast, hsz] at h
    exact execOp_indexAddr ho (by rw [hx2, hy2]; exact h)
end Go.AX

/-
  AX, forty-fifth text: append of a slice that may be empty.
-/
namespace Go.AX

theorem setEK_self : ∀ {H : List Ent} {i : Nat} {e : Ent} {K : List Ent → Prop}, nthE H i = some e → setEK H i e K → K H
  | [], _, _, _, h, _ => by cases h
  | x :: H, 0, e, K, h, hk => by
    have : x = e := Option.some.inj h
    subst this
    exact hk
  | x :: H, i + 1, e, K, h, hk => setEK_self (H := H) (i := i) (K := fun ys => K (x :: ys)) h hk
/-- The target's cells lie in the entry i; what is appended is told by the facts. -/
theorem app_any {H : List Ent} {e : TypeId} {inf : TypeInfo} {n cap b0 m : Nat} {sa : Option Addr} {K : AV → List Ent → Prop} (i : Nat) (xs ys : List Value) (he : nthE H i = some (.app e inf.size xs (some ⟨b0, 0, none⟩) n cap)) (hn : n ≤ cap) (hsa : 0 < m → sa.isSome = true)
    (hlen : ys.length = m * inf.size) (hone : ∀ u ∈ ys, oneV u = true) (hok : ∀ w, Facts H w → ∀ j v, ys[j]? = some v → w.cell? ((sa.getD default).add j) = some v) (hroom : room n m inf.bytes ∧ inf.size ≠ 0)
    (next : ∀ b cap' : Nat, n + m ≤ cap' → setEK H i (.app e inf.size (xs ++ ys) (some ⟨b, 0, none⟩) (n + m) cap') fun H' => K (.c (.v (.slice (some ⟨b, 0, none⟩) (n + m) cap'))) H') :
    brd (Nat.beq m 0) (appendZ H (.c (.v (.slice (some ⟨b0, 0, none⟩) n cap))) (forceA (.c (.v (.slice (some ⟨b0, 0, none⟩) n cap))) fun x => K x H)) (Nd (sa.isSome = true) (ApN H (sa.getD default) m inf.size fun news => appendTo e inf H (.c (.v (.slice (some ⟨b0, 0, none⟩) n cap))) m news K)) := by
  cases m with
  | zero =>
    have h0 : ys = [] := List.eq_nil_of_length_eq_zero (by omega)
    subst h0
    have := next b0 cap (by omega)
    rw [List.append_nil, Nat.add_zero] at this
    exact ⟨hn, setEK_self he this⟩
  | succ m =>
    refine ⟨hsa (by omega), ⟨ys, hlen, hone, hok, ?_⟩⟩
    exact AppN.grow i xs ys he (plains_vs _) ⟨by omega, hroom⟩ fun b c h _ => next b c h
end Go.AX

/-
  AX, forty-fourth text: a law's slice of strings, each of which fits in the reach.
-/
namespace Go.AX
open Go.ChangeShapes Go.WideShapes Go.ChangeAt Go.RowKit
section
variable {H : Type} {enc : TypeId × Value → H} {P : Program} {w : World}

variable {fn : Func} {base : Nat} {args : Array Value} {ds : List (DataW H)} {p : List MemPlace}
end
end Go.AX

/-
  AX, thirty-ninth text: some of one's own entries are over: what they say becomes facts; the others stay.
-/
namespace Go.AX

theorem appB_get {H : List Ent} {b : Nat} (h : appB H b) : ∃ (i : Nat) (e : Ent), H[i]? = some e ∧ e.isApp = true ∧ ∀ ρ j, entB ρ j e b := by
  rcases h with ⟨T, sz, xs, a, n, cap, h1, h2⟩ | ⟨es, c, h1⟩ | ⟨B, F, h1, h2⟩
  · obtain ⟨i, hi⟩ := List.getElem?_of_mem h1
    exact ⟨i, _, hi, rfl, fun _ _ => h2⟩
  · obtain ⟨i, hi⟩ := List.getElem?_of_mem h1
    exact ⟨i, _, hi, rfl, fun _ _ => rfl⟩
  · obtain ⟨i, hi⟩ := List.getElem?_of_mem h1
    exact ⟨i, _, hi, rfl, fun _ _ => h2⟩
theorem Sat.dull {ρ : List Loc} {S : Nat → Prop} {H G : List Ent} {w : World} (h : Sat ρ S H w) (hl : G.length = H.length) (hg : ∀ (i : Nat) (e : Ent), G[i]? = some e → H[i]? = some e ∨ e = .dead) : Sat ρ S G w := by
  have hb : ∀ (i : Nat) (e : Ent) (b : Nat), G[i]? = some e → entB ρ i e b → H[i]? = some e := fun i e b he hb => by
    rcases hg i e he with h1 | rfl
    · exact h1
    · cases hb
  refine ⟨by rw [h.len, hl], fun i e he => ?_, fun i j e f b he hf h1 h2 => h.inj i j e f b (hb i e b he h1) (hb j f b hf h2) h1 h2, fun b ⟨i, e, he, h1⟩ => h.out b ⟨i, e, hb i e b he h1, h1⟩, h.low⟩
  rcases hg i e he with h1 | rfl
  · exact h.ent i e h1
  · trivial
end Go.AX

/-
  AX, forty-first text: at the end of a call two slices of the call's own change their places among the entries.
-/
namespace Go.AX

end Go.AX

/-
  AX, forty-second text: the rest of a slice of anything.
-/
namespace Go.AX
end Go.AX

/-
  AX, forty-third text: rows that are made, of one cell an element.
-/
namespace Go.AX

theorem made_row (z : Value) (n : Nat) : (madeCells #[z] n).toList = List.replicate n z := by
  apply List.ext_getElem?
  intro i
  rw [madeCells, Array.toList_map, List.getElem?_map, Array.toList_range]
  by_cases h : i < n
  · rw [List.getElem?_range h, List.getElem?_replicate, if_pos h]
    simp [Nat.mod_one]
  · rw [List.getElem?_eq_none (by simpa using h), List.getElem?_eq_none (by simpa using h)]
    rfl
/-- make([]T, n) -/
theorem EffW.mkRow {P : Program} {o : Oper} {s : List AV} {H : List Ent} {K : AV → List Ent → Prop} {t e : TypeId} {x y : Operand} {inf : TypeInfo} {z : Value} (n : Nat) (xs : List Value) (ho : o.op = .makeSlice t x y) (ht : P.underlying t = some (.slice e)) (hi : P.info? e = some inf) (hz : inf.zero = some z) (h1 : inf.size = 1) (hc : z.cells = #[z])
    (hx : opv s x = .c (.v (.int .i64 (n : Int)))) (hy : opv s y = .c (.v (.int .i64 (n : Int)))) (hn : n ≤ 1000000 ∧ inf.bytes ≤ 1000) (hxs : List.replicate n z = xs)
    (next : ∀ b, K (.c (.v (.slice (some ⟨b, 0, none⟩) n n))) (H ++ [.app e 1 xs (some ⟨b, 0, none⟩) n n])) : EffW P o s H K := by
  subst hxs
  intro ρ S w a hs hr
  have hxr := opv_rel hr x
  have hyr := opv_rel hr y
  rw [hx] at hxr; rw [hy] at hyr
  have hxe : a.eval x = .int .i64 (n : Int) := hxr
  have hye : a.eval y = .int .i64 (n : Int) := hyr
  have hm2 : inf.bytes * n ≤ 1000 * n := Nat.mul_le_mul_right _ hn.2
  have hrun := run_makeSlice (P := P) (w := w) t e inf z ht hi hz .i64 .i64 (n : Int) (n : Int) (by omega) (Int.le_refl _) (by rw [h1]; omega) (by rw [← Int.natCast_mul]; omega) (by omega)
  simp only [Int.toNat_natCast, h1, Nat.mul_one, hc] at hrun
  have hrow : RowF e 1 n (List.replicate n z) w.heap.size n (w.alloc (.cells (madeCells #[z] n) e)) :=
    ⟨_, (0, 0), ⟨heap_alloc_new w _, .inl rfl⟩, by simp, Nat.le_refl _, by simp only [maxLen]; omega, by rw [size_madeCells, Nat.mul_one], by rw [made_row, Nat.mul_one, List.take_of_length_le (by simp)]⟩
  have hS := hs.newApp (w' := w.alloc (.cells (madeCells #[z] n) e)) rfl rfl rfl rfl hrow
  refine ⟨_, _, next w.heap.size, _, _, _, _, ?_, .inl rfl, hS.1, hS.2, rfl⟩
  unfold execOp
  simp only [ho, hxe, hye, Sem.run_bind, Sem.run_pure, hrun, Result.andThen_ok]
/-- len of a slice, in a drawing region. -/
theorem BlindW.len {P : Program} {o : Oper} {s : List AV} {K : AV → Prop} {x : Operand} {T e : TypeId} {args : Array Operand} {ts : Array TypeId} {p : Option Addr} {n c : Nat} (ho : o.op = .call { callee := .builtin .len, args := args, argTypes := ts }) (ha : args = #[x]) (ht : ts = #[T]) (hu : P.underlying T = some (.slice e))
    (hx : opv s x = .c (.v (.slice p n c))) (hk : K (.c (.v (.int .i64 (n : Int))))) : ∃ x, BlindW P o s K x := by
  subst ha ht
  refine ⟨.int .i64 (n : Int), ?_, fun w => execOp_blt ho fun consts => ?_, hk⟩
  · rw [ho]
    show allPlain s [x] = true
    simp [allPlain, hx]
  · have he : plainEv s x = .slice p n c := by unfold plainEv; rw [hx]
    simp [builtin, Builtin.len_, run_underlying hu, he, goInt]
end Go.AX

/-
  Contracts: graphs in memory; which are looked at (law).
-/
namespace Go.Core
/-- A cell, and where its names and items lie. -/
structure CellP where
  c : Cell
  na : Option Addr
  nc : Nat
  ia : Option Addr
  ic : Nat
end Go.Core
namespace Go.Proofs.YtahjbnfbilkbcaaGreatDoor
open Go.AX Go.RowKit Go.Core
set_option maxRecDepth 20000

def strC (l : List (List UInt8)) : List Value := l.map fun s => .string (bs s)
def iC (l : List Int) : List Value := l.map fun x => .int .i64 x
theorem strC_get {l : List (List UInt8)} {i : Nat} {s : List UInt8} (h : l[i]? = some s) : (strC l)[i]? = some (.string (bs s)) := by
  unfold strC; rw [List.getElem?_map, h]; rfl
theorem iC_get {l : List Int} {i : Nat} {x : Int} (h : l[i]? = some x) : (iC l)[i]? = some (.int .i64 x) := by
  unfold iC; rw [List.getElem?_map, h]; rfl
def cellC (p : CellP) : List Value := [.int .i64 p.c.kind, .int .i64 p.c.num, .string (bs p.c.text), .slice p.na p.c.names.length p.nc, .slice p.ia p.c.items.length p.ic]
def grC (l : List CellP) : List Value := l.flatMap cellC
theorem grC_get (l : List CellP) (i j : Nat) {p : CellP} (hj : j < 5) (h : l[i]? = some p) : (grC l)[i * 5 + j]? = (cellC p)[j]? := by
  unfold grC
  rw [flat_get (m := 5) (fun _ => rfl) l i j hj, h]
  rfl
/-- What is known of a cell's place. -/
structure CellOk (p : CellP) : Prop where
  na : p.na = none → p.c.names = []
  ia : p.ia = none → p.c.items = []
  nl : p.c.names.length ≤ 200000000000000
  il : p.c.items.length ≤ 200000000000000
  nw : ∀ s ∈ p.c.names, s.length ≤ 200000000000000
  tl : p.c.text.length ≤ 200000000000000
  nb : p.c.names.length ≤ p.nc
  ib : p.c.items.length ≤ p.ic
def CellF (p : CellP) (w : World) : Prop := SlAt p.na (p.c.names.length * 1) (strC p.c.names) w ∧ SlAt p.ia (p.c.items.length * 1) (iC p.c.items) w
/-- A graph lies there. -/
def GrF (a : Option Addr) (l : List CellP) (w : World) : Prop := SlAt a (l.length * 5) (grC l) w ∧ ∀ p ∈ l, CellF p w
/-- How much a graph is (law). -/
def sizeG (l : List CellP) : Nat := (l.map fun p => p.c.items.length + p.c.names.length).sum
def largeB (l : List CellP) : Bool := decide (2000 ≤ l.length + sizeG l)
theorem sum_take_le : ∀ (l : List Nat) (i : Nat), (l.take i).sum ≤ l.sum
  | [], i => by simp
  | x :: l, 0 => by simp
  | x :: l, i + 1 => by
    have := sum_take_le l i
    simp only [List.take_succ_cons, List.sum_cons]
    omega
theorem sizeG_step {l : List CellP} {i : Nat} {p : CellP} (h : l[i]? = some p) : sizeG (l.take (i + 1)) = sizeG (l.take i) + (p.c.items.length + p.c.names.length) := by
  unfold sizeG
  rw [List.take_add_one, h, List.map_append, List.sum_append]
  simp
set_option maxHeartbeats 1000000 in
theorem large_c (a : Option Addr) (c : Nat) (l : List CellP) (ha : a = none → l = []) (hl : l.length ≤ 200000000000000) (hok : ∀ p ∈ l, CellOk p) : ∀ H, (∀ w, Facts H w → GrF a l w) → SpecH Tryz.prog 14 (pvs [.slice a l.length c]) H (Ret (.bool (largeB l)) H) := by
  refine factC hm Tryz.func14 (by kernel_rfl) rfl rfl ?_
  (first | refine wX ?_ | exact wZ)
  refine loopS (Nat × Nat) (fun ⟨i, n⟩ => i ≤ l.length ∧ n = l.length + sizeG (l.take i) ∧ n ≤ 800000000000000) (fun ⟨i, n⟩ => mkS Tryz.f14.ntmps 0 [(0, .c (.v (.slice a l.length c))), (2, .c (.v (.bool false))), (3, .c (.v (.int .i64 (n : Int)))), (4, .c (.v (.int .i64 (i : Int))))]) (fun ⟨i, _⟩ => l.length - i) rfl (fun _ => rfl) (0, l.length) ⟨Nat.zero_le _, by simp [sizeG], by omega⟩ ?_ ?_
  · (repeat' (first | exact trivial | refine And.intro (by with_reducible rfl) ?_ | (with_reducible exact wkC_refl _) | (with_reducible exact wkCs_refl _) | refine And.intro ?_ ?_))
    all_goals rfl
  rintro ⟨i, n⟩ ⟨hi, hn, hnb⟩
  (first | refine wX ?_ | exact wZ)
  have hend : ∀ b : Bool, (n < 2000 → i = l.length) → b = decide ((2000 : Int) ≤ n) → b = largeB l := fun b h1 h2 => by
    have h3 : sizeG (l.take i) ≤ sizeG l := by
      unfold sizeG
      rw [List.map_take]
      exact sum_take_le _ _
    rw [h2]
    unfold largeB
    by_cases h4 : n < 2000
    · rw [h1 h4, List.take_length] at hn
      exact decide_eq_decide.2 (by omega)
    · exact decide_eq_decide.2 (by omega)
  refine brd_dec (fun h1 => ?_) (fun h1 => ?_)
  · (first | refine wX ?_ | exact wZ)
    refine brd_dec (fun h2 => ?_) (fun h2 => ?_)
    · obtain ⟨p, hp⟩ : ∃ p, l[i]? = some p := ⟨_, List.getElem?_eq_getElem (by omega)⟩
      have hpo := hok p (List.mem_of_getElem? hp)
      have hnl := hpo.nl
      have hil := hpo.il
      have hsa : a.isSome = true := by
        cases a with
        | none => rw [ha rfl] at hp; cases hp
        | some b => rfl
      have hst := sizeG_step hp
      have hwn : IntKind.i64.wrap (IntKind.i64.wrap ((n : Int) + (p.c.items.length : Int)) + (p.c.names.length : Int)) = ((n + (p.c.items.length + p.c.names.length) : Nat) : Int) := by rw [wrap_i64 (x := (n : Int) + (p.c.items.length : Int)) (by omega), wrap_i64 (by omega)]; omega
      have hf : ∀ j, j < 5 → (grC l)[(i : Int).toNat * 5 + j]? = (cellC p)[j]? := fun j hj => by
        rw [Int.toNat_natCast]
        exact grC_get l i j hj hp
      (first | refine wX ?_ | exact wZ)
      -- 4: the field, .slice p.ia p.c.items.length p.ic: its value
      refine Nd.mk ⟨hsa, by omega, by omega⟩ ?_
      (first | refine wX ?_ | exact wZ)
      refine LdN.fld (.slice p.ia p.c.items.length p.ic) rfl (fun w hw => hw.1.1) (hf 4 (by decide)) ?_
      (first | refine wX ?_ | exact wZ)
      -- 3: the field, .slice p.na p.c.names.length p.nc: its value
      refine Nd.mk ⟨hsa, by omega, by omega⟩ ?_
      (first | refine wX ?_ | exact wZ)
      refine LdN.fld (.slice p.na p.c.names.length p.nc) rfl (fun w hw => hw.1.1) (hf 3 (by decide)) ?_
      (first | refine wX ?_ | exact wZ)
      refine ⟨(i + 1, n + (p.c.items.length + p.c.names.length)), ⟨by omega, by omega, by omega⟩, by show l.length - (i + 1) < l.length - i; omega, ?_, by (repeat' (first | exact trivial | exact wkE_refl _ | refine And.intro ?_ ?_))⟩
      (repeat' (first | exact trivial | refine And.intro (by with_reducible rfl) ?_ | (with_reducible exact wkC_refl _) | (with_reducible exact wkCs_refl _) | refine And.intro ?_ ?_))
      all_goals first | rfl | exact av_int hwn | exact av_int (by rw [wrap_i64 (by omega)]; omega) | exact av_int (by omega)
    · (first | refine wX ?_ | exact wZ)
      exact out_bool (hend _ (fun h => by omega) rfl)
  · (first | refine wX ?_ | exact wZ)
    exact out_bool (hend _ (fun h => by omega) rfl)
end Go.Proofs.YtahjbnfbilkbcaaGreatDoor

/-
  AX, twenty-seventh text: arguments that are slices of structs.
-/
namespace Go.AX
open Go.ChangeShapes Go.WideShapes Go.ChangeAt Go.RowKit

theorem choose_list {α : Type} {R : Nat → α → Prop} : ∀ n, (∀ i, i < n → ∃ x, R i x) → ∃ l : List α, l.length = n ∧ ∀ i x, l[i]? = some x → R i x
  | 0, _ => ⟨[], rfl, fun i x h => by simp at h⟩
  | n + 1, h => by
    obtain ⟨l, hl, hR⟩ := choose_list n fun i hi => h i (by omega)
    obtain ⟨x, hx⟩ := h n (by omega)
    refine ⟨l ++ [x], by simp [hl], fun i y hy => ?_⟩
    by_cases hi : i < l.length
    · rw [List.getElem?_append_left hi] at hy
      exact hR i y hy
    · have hlt := (List.getElem?_eq_some_iff.1 hy).1
      simp only [List.length_append, List.length_cons, List.length_nil] at hlt
      have e : i = l.length := by omega
      subst e
      simp at hy
      subst hy
      rw [hl]; exact hx
section
variable {H : Type} {enc : TypeId × Value → H} {P : Program} {w : World}
theorem weights_all {e : TypeId} : ∀ {l : List (DataW H)} {d : DataW H}, d ∈ l → ∀ k ∈ d.weights P e, k ∈ DataW.weightsAll P e l
  | [], _, h, _, _ => by cases h
  | a :: l, d, h, k, hk => by
    rw [DataW.weightsAll, List.mem_append]
    rcases List.mem_cons.1 h with rfl | h
    · exact .inl hk
    · exact .inr (weights_all h k hk)
end
end Go.AX

/-
  AX, thirty-seventh text: slices that stand in the cells of a slice's structs.
-/
namespace Go.AX
open Go.ChangeShapes Go.WideShapes Go.ChangeAt Go.RowKit
section
variable {H : Type} {enc : TypeId × Value → H} {P : Program} {w : World}
/-- A slice in a cell, as it is read: g lays an item out, Q is what the reading says of it. -/
theorem rows_inC {α : Type} {Q : α → Prop} {m : Nat} (g : α → List Value) (hg : ∀ x, (g x).length = m) {t e : TypeId} {fuel : Nat} {cs : List Value} {y : DataW H × List MemPlace} (ht : P.underlying t = some (.slice e)) (hc : P.cellsOf e = m) (hb : 1 ≤ P.bytesOf e)
    (hread : ∀ n cs (y : DataW H × List MemPlace), DataW.trod enc P w 0 (fun _ => true) true n e cs = some y → (∀ k ∈ y.1.weights P e, k ≤ reachBytes) → ∃ x, Q x ∧ cs = g x)
    (h : DataW.trod enc P w 0 (fun _ => true) true fuel t cs = some y) (hwt : ∀ k ∈ y.1.weights P t, k ≤ reachBytes) :
    ∃ (a : Option Addr) (l : List α) (cap : Nat), cs = [.slice a l.length cap] ∧ l.length ≤ cap ∧ l.length ≤ 200000000000000 ∧ SlAt a (l.length * m) (l.flatMap g) w ∧ (a = none → l = []) ∧ ∀ x ∈ l, Q x := by
  rcases DataW.trod_slice ht h with ⟨h1, h2⟩ | ⟨a, len, cap, elems, rest, n, _, h1, h2, _, hlc, _, hlen, hel, _⟩
  · refine ⟨none, [], 0, by simpa using h1, by simp, by simp, ?_, fun _ => rfl, by simp⟩
    rw [List.length_nil, Nat.zero_mul]
    exact SlAt.nil
  · rw [h2] at hwt
    have hall : ∀ k ∈ (DataW.slice (elems.map (·.1)) (rest.map (·.1))).weights P t, k ≤ reachBytes := hwt
    have hs : (elems.length + rest.length) * P.bytesOf e ≤ reachBytes := by
      have := hall ((elems.length + rest.length) * P.bytesOf e) (by simp [DataW.weights, ht])
      exact this
    have hr : reachBytes < 200000000000000 := by decide
    have hb' : len ≤ reachBytes := by
      rw [hlen] at hs
      exact Nat.le_trans (Nat.le_trans (Nat.le_add_right _ _) (Nat.le_mul_of_pos_right _ hb)) hs
    have hx : ∀ i, i < len → ∃ x, Q x ∧ ∀ q, q < m → w.cell? (a.add (i * m + q)) = (g x)[q]? := fun i hi => by
      have hi2 := hel i hi
      rw [hc, List.getElem?_eq_getElem (by omega)] at hi2
      obtain ⟨cs, hcs, hy⟩ := Option.bind_eq_some_iff.1 hi2
      obtain ⟨x, hQ, rfl⟩ := hread n cs _ hy fun k hk => by
        refine hall k ?_
        simp only [DataW.weights, ht, List.mem_cons, List.mem_append]
        exact .inr (.inl (weights_all (List.mem_map.2 ⟨_, List.getElem_mem _, rfl⟩) k hk))
      refine ⟨x, hQ, fun q hq => ?_⟩
      obtain ⟨_, _, hcell⟩ := World.cells?_some hcs
      have := hcell q hq
      rwa [Addr.add_add] at this
    obtain ⟨l, hl, hR⟩ := choose_list len hx
    refine ⟨some a, l, cap, by rw [hl]; exact h1, by omega, by omega, ?_, (fun h => by cases h), fun x hx => ?_⟩
    · refine ⟨flat_len hg l, fun _ => rfl, fun q hq => ?_⟩
      have hm : 0 < m := Nat.pos_of_ne_zero fun e => by rw [e] at hq; simp at hq
      have hq2 : q = q / m * m + q % m := by rw [Nat.mul_comm]; exact (Nat.div_add_mod q m).symm
      have hqi : q / m < l.length := Nat.div_lt_of_lt_mul (by rw [Nat.mul_comm]; exact hq)
      have hqm := Nat.mod_lt q hm
      show w.cell? (a.add q) = _
      rw [hq2, flat_get hg l _ _ hqm, List.getElem?_eq_getElem hqi]
      exact (hR _ _ (List.getElem?_eq_getElem hqi)).2 _ hqm
    · obtain ⟨i, hi⟩ := List.getElem?_of_mem hx
      exact (hR i x hi).1
theorem rows_in {α : Type} {Q : α → Prop} {m : Nat} (g : α → List Value) (hg : ∀ x, (g x).length = m) {t e : TypeId} {fuel : Nat} {cs : List Value} {y : DataW H × List MemPlace} (ht : P.underlying t = some (.slice e)) (hc : P.cellsOf e = m) (hb : 1 ≤ P.bytesOf e)
    (hread : ∀ n cs (y : DataW H × List MemPlace), DataW.trod enc P w 0 (fun _ => true) true n e cs = some y → (∀ k ∈ y.1.weights P e, k ≤ reachBytes) → ∃ x, Q x ∧ cs = g x)
    (h : DataW.trod enc P w 0 (fun _ => true) true fuel t cs = some y) (hwt : ∀ k ∈ y.1.weights P t, k ≤ reachBytes) :
    ∃ (a : Option Addr) (l : List α) (cap : Nat), cs = [.slice a l.length cap] ∧ l.length ≤ 200000000000000 ∧ SlAt a (l.length * m) (l.flatMap g) w ∧ (a = none → l = []) ∧ ∀ x ∈ l, Q x := by
  obtain ⟨a, l, cap, h1, _, h2⟩ := rows_inC g hg ht hc hb hread h hwt
  exact ⟨a, l, cap, h1, h2⟩
end
/-- Facts of all of a list. -/
theorem Imm.all {α : Type} {S : Nat → Prop} {w : World} {l : List α} {F : α → World → Prop} (h : ∀ x ∈ l, Imm S w (F x)) : Imm S w fun w => ∀ x ∈ l, F x w :=
  ⟨fun x hx => (h x hx).1, fun w' hw x hx => (h x hx).2 w' hw⟩
end Go.AX

/-
  What is read of an argument that is a graph.
-/
namespace Go.Proofs.YtahjbnfbilkbcaaGreatDoor
open Go.ChangeShapes Go.WideShapes Go.ChangeAt Go.RowKit Go.AX Go.Core
set_option maxRecDepth 100000

theorem str_read {H : Type} {enc : TypeId × Value → H} {w : World} : ∀ n cs (y : DataW H × List MemPlace), DataW.trod enc Tryz.prog w 0 (fun _ => true) true n 9 cs = some y → (∀ k ∈ y.1.weights Tryz.prog 9, k ≤ reachBytes) → ∃ x : List UInt8, x.length ≤ 200000000000000 ∧ cs = [Value.string (bs x)] := by
  intro n cs y h hk
  obtain ⟨s, e, e2, _⟩ := DataW.trod_string Tryz.underlying9 h
  have hr : reachBytes < 200000000000000 := by decide
  have := hk s.data.toList.length (by rw [e2]; simp [DataW.weights])
  exact ⟨s.data.toList, by omega, by rw [bs_of]; exact e⟩
theorem int_read {H : Type} {enc : TypeId × Value → H} {w : World} : ∀ n cs (y : DataW H × List MemPlace), DataW.trod enc Tryz.prog w 0 (fun _ => true) true n 3 cs = some y → (∀ k ∈ y.1.weights Tryz.prog 3, k ≤ reachBytes) → ∃ x : Int, True ∧ cs = [Value.int .i64 x] := by
  intro n cs y h _
  obtain ⟨k, e, _⟩ := DataW.trod_int Tryz.underlying3 h
  exact ⟨k, trivial, e⟩
theorem flat_str (l : List (List UInt8)) : (l.flatMap fun x => [Value.string (bs x)]) = strC l := by
  induction l with
  | nil => rfl
  | cons x l ih => rw [List.flatMap_cons, ih]; rfl
theorem flat_int (l : List Int) : (l.flatMap fun x => [Value.int .i64 x]) = iC l := by
  induction l with
  | nil => rfl
  | cons x l ih => rw [List.flatMap_cons, ih]; rfl
theorem cell_read {H : Type} {enc : TypeId × Value → H} {w : World} : ∀ n cs (y : DataW H × List MemPlace), DataW.trod enc Tryz.prog w 0 (fun _ => true) true n 42 cs = some y → (∀ k ∈ y.1.weights Tryz.prog 42, k ≤ reachBytes) → ∃ p : CellP, (CellOk p ∧ CellF p w) ∧ cs = cellC p := by
  intro n cs y h hk
  have cT : Tryz.prog.cellsOf 3 = 1 := by kernel_rfl
  have cS : Tryz.prog.cellsOf 9 = 1 := by kernel_rfl
  have cL : Tryz.prog.cellsOf 40 = 1 := by kernel_rfl
  have cI : Tryz.prog.cellsOf 35 = 1 := by kernel_rfl
  have cP : Tryz.prog.cellsOf 42 = 5 := by kernel_rfl
  obtain ⟨xs, n', _, hx, hlen, hxl, hf⟩ := DataW.trod_struct Tryz.underlying42 h
  have h0 := hf 0 _ rfl
  have h1 := hf 1 _ rfl
  have h2 := hf 2 _ rfl
  have h3 := hf 3 _ rfl
  have h4 := hf 4 _ rfl
  match xs, hxl with
  | [y0, y1, y2, y3, y4], _ =>
    have hw : ∀ k, k ∈ y2.1.weights Tryz.prog 9 ∨ k ∈ y3.1.weights Tryz.prog 40 ∨ k ∈ y4.1.weights Tryz.prog 35 → k ≤ reachBytes := fun k hk2 => hk k (by
      rw [hx]
      simp only [DataW.weights, Tryz.underlying42]
      simp [DataW.weightsEach]
      rcases hk2 with h | h | h
      · exact .inr (.inr (.inl h))
      · exact .inr (.inr (.inr (.inl h)))
      · exact .inr (.inr (.inr (.inr h))))
    obtain ⟨kd, e0, _⟩ := DataW.trod_int Tryz.underlying3 h0
    obtain ⟨nm, e1, _⟩ := DataW.trod_int Tryz.underlying3 h1
    obtain ⟨tx, htx, e2⟩ := str_read _ _ _ h2 (fun k hk2 => hw k (.inl hk2))
    obtain ⟨na, ns, nc, e3, hnc, hl, hs, hn, hq⟩ := rows_inC (m := 1) (fun x : List UInt8 => [Value.string (bs x)]) (fun _ => rfl) Tryz.underlying40 (by kernel_rfl) (by decide +kernel) str_read h3 (fun k hk2 => hw k (.inr (.inl hk2)))
    obtain ⟨ia, it, ic, e4, hic, hl2, hs2, hn2, _⟩ := rows_inC (m := 1) (fun x : Int => [Value.int .i64 x]) (fun _ => rfl) Tryz.underlying35 (by kernel_rfl) (by decide +kernel) int_read h4 (fun k hk2 => hw k (.inr (.inr hk2)))
    rw [flat_str] at hs
    rw [flat_int] at hs2
    rw [cP] at hlen
    match cs, hlen with
    | [d0, d1, d2, d3, d4], _ =>
      have f0 : List.take (Tryz.prog.cellsOf 3) (List.drop 0 [d0, d1, d2, d3, d4]) = [.int .i64 kd] := e0
      have f1 : List.take (Tryz.prog.cellsOf 3) (List.drop 1 [d0, d1, d2, d3, d4]) = [.int .i64 nm] := e1
      have f2 : List.take (Tryz.prog.cellsOf 9) (List.drop 2 [d0, d1, d2, d3, d4]) = [.string (bs tx)] := e2
      have f3 : List.take (Tryz.prog.cellsOf 40) (List.drop 3 [d0, d1, d2, d3, d4]) = [.slice na ns.length nc] := e3
      have f4 : List.take (Tryz.prog.cellsOf 35) (List.drop 4 [d0, d1, d2, d3, d4]) = [.slice ia it.length ic] := e4
      clear e0 e1 e2 e3 e4
      rw [cT] at f0 f1
      rw [cS] at f2
      rw [cL] at f3
      rw [cI] at f4
      simp at f0 f1 f2 f3 f4
      subst f0 f1 f2 f3 f4
      exact ⟨⟨⟨kd, nm, tx, ns, it⟩, na, nc, ia, ic⟩, ⟨⟨hn, hn2, hl, hl2, hq, htx, hnc, hic⟩, hs, hs2⟩, rfl⟩
end Go.Proofs.YtahjbnfbilkbcaaGreatDoor

/-
  What the rows list.
-/
namespace Go.Proofs.YtahjbnfbilkbcaaGreatDoor
open Go.ChangeShapes Go.WideShapes Go.ChangeAt Go.RowKit Go.AX Go.Core
set_option maxRecDepth 100000

/-- What the rows list. -/
def laid3 : List (String × DataW Unit) := [("math/bits.deBruijn32tab", Rows.laid_math_bits_deBruijn32tab), ("math/bits.deBruijn64tab", Rows.laid_math_bits_deBruijn64tab), ("internal/strconv.uint64pow10", Rows.laid_internal_strconv_uint64pow10)]
theorem door_met (os : Os) (args : Array Value) : laidMetH Tryz.prog laid3 ((World.laidAll Tryz.prog os laid3).forCall (fun _ _ => 0) ⟨#[], args, []⟩).memory := by
  rw [MakeChecks.laidMetH_plain _ _ _ (by kernel_rfl)]; exact laidMet_laidAll _ (by kernel_rfl) (by kernel_rfl)
end Go.Proofs.YtahjbnfbilkbcaaGreatDoor

/-
  Contracts: slices.ContainsFunc of numbers and of names, by any closure of which a contract says what it answers.
-/
namespace Go.Proofs.YtahjbnfbilkbcaaGreatDoor
open Go.AX Go.RowKit Go.Core
set_option maxRecDepth 20000

/-- The first one of which a closure says yes. -/
def idx {α : Type} (f : α → Bool) : List α → Nat → Int
  | [], _ => -1
  | o :: l, i => if f o then (i : Int) else idx f l (i + 1)
theorem idx_spec {α : Type} (f : α → Bool) : ∀ (l : List α) (i : Nat), (idx f l i = -1 ∧ l.any f = false) ∨ ((i : Int) ≤ idx f l i ∧ idx f l i < i + l.length ∧ l.any f = true)
  | [], _ => .inl ⟨rfl, rfl⟩
  | o :: l, i => by
    unfold idx
    cases h : f o with
    | true => exact .inr ⟨by simp, by simp only [if_true, List.length_cons]; omega, by simp [h]⟩
    | false =>
      rcases idx_spec f l (i + 1) with ⟨h1, h2⟩ | ⟨h1, h2, h3⟩
      · exact .inl ⟨by simpa using h1, by simp [h, h2]⟩
      · refine .inr ⟨?_, ?_, by simp [h, h3]⟩
        · simp only [Bool.false_eq_true, if_false]; omega
        · simp only [Bool.false_eq_true, if_false, List.length_cons]; omega
theorem idx_drop {α : Type} (f : α → Bool) (l : List α) (i : Nat) {o : α} (h : l[i]? = some o) : idx f (l.drop i) i = if f o then (i : Int) else idx f (l.drop (i + 1)) (i + 1) := by
  obtain ⟨hlt, hx⟩ := List.getElem?_eq_some_iff.1 h
  rw [List.drop_eq_getElem_cons hlt, hx]
  rfl
-- slices.IndexFunc[[]int,int]: IndexFunc, slices.ContainsFunc[[]int,int]: ContainsFunc, Int: the type of an element, .int .i64 p: its value, iC: the cells, iC_get: of one, IndexI_c HasI_c: the theorems
set_option maxHeartbeats 1000000 in
theorem IndexI_c (f : Int → Bool) (g : Nat) (caps : Array Value) (F : World → Prop) (a : Option Addr) (cap : Nat) (l : List Int) (hf : ∀ p ∈ l, ∀ H, (∀ w, Facts H w → F w) → SpecH Tryz.prog g (pvs [.int .i64 p] ++ pvs caps.toList) H (Ret (.bool (f p)) H)) (ha : a = none → l = []) (hl : l.length ≤ 200000000000000) : ∀ H, (∀ w, Facts H w → SlAt a (l.length * 1) (iC l) w ∧ F w) →
    SpecH Tryz.prog 92 (pvs [.slice a l.length cap, .func (.func g) #[] caps]) H (Ret (.int .i64 (idx f l 0)) H) := by
  refine factC hm Tryz.func92 (by kernel_rfl) rfl rfl ?_
  (first | refine wX ?_ | exact wZ)
  refine loopS Nat (fun i => i ≤ l.length ∧ idx f l 0 = idx f (l.drop i) i) (fun i => mkS Tryz.f92.ntmps 0 [(0, .c (.v (.slice a l.length cap))), (1, .c (.v (.func (.func g) #[] caps))), (7, .c (.v (.int .i64 (l.length : Int)))), (8, .c (.v (.int .i64 (i : Int))))]) (fun i => l.length - i) rfl (fun _ => rfl) 0 ⟨Nat.zero_le _, rfl⟩ ?_ fun i ⟨hi, he⟩ => ?_
  · (repeat' (first | exact trivial | refine And.intro (by with_reducible rfl) ?_ | (with_reducible exact wkC_refl _) | (with_reducible exact wkCs_refl _) | refine And.intro ?_ ?_))
    all_goals rfl
  (first | refine wX ?_ | exact wZ)
  refine brd_dec (fun h1 => ?_) (fun h1 => ?_)
  · obtain ⟨p, ho⟩ : ∃ o, l[i]? = some o := ⟨_, List.getElem?_eq_getElem (by omega)⟩
    have hd := idx_drop f l i ho
    have hsa : a.isSome = true := by
      cases a with
      | none => rw [ha rfl] at ho; cases ho
      | some b => rfl
    (first | refine wX ?_ | exact wZ)
    refine Nd.mk ⟨hsa, by omega, by omega⟩ ?_
    (first | refine wX ?_ | exact wZ)
    refine LdN.one (.int .i64 p) rfl (fun w hw => hw.1.1) (by rw [Int.toNat_natCast]; show (iC l)[i * 1]? = _; rw [Nat.mul_one]; exact iC_get ho) ?_
    (first | refine wX ?_ | exact wZ)
    refine call1 (hf p (List.mem_of_getElem? ho) _ (fun w hw => hw.1.2)) ?_
    cases hfo : f p with
    | true =>
      rw [hfo] at hd
      rw [he, hd]
      (first | refine wX ?_ | exact wZ)
      rfl
    | false =>
      rw [hfo] at hd
      (first | refine wX ?_ | exact wZ)
      refine ⟨i + 1, ⟨by omega, by rw [he, hd]; rfl⟩, by omega, ?_, by (repeat' (first | exact trivial | exact wkE_refl _ | refine And.intro ?_ ?_))⟩
      (repeat' (first | exact trivial | refine And.intro (by with_reducible rfl) ?_ | (with_reducible exact wkC_refl _) | (with_reducible exact wkCs_refl _) | refine And.intro ?_ ?_))
      all_goals first | rfl | exact av_int (by rw [wrap_i64 (by omega)]; omega)
  · have hin : i = l.length := by omega
    subst hin
    rw [he, List.drop_of_length_le (Nat.le_refl _)]
    (first | refine wX ?_ | exact wZ)
    rfl
theorem HasI_c (f : Int → Bool) (g : Nat) (caps : Array Value) (F : World → Prop) (a : Option Addr) (cap : Nat) (l : List Int) (hf : ∀ p ∈ l, ∀ H, (∀ w, Facts H w → F w) → SpecH Tryz.prog g (pvs [.int .i64 p] ++ pvs caps.toList) H (Ret (.bool (f p)) H)) (ha : a = none → l = []) (hl : l.length ≤ 200000000000000) : ∀ H, (∀ w, Facts H w → SlAt a (l.length * 1) (iC l) w ∧ F w) →
    SpecH Tryz.prog 46 (pvs [.slice a l.length cap, .func (.func g) #[] caps]) H (Ret (.bool (l.any f)) H) := by
  refine factC hm Tryz.func46 (by kernel_rfl) rfl rfl ?_
  (first | refine wX ?_ | exact wZ)
  refine call1 (IndexI_c f g caps F a cap l hf ha hl _ (fun w hw => hw.1)) ?_
  (first | refine wX ?_ | exact wZ)
  rcases idx_spec f l 0 with ⟨h1, h2⟩ | ⟨h1, h2, h3⟩
  · rw [h1, h2]
    rfl
  · rw [h3]
    exact out_bool (decide_eq_true (by omega))
-- slices.IndexFunc[[]string,string]: IndexFunc, slices.ContainsFunc[[]string,string]: ContainsFunc, (List UInt8): the type of an element, .string (bs p): its value, strC: the cells, strC_get: of one, IndexS_c HasS_c: the theorems
set_option maxHeartbeats 1000000 in
theorem IndexS_c (f : (List UInt8) → Bool) (g : Nat) (caps : Array Value) (F : World → Prop) (a : Option Addr) (cap : Nat) (l : List (List UInt8)) (hf : ∀ p ∈ l, ∀ H, (∀ w, Facts H w → F w) → SpecH Tryz.prog g (pvs [.string (bs p)] ++ pvs caps.toList) H (Ret (.bool (f p)) H)) (ha : a = none → l = []) (hl : l.length ≤ 200000000000000) : ∀ H, (∀ w, Facts H w → SlAt a (l.length * 1) (strC l) w ∧ F w) →
    SpecH Tryz.prog 115 (pvs [.slice a l.length cap, .func (.func g) #[] caps]) H (Ret (.int .i64 (idx f l 0)) H) := by
  refine factC hm Tryz.func115 (by kernel_rfl) rfl rfl ?_
  (first | refine wX ?_ | exact wZ)
  refine loopS Nat (fun i => i ≤ l.length ∧ idx f l 0 = idx f (l.drop i) i) (fun i => mkS Tryz.f115.ntmps 0 [(0, .c (.v (.slice a l.length cap))), (1, .c (.v (.func (.func g) #[] caps))), (7, .c (.v (.int .i64 (l.length : Int)))), (8, .c (.v (.int .i64 (i : Int))))]) (fun i => l.length - i) rfl (fun _ => rfl) 0 ⟨Nat.zero_le _, rfl⟩ ?_ fun i ⟨hi, he⟩ => ?_
  · (repeat' (first | exact trivial | refine And.intro (by with_reducible rfl) ?_ | (with_reducible exact wkC_refl _) | (with_reducible exact wkCs_refl _) | refine And.intro ?_ ?_))
    all_goals rfl
  (first | refine wX ?_ | exact wZ)
  refine brd_dec (fun h1 => ?_) (fun h1 => ?_)
  · obtain ⟨p, ho⟩ : ∃ o, l[i]? = some o := ⟨_, List.getElem?_eq_getElem (by omega)⟩
    have hd := idx_drop f l i ho
    have hsa : a.isSome = true := by
      cases a with
      | none => rw [ha rfl] at ho; cases ho
      | some b => rfl
    (first | refine wX ?_ | exact wZ)
    refine Nd.mk ⟨hsa, by omega, by omega⟩ ?_
    (first | refine wX ?_ | exact wZ)
    refine LdN.one (.string (bs p)) rfl (fun w hw => hw.1.1) (by rw [Int.toNat_natCast]; show (strC l)[i * 1]? = _; rw [Nat.mul_one]; exact strC_get ho) ?_
    (first | refine wX ?_ | exact wZ)
    refine call1 (hf p (List.mem_of_getElem? ho) _ (fun w hw => hw.1.2)) ?_
    cases hfo : f p with
    | true =>
      rw [hfo] at hd
      rw [he, hd]
      (first | refine wX ?_ | exact wZ)
      rfl
    | false =>
      rw [hfo] at hd
      (first | refine wX ?_ | exact wZ)
      refine ⟨i + 1, ⟨by omega, by rw [he, hd]; rfl⟩, by omega, ?_, by (repeat' (first | exact trivial | exact wkE_refl _ | refine And.intro ?_ ?_))⟩
      (repeat' (first | exact trivial | refine And.intro (by with_reducible rfl) ?_ | (with_reducible exact wkC_refl _) | (with_reducible exact wkCs_refl _) | refine And.intro ?_ ?_))
      all_goals first | rfl | exact av_int (by rw [wrap_i64 (by omega)]; omega)
  · have hin : i = l.length := by omega
    subst hin
    rw [he, List.drop_of_length_le (Nat.le_refl _)]
    (first | refine wX ?_ | exact wZ)
    rfl
theorem HasS_c (f : (List UInt8) → Bool) (g : Nat) (caps : Array Value) (F : World → Prop) (a : Option Addr) (cap : Nat) (l : List (List UInt8)) (hf : ∀ p ∈ l, ∀ H, (∀ w, Facts H w → F w) → SpecH Tryz.prog g (pvs [.string (bs p)] ++ pvs caps.toList) H (Ret (.bool (f p)) H)) (ha : a = none → l = []) (hl : l.length ≤ 200000000000000) : ∀ H, (∀ w, Facts H w → SlAt a (l.length * 1) (strC l) w ∧ F w) →
    SpecH Tryz.prog 89 (pvs [.slice a l.length cap, .func (.func g) #[] caps]) H (Ret (.bool (l.any f)) H) := by
  refine factC hm Tryz.func89 (by kernel_rfl) rfl rfl ?_
  (first | refine wX ?_ | exact wZ)
  refine call1 (IndexS_c f g caps F a cap l hf ha hl _ (fun w hw => hw.1)) ?_
  (first | refine wX ?_ | exact wZ)
  rcases idx_spec f l 0 with ⟨h1, h2⟩ | ⟨h1, h2, h3⟩
  · rw [h1, h2]
    rfl
  · rw [h3]
    exact out_bool (decide_eq_true (by omega))
end Go.Proofs.YtahjbnfbilkbcaaGreatDoor

/-
  Contracts: leaves; whether two cells are one key (program, document).
-/
namespace Go.Core
def oneKeyB (x y : Cell) : Bool := isLeaf x && x.kind == y.kind && x.num == y.num && x.text == y.text
end Go.Core
namespace Go.Proofs.YtahjbnfbilkbcaaGreatDoor
open Go.AX Go.RowKit Go.Core
set_option maxRecDepth 20000

theorem isLeaf_c (k : Int) : ∀ H, SpecH Tryz.prog 85 (pvs [.int .i64 k]) H (Ret (.bool (decide (k ≤ 5))) H) := by
  refine pureC hm Tryz.func85 (by kernel_rfl) rfl rfl ?_
  (first | refine wX ?_ | exact wZ)
def cellV (p : CellP) : Value := .agg #[.int .i64 p.c.kind, .int .i64 p.c.num, .string (bs p.c.text), .slice p.na p.c.names.length p.nc, .slice p.ia p.c.items.length p.ic]
theorem leaf_c (p : CellP) : ∀ H, SpecH Tryz.prog 80 (pvs [cellV p]) H (Ret (.bool (isLeaf p.c)) H) := by
  refine pureC hm Tryz.func80 (by kernel_rfl) rfl rfl ?_
  (first | refine wX ?_ | exact wZ)
  rfl
theorem txt_eq (a b : List UInt8) : ((bs a).data.toList == (bs b).data.toList) = (a == b) := by rw [bs_list, bs_list]
set_option maxHeartbeats 1000000 in
theorem oneKey_c (a : Option Addr) (c : Nat) (l : List CellP) (i j : Nat) (p q : CellP) (hp : l[i]? = some p) (hq : l[j]? = some q) (ha : a = none → l = []) (hl : l.length ≤ 200000000000000) : ∀ H, (∀ w, Facts H w → GrF a l w) → SpecH Tryz.prog 59 (pvs [.slice a l.length c, .int .i64 (i : Int), .int .i64 (j : Int)]) H (Ret (.bool (decide ((i : Int) = j) || oneKeyB p.c q.c)) H) := by
  refine factC hm Tryz.func59 (by kernel_rfl) rfl rfl ?_
  have hil := (List.getElem?_eq_some_iff.1 hp).1
  have hjl := (List.getElem?_eq_some_iff.1 hq).1
  have hsa : a.isSome = true := by
    cases a with
    | none => rw [ha rfl] at hp; cases hp
    | some b => rfl
  (first | refine wX ?_ | exact wZ)
  refine DrawN.planR hm (fun w => SlAt a (l.length * 5) (grC l) w) [0, 1, 4, 5] [(2, 1), (3, 1), (6, 1), (7, 1), (8, 2), (9, 2), (10, 0), (11, 0)] (by decide +kernel) (fun w hw => hw.1.1) ?_
  -- fun w hw => hw.1.1: why the kind holds
  ((conv => whnf); (repeat ((first | refine Nd.mk (fun w hw => hw.1.1) ?_ | refine VrN.norm (wrap_i64 (by omega)) ?_ | refine VrN.keep ?_ | refine DrawN.calm (by decide +kernel) ?_ | refine Nd.mk (by decide +kernel) ?_ | refine Nd.mk (by omega) ?_ | refine RdN.intro _ rfl (by rfl) ?_); (conv => whnf))))
  refine ReadC.idxA (e := 42) (sz := 5) i rfl Tryz.underlying22 rfl rfl rfl rfl hsa hil ?_
  -- fun w hw => hw.1.1: why the kind holds
  ((conv => whnf); (repeat ((first | refine Nd.mk (fun w hw => hw.1.1) ?_ | refine VrN.norm (wrap_i64 (by omega)) ?_ | refine VrN.keep ?_ | refine DrawN.calm (by decide +kernel) ?_ | refine Nd.mk (by decide +kernel) ?_ | refine Nd.mk (by omega) ?_ | refine RdN.intro _ rfl (by rfl) ?_); (conv => whnf))))
  refine ReadC.agg (cellC p) rfl rfl rfl (fun w hw => hw) rfl (fun k hk => grC_get l i k hk hp) ?_
  -- fun w hw => hw.1.1: why the kind holds
  ((conv => whnf); (repeat ((first | refine Nd.mk (fun w hw => hw.1.1) ?_ | refine VrN.norm (wrap_i64 (by omega)) ?_ | refine VrN.keep ?_ | refine DrawN.calm (by decide +kernel) ?_ | refine Nd.mk (by decide +kernel) ?_ | refine Nd.mk (by omega) ?_ | refine RdN.intro _ rfl (by rfl) ?_); (conv => whnf))))
  refine ReadC.idxA (e := 42) (sz := 5) j rfl Tryz.underlying22 rfl rfl rfl rfl hsa hjl ?_
  -- fun w hw => hw.1.1: why the kind holds
  ((conv => whnf); (repeat ((first | refine Nd.mk (fun w hw => hw.1.1) ?_ | refine VrN.norm (wrap_i64 (by omega)) ?_ | refine VrN.keep ?_ | refine DrawN.calm (by decide +kernel) ?_ | refine Nd.mk (by decide +kernel) ?_ | refine Nd.mk (by omega) ?_ | refine RdN.intro _ rfl (by rfl) ?_); (conv => whnf))))
  refine ReadC.agg (cellC q) rfl rfl rfl (fun w hw => hw) rfl (fun k hk => grC_get l j k hk hq) ?_
  -- fun w hw => hw.1.1: why the kind holds
  ((conv => whnf); (repeat ((first | refine Nd.mk (fun w hw => hw.1.1) ?_ | refine VrN.norm (wrap_i64 (by omega)) ?_ | refine VrN.keep ?_ | refine DrawN.calm (by decide +kernel) ?_ | refine Nd.mk (by decide +kernel) ?_ | refine Nd.mk (by omega) ?_ | refine RdN.intro _ rfl (by rfl) ?_); (conv => whnf))))
  refine brd_eq (fun hab => ?_) (fun hab => ?_)
  · (first | refine wX ?_ | exact wZ)
    exact out_bool (by simp [hab])
  · (first | refine wX ?_ | exact wZ)
    refine call1 (isLeaf_c p.c.kind _) ?_
    rw [show decide (p.c.kind ≤ 5) = isLeaf p.c from rfl]
    -- what is compared, once both cells are in slots; x: the call of leaf
    cases hl : isLeaf p.c with
    | false =>
      (first | refine wX ?_ | exact wZ)
      exact out_bool (by unfold oneKeyB; rw [hl]; simp [hab])
    | true =>
      (first | refine wX ?_ | exact wZ)
      refine brd_eq (fun h1 => ?_) (fun h1 => ?_)
      · (first | refine wX ?_ | exact wZ)
        refine brd_eq (fun h2 => ?_) (fun h2 => ?_)
        · (first | refine wX ?_ | exact wZ)
          exact out_bool (by unfold oneKeyB; rw [hl, txt_eq]; simp [hab, h1, h2])
        · (first | refine wX ?_ | exact wZ)
          exact out_bool (by unfold oneKeyB; rw [hl]; simp [hab, h1, h2])
      · (first | refine wX ?_ | exact wZ)
        exact out_bool (by unfold oneKeyB; rw [hl]; simp [hab, h1])
theorem okey_c (a : Option Addr) (c : Nat) (l : List CellP) (i j : Nat) (p q : CellP) (hp : l[i]? = some p) (hq : l[j]? = some q) (ha : a = none → l = []) (hl : l.length ≤ 200000000000000) : ∀ H, (∀ w, Facts H w → GrF a l w) → SpecH Tryz.prog 44 (pvs [.slice a l.length c, .int .i64 (i : Int), .int .i64 (j : Int)]) H (Ret (.bool (decide ((i : Int) = j) || oneKeyB p.c q.c)) H) := by
  refine factC hm Tryz.func44 (by kernel_rfl) rfl rfl ?_
  have hil := (List.getElem?_eq_some_iff.1 hp).1
  have hjl := (List.getElem?_eq_some_iff.1 hq).1
  have hsa : a.isSome = true := by
    cases a with
    | none => rw [ha rfl] at hp; cases hp
    | some b => rfl
  (first | refine wX ?_ | exact wZ)
  refine Nd.mk ⟨hsa, by omega, by omega⟩ ?_
  (first | refine wX ?_ | exact wZ)
  refine LdN.agg (cellC p) rfl (fun w hw => hw.1.1) rfl (fun k hk => by rw [Int.toNat_natCast]; exact grC_get l i k hk hp) ?_
  (first | refine wX ?_ | exact wZ)
  refine Nd.mk ⟨hsa, by omega, by omega⟩ ?_
  (first | refine wX ?_ | exact wZ)
  refine LdN.agg (cellC q) rfl (fun w hw => hw.1.1) rfl (fun k hk => by rw [Int.toNat_natCast]; exact grC_get l j k hk hq) ?_
  (first | refine wX ?_ | exact wZ)
  refine brd_eq (fun hab => ?_) (fun hab => ?_)
  · (first | refine wX ?_ | exact wZ)
    exact out_bool (by simp [hab])
  · (first | refine wX ?_ | exact wZ)
    refine call1 (leaf_c p _) ?_
    -- what is compared, once both cells are in slots; x: the call of leaf
    cases hl : isLeaf p.c with
    | false =>
      (first | refine wX ?_ | exact wZ)
      exact out_bool (by unfold oneKeyB; rw [hl]; simp [hab])
    | true =>
      (first | refine wX ?_ | exact wZ)
      refine brd_eq (fun h1 => ?_) (fun h1 => ?_)
      · (first | refine wX ?_ | exact wZ)
        refine brd_eq (fun h2 => ?_) (fun h2 => ?_)
        · (first | refine wX ?_ | exact wZ)
          exact out_bool (by unfold oneKeyB; rw [hl, txt_eq]; simp [hab, h1, h2])
        · (first | refine wX ?_ | exact wZ)
          exact out_bool (by unfold oneKeyB; rw [hl]; simp [hab, h1, h2])
      · (first | refine wX ?_ | exact wZ)
        exact out_bool (by unfold oneKeyB; rw [hl]; simp [hab, h1])
end Go.Proofs.YtahjbnfbilkbcaaGreatDoor

/-
  Contracts: cells that do not differ themselves (document).
-/
namespace Go.Proofs.YtahjbnfbilkbcaaGreatDoor
open Go.AX Go.RowKit Go.Core
set_option maxRecDepth 20000

theorem alike_no {x y : Cell} (h : ¬ (x.kind = y.kind ∧ x.num = y.num ∧ x.text = y.text ∧ x.names = y.names ∧ x.items.length = y.items.length)) : alikeB x y = false := by
  cases hb : alikeB x y with
  | false => rfl
  | true => exact absurd (alike_to hb) h
theorem names_at {l m : List (List UInt8)} {i : Nat} (h : l.take i = m.take i) {s t : List UInt8} (hs : l[i]? = some s) (ht : m[i]? = some t) (e : s = t) : l.take (i + 1) = m.take (i + 1) := by
  rw [List.take_add_one, List.take_add_one, h, hs, ht, e]
set_option maxHeartbeats 1000000 in
theorem alike_c (p q : CellP) (hp : CellOk p) (hq : CellOk q) : ∀ H, (∀ w, Facts H w → CellF p w ∧ CellF q w) → SpecH Tryz.prog 49 (pvs [cellV p, cellV q]) H (Ret (.bool (alikeB p.c q.c)) H) := by
  refine factC hm Tryz.func49 (by kernel_rfl) rfl rfl ?_
  have hnl := hp.nl
  have hnl2 := hq.nl
  (first | refine wX ?_ | exact wZ)
  refine brd_ne (fun h1 => ?_) (fun h1 => ?_)
  · (first | refine wX ?_ | exact wZ)
    exact out_bool (alike_no (fun h => h1 h.1)).symm
  (first | refine wX ?_ | exact wZ)
  refine brd_ne (fun h2 => ?_) (fun h2 => ?_)
  · (first | refine wX ?_ | exact wZ)
    exact out_bool (alike_no (fun h => h2 h.2.1)).symm
  (first | refine wX ?_ | exact wZ)
  rw [bne, txt_eq]
  cases h3 : p.c.text == q.c.text with
  | false =>
    (first | refine wX ?_ | exact wZ)
    exact out_bool (alike_no (fun h => by rw [h.2.2.1] at h3; simp at h3)).symm
  | true =>
    have h3' : p.c.text = q.c.text := eq_of_beq h3
    (first | refine wX ?_ | exact wZ)
    refine brd_ne (fun h4 => ?_) (fun h4 => ?_)
    · (first | refine wX ?_ | exact wZ)
      exact out_bool (alike_no (fun h => h4 (by rw [h.2.2.2.2]))).symm
    (first | refine wX ?_ | exact wZ)
    refine brd_ne (fun h5 => ?_) (fun h5 => ?_)
    · (first | refine wX ?_ | exact wZ)
      exact out_bool (alike_no (fun h => h5 (by rw [h.2.2.2.1]))).symm
    have hlen : p.c.names.length = q.c.names.length := by omega
    (first | refine wX ?_ | exact wZ)
    refine loopS Nat (fun i => i ≤ p.c.names.length ∧ p.c.names.take i = q.c.names.take i) (fun i => mkS Tryz.f49.ntmps 0 [(2, .c (.lp 1 0)), (3, .c (.lp 2 0)), (5, .c (.v (.int .i64 (i : Int))))]) (fun i => p.c.names.length - i) rfl (fun _ => rfl) 0 ⟨Nat.zero_le _, rfl⟩ ?_ ?_
    · (repeat' (first | exact trivial | refine And.intro (by with_reducible rfl) ?_ | (with_reducible exact wkC_refl _) | (with_reducible exact wkCs_refl _) | refine And.intro ?_ ?_))
      all_goals rfl
    intro i ⟨hi, he⟩
    (first | refine wX ?_ | exact wZ)
    refine brd_dec (fun h6 => ?_) (fun h6 => ?_)
    · obtain ⟨s, hs⟩ : ∃ s, p.c.names[i]? = some s := ⟨_, List.getElem?_eq_getElem (by omega)⟩
      obtain ⟨t, ht⟩ : ∃ t, q.c.names[i]? = some t := ⟨_, List.getElem?_eq_getElem (by omega)⟩
      have hsa : p.na.isSome = true := by
        cases hna : p.na with
        | none => rw [hp.na hna] at hs; cases hs
        | some b => rfl
      have hsb : q.na.isSome = true := by
        cases hna : q.na with
        | none => rw [hq.na hna] at ht; cases ht
        | some b => rfl
      (first | refine wX ?_ | exact wZ)
      refine Nd.mk ⟨hsa, by omega, by omega⟩ ?_
      (first | refine wX ?_ | exact wZ)
      refine LdN.one (.string (bs s)) rfl (fun w hw => hw.1.1.1) (by rw [Int.toNat_natCast]; show (strC p.c.names)[i * 1]? = _; rw [Nat.mul_one]; exact strC_get hs) ?_
      (first | refine wX ?_ | exact wZ)
      refine Nd.mk ⟨hsb, by omega, by omega⟩ ?_
      (first | refine wX ?_ | exact wZ)
      refine LdN.one (.string (bs t)) rfl (fun w hw => hw.1.2.1) (by rw [Int.toNat_natCast]; show (strC q.c.names)[i * 1]? = _; rw [Nat.mul_one]; exact strC_get ht) ?_
      (first | refine wX ?_ | exact wZ)
      first | rw [bne, txt_eq] | rw [txt_eq] | (trace_state; rw [bne])
      cases hst : s == t with
      | false =>
        (first | refine wX ?_ | exact wZ)
        exact out_bool (alike_no (fun h => by
          rw [h.2.2.2.1, ht] at hs
          rw [Option.some.inj hs] at hst
          simp at hst)).symm
      | true =>
        (first | refine wX ?_ | exact wZ)
        refine ⟨i + 1, ⟨by omega, names_at he hs ht (eq_of_beq hst)⟩, by omega, ?_, by (repeat' (first | exact trivial | exact wkE_refl _ | refine And.intro ?_ ?_))⟩
        (repeat' (first | exact trivial | refine And.intro (by with_reducible rfl) ?_ | (with_reducible exact wkC_refl _) | (with_reducible exact wkCs_refl _) | refine And.intro ?_ ?_))
        all_goals first | rfl | exact av_int (by rw [wrap_i64 (by omega)]; omega)
    · have hin : i = p.c.names.length := by omega
      subst hin
      rw [List.take_length, hlen, List.take_length] at he
      (first | refine wX ?_ | exact wZ)
      exact out_bool (alike_of h1 h2 h3' he (by omega)).symm
end Go.Proofs.YtahjbnfbilkbcaaGreatDoor

/-
  Contracts: graphs with the same cells are found to be so (document).
-/
namespace Go.Proofs.YtahjbnfbilkbcaaGreatDoor
open Go.AX Go.RowKit Go.Core
set_option maxRecDepth 20000

set_option maxHeartbeats 1000000 in
theorem Alike_c (a b : Option Addr) (ca cb : Nat) (l m : List CellP) (ha : a = none → l = []) (hb : b = none → m = []) (hl : l.length ≤ 200000000000000) (hol : ∀ p ∈ l, CellOk p) (hom : ∀ p ∈ m, CellOk p) (heq : l.map (·.c) = m.map (·.c)) :
    ∀ H, (∀ w, Facts H w → GrF a l w ∧ GrF b m w) → SpecH Tryz.prog 19 (pvs [.slice a l.length ca, .slice b m.length cb]) H (Ret (.bool true) H) := by
  refine factC hm Tryz.func19 (by kernel_rfl) rfl rfl ?_
  have hlen : l.length = m.length := by have := congrArg List.length heq; simpa using this
  (first | refine wX ?_ | exact wZ)
  refine brd_ne (fun h0 => absurd (by omega) h0) (fun _ => ?_)
  (first | refine wX ?_ | exact wZ)
  refine loopS Nat (fun i => i ≤ l.length) (fun i => mkS Tryz.f19.ntmps 0 [(0, .c (.v (.slice a l.length ca))), (1, .c (.v (.slice b m.length cb))), (5, .c (.v (.int .i64 (i : Int))))]) (fun i => l.length - i) rfl (fun _ => rfl) 0 (Nat.zero_le _) ?_ ?_
  · (repeat' (first | exact trivial | refine And.intro (by with_reducible rfl) ?_ | (with_reducible exact wkC_refl _) | (with_reducible exact wkCs_refl _) | refine And.intro ?_ ?_))
    all_goals rfl
  intro i hi
  (first | refine wX ?_ | exact wZ)
  refine brd_dec (fun h1 => ?_) (fun h1 => ?_)
  · obtain ⟨p, hp⟩ : ∃ p, l[i]? = some p := ⟨_, List.getElem?_eq_getElem (by omega)⟩
    obtain ⟨q, hq⟩ : ∃ q, m[i]? = some q := ⟨_, List.getElem?_eq_getElem (by omega)⟩
    have hpq : p.c = q.c := by
      have := congrArg (fun x => x[i]?) heq
      simp only [List.getElem?_map, hp, hq, Option.map_some, Option.some.injEq] at this
      exact this
    have hpo := hol p (List.mem_of_getElem? hp)
    have hqo := hom q (List.mem_of_getElem? hq)
    have hpm := List.mem_of_getElem? hp
    have hqm := List.mem_of_getElem? hq
    have hil := hpo.il
    have hsa : a.isSome = true := by
      cases a with
      | none => rw [ha rfl] at hp; cases hp
      | some b => rfl
    have hsb : b.isSome = true := by
      cases b with
      | none => rw [hb rfl] at hq; cases hq
      | some b => rfl
    (first | refine wX ?_ | exact wZ)
    refine Nd.mk ⟨hsa, by omega, by omega⟩ ?_
    (first | refine wX ?_ | exact wZ)
    refine LdN.agg (cellC p) rfl (fun w hw => hw.1.1.1) rfl (fun k hk => by rw [Int.toNat_natCast]; exact grC_get l i k hk hp) ?_
    (first | refine wX ?_ | exact wZ)
    refine Nd.mk ⟨hsb, by omega, by omega⟩ ?_
    (first | refine wX ?_ | exact wZ)
    refine LdN.agg (cellC q) rfl (fun w hw => hw.1.2.1) rfl (fun k hk => by rw [Int.toNat_natCast]; exact grC_get m i k hk hq) ?_
    (first | refine wX ?_ | exact wZ)
    have hal := alike_c p q hpo hqo
    rw [show alikeB p.c q.c = true by rw [hpq]; exact alike_refl _] at hal
    refine callQ (hal _ ?_) ?_
    · intro w hw
      exact ⟨hw.1.1.2 p hpm, hw.1.2.2 q hqm⟩
    (first | refine wX ?_ | exact wZ)
    refine loopS Nat (fun k => k ≤ p.c.items.length) (fun k => mkS Tryz.f19.ntmps 0 [(0, .c (.v (.slice a l.length ca))), (1, .c (.v (.slice b m.length cb))), (5, .c (.v (.int .i64 (i : Int)))), (6, .c (.v (.int .i64 (k : Int))))]) (fun k => p.c.items.length - k) rfl (fun _ => rfl) 0 (Nat.zero_le _) ?_ ?_
    · (repeat' (first | exact trivial | refine And.intro (by with_reducible rfl) ?_ | (with_reducible exact wkC_refl _) | (with_reducible exact wkCs_refl _) | refine And.intro ?_ ?_))
      all_goals rfl
    intro k hk
    (first | refine wX ?_ | exact wZ)
    -- the item's place and value, in both graphs; x: the rest
    refine Nd.mk ⟨hsa, by omega, by omega⟩ ?_
    (first | refine wX ?_ | exact wZ)
    refine LdN.fld (.slice p.ia p.c.items.length p.ic) rfl (fun w hw => hw.1.1.1) (by rw [Int.toNat_natCast]; exact grC_get l i 4 (by decide) hp) ?_
    (first | refine wX ?_ | exact wZ)
    refine brd_dec (fun h2 => ?_) (fun h2 => ?_)
    · obtain ⟨x, hx⟩ : ∃ x, p.c.items[k]? = some x := ⟨_, List.getElem?_eq_getElem (by omega)⟩
      have hx2 : q.c.items[k]? = some x := by rw [← hpq]; exact hx
      have hkq := (List.getElem?_eq_some_iff.1 hx2).1
      have hsi : p.ia.isSome = true := by
        cases hna : p.ia with
        | none => rw [hpo.ia hna] at hx; cases hx
        | some b => rfl
      have hsj : q.ia.isSome = true := by
        cases hna : q.ia with
        | none => rw [hqo.ia hna] at hx2; cases hx2
        | some b => rfl
      (first | refine wX ?_ | exact wZ)
      -- the item's place and value, in both graphs; x: the rest
      refine Nd.mk ⟨hsa, by omega, by omega⟩ ?_
      (first | refine wX ?_ | exact wZ)
      refine LdN.fld (.slice p.ia p.c.items.length p.ic) rfl (fun w hw => hw.1.1.1) (by rw [Int.toNat_natCast]; exact grC_get l i 4 (by decide) hp) ?_
      (first | refine wX ?_ | exact wZ)
      refine Nd.mk ⟨hsi, by omega, by omega⟩ ?_
      (first | refine wX ?_ | exact wZ)
      refine LdN.one (.int .i64 x) rfl (fun w hw => (hw.1.1.2 p hpm).2) (by rw [Int.toNat_natCast]; show (iC p.c.items)[k * 1]? = _; rw [Nat.mul_one]; exact iC_get hx) ?_
      (first | refine wX ?_ | exact wZ)
      refine Nd.mk ⟨hsb, by omega, by omega⟩ ?_
      (first | refine wX ?_ | exact wZ)
      refine LdN.fld (.slice q.ia q.c.items.length q.ic) rfl (fun w hw => hw.1.2.1) (by rw [Int.toNat_natCast]; exact grC_get m i 4 (by decide) hq) ?_
      (first | refine wX ?_ | exact wZ)
      refine Nd.mk ⟨hsj, by omega, by omega⟩ ?_
      (first | refine wX ?_ | exact wZ)
      refine LdN.one (.int .i64 x) rfl (fun w hw => (hw.1.2.2 q hqm).2) (by rw [Int.toNat_natCast]; show (iC q.c.items)[k * 1]? = _; rw [Nat.mul_one]; exact iC_get hx2) ?_
      (first | refine wX ?_ | exact wZ)
      refine brd_ne (fun h => absurd rfl h) (fun _ => ?_)
      (first | refine wX ?_ | exact wZ)
      refine ⟨k + 1, by omega, by omega, ?_, by (repeat' (first | exact trivial | exact wkE_refl _ | refine And.intro ?_ ?_))⟩
      (repeat' (first | exact trivial | refine And.intro (by with_reducible rfl) ?_ | (with_reducible exact wkC_refl _) | (with_reducible exact wkCs_refl _) | refine And.intro ?_ ?_))
      all_goals first | rfl | exact av_int (by rw [wrap_i64 (by omega)]; omega)
    · (first | refine wX ?_ | exact wZ)
      refine ⟨i + 1, by omega, by omega, ?_, by (repeat' (first | exact trivial | exact wkE_refl _ | refine And.intro ?_ ?_))⟩
      (repeat' (first | exact trivial | refine And.intro (by with_reducible rfl) ?_ | (with_reducible exact wkC_refl _) | (with_reducible exact wkCs_refl _) | refine And.intro ?_ ?_))
      all_goals first | rfl | exact av_int (by rw [wrap_i64 (by omega)]; omega)
  · (first | refine wX ?_ | exact wZ)
end Go.Proofs.YtahjbnfbilkbcaaGreatDoor

/-
  Contracts: names of constants and variables (program; as in chapter 14's N3, as far as chapter 21 asks).
-/
namespace Go.Proofs.YtahjbnfbilkbcaaGreatDoor
open Go.AX Go.RowKit Go.Scan
set_option maxRecDepth 20000

theorem isWords_c (s : List UInt8) (hs : s.length ≤ 200000000000000) : ∀ H, SpecH Tryz.prog 110 (pvs [.string (bs s)]) H (Ret (.bool (iwB s)) H) := by
  refine pureC hm Tryz.func110 (by kernel_rfl) rfl rfl ?_
  have hz := bs_size s
  (first | refine wX ?_ | exact wZ)
  rw [hz]
  refine loopS Nat (fun i => i ≤ s.length ∧ (s.take i).all wrd = true) (fun i => mkS Tryz.f110.ntmps 0 [(0, .c (.v (.string (bs s)))), (5, .c (.v (.int .i64 (s.length : Int)))), (6, .c (.v (.int .i64 (i : Int))))]) (fun i => s.length - i) rfl (fun _ => rfl) 0 ⟨Nat.zero_le _, rfl⟩ ?_ ?_
  · (repeat' (first | exact trivial | refine And.intro (by with_reducible rfl) ?_ | (with_reducible exact wkC_refl _) | (with_reducible exact wkCs_refl _) | refine And.intro ?_ ?_))
    all_goals rfl
  intro i ⟨hi, hall⟩
  (first | refine wX ?_ | exact wZ)
  refine brd_dec (fun h1 => ?_) (fun h1 => ?_)
  · obtain ⟨c, hc⟩ : ∃ c, s[i]? = some c := ⟨_, List.getElem?_eq_getElem (by omega)⟩
    (first | refine wX ?_ | exact wZ)
    try refine Nd.mk ⟨by omega, by rw [hz]; exact h1⟩ ?_
    (first | refine wX ?_ | exact wZ)
    rw [Int.toNat_natCast, byteAt_get hc]
    refine call1 (wrd_c c _) ?_
    cases hw : wrd c with
    | true =>
      (first | refine wX ?_ | exact wZ)
      refine ⟨i + 1, ⟨by omega, ?_⟩, by omega, ?_, by (repeat' (first | exact trivial | exact wkE_refl _ | refine And.intro ?_ ?_))⟩
      · rw [List.take_add_one, hc, List.all_append, hall]
        simp [hw]
      · (repeat' (first | exact trivial | refine And.intro (by with_reducible rfl) ?_ | (with_reducible exact wkC_refl _) | (with_reducible exact wkCs_refl _) | refine And.intro ?_ ?_))
        all_goals first | rfl | exact av_int (by rw [wrap_i64 (by omega)]; omega)
    | false =>
      (first | refine wX ?_ | exact wZ)
      refine ret_b ?_
      have : s.all wrd = false := by
        rw [Bool.eq_false_iff]
        intro h
        have := List.all_eq_true.1 h c (List.mem_of_getElem? hc)
        rw [hw] at this
        cases this
      simp [iwB, this]
  · have hie : i = s.length := by omega
    subst hie
    rw [List.take_length] at hall
    cases s with
    | nil =>
      (first | refine wX ?_ | exact wZ)
      exact ret_b (by simp [iwB])
    | cons c r =>
      have hz2 : (bs (c :: r)).size = (c :: r).length := hz
      (first | refine wX ?_ | exact wZ)
      rw [hz2]
      refine brd_dec (fun h2 => ?_) (fun h2 => ?_)
      · have hl2 : (c :: r).length ≤ 40 := by omega
        (first | refine wX ?_ | exact wZ)
        try refine Nd.mk ⟨by omega, by rw [hz2, List.length_cons]; omega⟩ ?_
        (first | refine wX ?_ | exact wZ)
        rw [show byteAt (bs (c :: r)) (Int.toNat 0) = (c.toNat : Int) from byteAt_get (l := c :: r) (i := 0) rfl]
        refine call1 (dig_c c _) ?_
        (first | refine wX ?_ | exact wZ)
        refine ret_b ?_
        simp only [iwB, hall, hd, List.headD_cons, List.isEmpty_cons, decide_eq_true hl2]
        simp
      · have hl2 : ¬ (c :: r).length ≤ 40 := by omega
        (first | refine wX ?_ | exact wZ)
        refine ret_b ?_
        simp only [iwB, decide_eq_false hl2]
        simp
theorem iw_cons {b : List UInt8} (h : iwB b = true) : ∃ y q, b = y :: q := by
  cases b with
  | nil => simp [iwB] at h
  | cons y q => exact ⟨y, q, rfl⟩
theorem IsConst_c (s : List UInt8) (hs : s.length ≤ 200000000000000) : ∀ H, SpecH Tryz.prog 84 (pvs [.string (bs s)]) H (Ret (.bool (icB s)) H) := by
  refine pureC hm Tryz.func84 (by kernel_rfl) rfl rfl ?_
  (first | refine wX ?_ | exact wZ)
  refine call1 (isWords_c s hs _) ?_
  cases hi : iwB s with
  | false =>
    (first | refine wX ?_ | exact wZ)
    exact ret_b (by simp [icB, hi])
  | true =>
    obtain ⟨y, q, rfl⟩ := iw_cons hi
    have hyl : (bs (y :: q)).size = q.length + 1 := by rw [bs_size]; rfl
    (first | refine wX ?_ | exact wZ)
    try refine Nd.mk ⟨by omega, by rw [hyl]; omega⟩ ?_
    (first | refine wX ?_ | exact wZ)
    rw [show byteAt (bs (y :: q)) (Int.toNat 0) = (y.toNat : Int) from byteAt_get (l := y :: q) (i := 0) rfl]
    refine call1 (sml_c y _) ?_
    (first | refine wX ?_ | exact wZ)
    exact ret_b (by simp [icB, hi, hd])
theorem IsIvar_c (s : List UInt8) (hs : s.length ≤ 200000000000000) : ∀ H, SpecH Tryz.prog 91 (pvs [.string (bs s)]) H (Ret (.bool (iiB s)) H) := by
  refine pureC hm Tryz.func91 (by kernel_rfl) rfl rfl ?_
  have hz := bs_size s
  (first | refine wX ?_ | exact wZ)
  rw [hz]
  refine brd_dec (fun h1 => ?_) (fun h1 => ?_)
  · match s, hs, hz, h1 with
    | [], _, _, h1 => exact absurd h1 (by decide)
    | [_], _, _, h1 => exact absurd h1 (by simp)
    | c :: d :: r, hs, hz, h1 =>
      have h64 : ((c.toNat : Int) == 64) = (c == 64) := u8_eq (n := 64) (by decide)
      have hl : (c :: d :: r).length = r.length + 2 := rfl
      (first | refine wX ?_ | exact wZ)
      try refine Nd.mk ⟨by omega, by rw [hz]; omega⟩ ?_
      (first | refine wX ?_ | exact wZ)
      rw [show byteAt (bs (c :: d :: r)) (Int.toNat 0) = (c.toNat : Int) from byteAt_get (l := c :: d :: r) (i := 0) rfl, h64]
      cases e64 : c == 64 with
      | false =>
        (first | refine wX ?_ | exact wZ)
        exact ret_b (by simp only [iiB, hd, List.headD_cons, e64]; simp)
      | true =>
        (first | refine wX ?_ | exact wZ)
        refine ReadW.sl_l 1 rfl Tryz.underlying9 rfl rfl ⟨rfl, by omega⟩ ?_
        (first | refine wX ?_ | exact wZ)
        refine call1 (isWords_c (d :: r) (by simp at hs ⊢; omega) _) ?_
        cases hi : iwB (d :: r) with
        | false =>
          (first | refine wX ?_ | exact wZ)
          exact ret_b (by simp only [iiB, List.tail_cons, hi]; simp)
        | true =>
          (first | refine wX ?_ | exact wZ)
          try refine Nd.mk ⟨by omega, by rw [hz]; omega⟩ ?_
          (first | refine wX ?_ | exact wZ)
          rw [show byteAt (bs (c :: d :: r)) (Int.toNat 1) = (d.toNat : Int) from byteAt_get (l := c :: d :: r) (i := 1) rfl]
          refine call1 (sml_c d _) ?_
          cases hs2 : sml d with
          | false =>
            (first | refine wX ?_ | exact wZ)
            exact ret_b (by simp only [iiB, List.tail_cons, hd, List.headD_cons, hs2]; simp)
          | true =>
            (first | refine wX ?_ | exact wZ)
            rw [hz]
            refine ret_b ?_
            have hdec : decide (1 < (c :: d :: r).length) = true := by simp
            simp only [iiB, hdec, List.tail_cons, hd, List.headD_cons, hs2, e64, hi]
            simp
            omega
  · have hdec : decide (1 < s.length) = false := decide_eq_false (by omega)
    (first | refine wX ?_ | exact wZ)
    exact ret_b (by simp only [iiB, hdec]; simp)
end Go.Proofs.YtahjbnfbilkbcaaGreatDoor

/-
  Contracts: words of the document (constants, variables).
-/
namespace Go.Proofs.YtahjbnfbilkbcaaGreatDoor
open Go.AX Go.RowKit Go.Core Go.Scan
set_option maxRecDepth 20000

theorem letter_c (c : UInt8) : ∀ H, SpecH Tryz.prog 124 (pvs [.int .u8 (c.toNat : Int)]) H (Ret (.bool (ltr c)) H) := by
  refine pureC hm Tryz.func124 (by kernel_rfl) rfl rfl ?_
  (first | refine wX ?_ | exact wZ)
  (repeat' (first | (refine brd_dec (fun _ => ?_) (fun _ => ?_)) | (refine brd_eq (fun _ => ?_) (fun _ => ?_))))
  all_goals (first | refine wX ?_ | exact wZ)
  (repeat' (first | (refine brd_dec (fun _ => ?_) (fun _ => ?_)) | (refine brd_eq (fun _ => ?_) (fun _ => ?_))))
  all_goals (first | refine wX ?_ | exact wZ)
  (repeat' (first | (refine brd_dec (fun _ => ?_) (fun _ => ?_)) | (refine brd_eq (fun _ => ?_) (fun _ => ?_))))
  all_goals (first | refine wX ?_ | exact wZ)
  (repeat' (first | (refine brd_dec (fun _ => ?_) (fun _ => ?_)) | (refine brd_eq (fun _ => ?_) (fun _ => ?_))))
  all_goals (first | refine wX ?_ | exact wZ)
  (repeat' (first | (refine brd_dec (fun _ => ?_) (fun _ => ?_)) | (refine brd_eq (fun _ => ?_) (fun _ => ?_))))
  all_goals (first | refine wX ?_ | exact wZ)
  all_goals
    refine ret_b ?_
    simp [ltr, sml, grt]
    try omega
set_option maxHeartbeats 1000000 in
theorem dword_c (s : List UInt8) (great : Bool) (hs : s.length ≤ 200000000000000) : ∀ H, SpecH Tryz.prog 109 (pvs [.string (bs s), .bool great]) H (Ret (.bool (wordD s great)) H) := by
  refine pureC hm Tryz.func109 (by kernel_rfl) rfl rfl ?_
  cases s with
  | nil =>
    (first | refine wX ?_ | exact wZ)
    exact ret_b (by simp [wordD])
  | cons c r =>
    have hz : (bs (c :: r)).size = r.length + 1 := bs_size (c :: r)
    have h0 : byteAt (bs (c :: r)) (Int.toNat 0) = (c.toNat : Int) := byteAt_get (l := c :: r) (i := 0) rfl
    (first | refine wX ?_ | exact wZ)
    rw [hz]
    refine brd_dec (fun h1 => ?_) (fun h1 => ?_)
    · (first | refine wX ?_ | exact wZ)
      exact ret_b (by unfold wordD; rw [show decide ((c :: r).length ≤ 40) = false from decide_eq_false (by simp only [List.length_cons]; omega)]; simp)
    have hl : decide ((c :: r).length ≤ 40) = true := decide_eq_true (by simp only [List.length_cons]; omega)
    (first | refine wX ?_ | exact wZ)
    try refine Nd.mk ⟨by omega, by rw [hz]; omega⟩ ?_
    (first | refine wX ?_ | exact wZ)
    rw [h0]
    refine call1 (letter_c c _) ?_
    cases hlt : ltr c with
    | false =>
      (first | refine wX ?_ | exact wZ)
      exact ret_b (by unfold wordD; rw [hl]; simp [hd, hlt])
    | true =>
      (first | refine wX ?_ | exact wZ)
      have hgr : ∀ b : Bool, b = grt c → (b != great) = !(grt c == great) := fun b hb => by rw [hb]; rfl
      refine brd_dec (fun h2 => ?_) (fun h2 => ?_)
      · (first | refine wX ?_ | exact wZ)
        try refine Nd.mk ⟨by omega, by rw [hz]; omega⟩ ?_
        (first | refine wX ?_ | exact wZ)
        rw [h0, show (decide ((c.toNat : Int) ≤ 90) == great) = (grt c == great) by rw [show grt c = decide ((c.toNat : Int) ≤ 90) by unfold grt; rw [decide_eq_true (show 65 ≤ c.toNat by omega), Bool.true_and]; exact decide_eq_decide.2 (by omega)]]
        cases hgg : grt c == great with
        | false =>
          (first | refine wX ?_ | exact wZ)
          exact ret_b (by unfold wordD; rw [hl]; simp [hd, hlt, hgg])
        | true =>
          (first | refine wX ?_ | exact wZ)
          refine loopS Nat (fun i => i ≤ r.length ∧ (r.take i).all wrd = true) (fun i => mkS Tryz.f109.ntmps 0 [(0, .c (.v (.string (bs (c :: r))))), (5, .c (.v (.int .i64 ((i + 1 : Nat) : Int))))]) (fun i => r.length - i) rfl (fun _ => rfl) 0 ⟨Nat.zero_le _, rfl⟩ ?_ ?_
          · (repeat' (first | exact trivial | refine And.intro (by with_reducible rfl) ?_ | (with_reducible exact wkC_refl _) | (with_reducible exact wkCs_refl _) | refine And.intro ?_ ?_))
            all_goals rfl
          intro i ⟨hi, hall⟩
          (first | refine wX ?_ | exact wZ)
          rw [hz]
          refine brd_dec (fun h3 => ?_) (fun h3 => ?_)
          · obtain ⟨d, hd1⟩ : ∃ d, r[i]? = some d := ⟨_, List.getElem?_eq_getElem (by omega)⟩
            have h5 : byteAt (bs (c :: r)) (i + 1) = (d.toNat : Int) := byteAt_get (l := c :: r) (i := i + 1) (by simpa using hd1)
            have hwd : wrd d = (ltr d || dig d) := rfl
            (first | refine wX ?_ | exact wZ)
            try refine Nd.mk ⟨by omega, by rw [hz]; omega⟩ ?_
            (first | refine wX ?_ | exact wZ)
            rw [Int.toNat_natCast, h5]
            refine call1 (letter_c d _) ?_
            have hbad : wrd d = false → wordD (c :: r) great = false := fun h => by
              have hra : r.all wrd = false := by
                rw [Bool.eq_false_iff]
                intro h6
                have := List.all_eq_true.1 h6 d (List.mem_of_getElem? hd1)
                rw [h] at this
                cases this
              have hra2 : (r.all fun c => ltr c || dig c) = false := hra
              unfold wordD
              rw [List.tail_cons, hra2, Bool.and_false]
            cases hld : ltr d with
            | true =>
              (first | refine wX ?_ | exact wZ)
              refine ⟨i + 1, ⟨by omega, ?_⟩, by omega, ?_, by (repeat' (first | exact trivial | exact wkE_refl _ | refine And.intro ?_ ?_))⟩
              · rw [List.take_add_one, hd1, List.all_append, hall]
                simp [hwd, hld]
              · (repeat' (first | exact trivial | refine And.intro (by with_reducible rfl) ?_ | (with_reducible exact wkC_refl _) | (with_reducible exact wkCs_refl _) | refine And.intro ?_ ?_))
                all_goals first | rfl | exact av_int (by rw [wrap_i64 (by omega)]; omega)
            | false =>
              (first | refine wX ?_ | exact wZ)
              try refine Nd.mk ⟨by omega, by rw [hz]; omega⟩ ?_
              (first | refine wX ?_ | exact wZ)
              rw [Int.toNat_natCast, h5]
              refine brd_dec (fun h6 => ?_) (fun h6 => ?_)
              · (first | refine wX ?_ | exact wZ)
                exact ret_b (by rw [hbad (by rw [hwd, hld]; unfold dig; rw [decide_eq_false (show ¬ 48 ≤ d.toNat by omega)]; rfl)])
              · (first | refine wX ?_ | exact wZ)
                try refine Nd.mk ⟨by omega, by rw [hz]; omega⟩ ?_
                (first | refine wX ?_ | exact wZ)
                rw [Int.toNat_natCast, h5]
                refine brd_dec (fun h7 => ?_) (fun h7 => ?_)
                · (first | refine wX ?_ | exact wZ)
                  exact ret_b (by rw [hbad (by rw [hwd, hld]; unfold dig; rw [decide_eq_false (show ¬ d.toNat ≤ 57 by omega), Bool.and_false]; rfl)])
                · (first | refine wX ?_ | exact wZ)
                  refine ⟨i + 1, ⟨by omega, ?_⟩, by omega, ?_, by (repeat' (first | exact trivial | exact wkE_refl _ | refine And.intro ?_ ?_))⟩
                  · rw [List.take_add_one, hd1, List.all_append, hall]
                    simp [hwd, hld, dig]
                    omega
                  · (repeat' (first | exact trivial | refine And.intro (by with_reducible rfl) ?_ | (with_reducible exact wkC_refl _) | (with_reducible exact wkCs_refl _) | refine And.intro ?_ ?_))
                    all_goals first | rfl | exact av_int (by rw [wrap_i64 (by omega)]; omega)
          · have hin : i = r.length := by omega
            subst hin
            rw [List.take_length] at hall
            (first | refine wX ?_ | exact wZ)
            exact ret_b (by unfold wordD; rw [hl]; simp only [List.isEmpty_cons, Bool.not_false, Bool.true_and, hd, List.headD_cons, hlt, hgg, List.tail_cons]; exact ⟨fun _ => hall, fun _ => trivial⟩)
      · (first | refine wX ?_ | exact wZ)
        rw [show (false == great) = (grt c == great) by rw [show grt c = false by unfold grt; rw [decide_eq_false (show ¬ 65 ≤ c.toNat by omega), Bool.false_and]]]
        cases hgg : grt c == great with
        | false =>
          (first | refine wX ?_ | exact wZ)
          exact ret_b (by unfold wordD; rw [hl]; simp [hd, hlt, hgg])
        | true =>
          (first | refine wX ?_ | exact wZ)
          refine loopS Nat (fun i => i ≤ r.length ∧ (r.take i).all wrd = true) (fun i => mkS Tryz.f109.ntmps 0 [(0, .c (.v (.string (bs (c :: r))))), (5, .c (.v (.int .i64 ((i + 1 : Nat) : Int))))]) (fun i => r.length - i) rfl (fun _ => rfl) 0 ⟨Nat.zero_le _, rfl⟩ ?_ ?_
          · (repeat' (first | exact trivial | refine And.intro (by with_reducible rfl) ?_ | (with_reducible exact wkC_refl _) | (with_reducible exact wkCs_refl _) | refine And.intro ?_ ?_))
            all_goals rfl
          intro i ⟨hi, hall⟩
          (first | refine wX ?_ | exact wZ)
          rw [hz]
          refine brd_dec (fun h3 => ?_) (fun h3 => ?_)
          · obtain ⟨d, hd1⟩ : ∃ d, r[i]? = some d := ⟨_, List.getElem?_eq_getElem (by omega)⟩
            have h5 : byteAt (bs (c :: r)) (i + 1) = (d.toNat : Int) := byteAt_get (l := c :: r) (i := i + 1) (by simpa using hd1)
            have hwd : wrd d = (ltr d || dig d) := rfl
            (first | refine wX ?_ | exact wZ)
            try refine Nd.mk ⟨by omega, by rw [hz]; omega⟩ ?_
            (first | refine wX ?_ | exact wZ)
            rw [Int.toNat_natCast, h5]
            refine call1 (letter_c d _) ?_
            have hbad : wrd d = false → wordD (c :: r) great = false := fun h => by
              have hra : r.all wrd = false := by
                rw [Bool.eq_false_iff]
                intro h6
                have := List.all_eq_true.1 h6 d (List.mem_of_getElem? hd1)
                rw [h] at this
                cases this
              have hra2 : (r.all fun c => ltr c || dig c) = false := hra
              unfold wordD
              rw [List.tail_cons, hra2, Bool.and_false]
            cases hld : ltr d with
            | true =>
              (first | refine wX ?_ | exact wZ)
              refine ⟨i + 1, ⟨by omega, ?_⟩, by omega, ?_, by (repeat' (first | exact trivial | exact wkE_refl _ | refine And.intro ?_ ?_))⟩
              · rw [List.take_add_one, hd1, List.all_append, hall]
                simp [hwd, hld]
              · (repeat' (first | exact trivial | refine And.intro (by with_reducible rfl) ?_ | (with_reducible exact wkC_refl _) | (with_reducible exact wkCs_refl _) | refine And.intro ?_ ?_))
                all_goals first | rfl | exact av_int (by rw [wrap_i64 (by omega)]; omega)
            | false =>
              (first | refine wX ?_ | exact wZ)
              try refine Nd.mk ⟨by omega, by rw [hz]; omega⟩ ?_
              (first | refine wX ?_ | exact wZ)
              rw [Int.toNat_natCast, h5]
              refine brd_dec (fun h6 => ?_) (fun h6 => ?_)
              · (first | refine wX ?_ | exact wZ)
                exact ret_b (by rw [hbad (by rw [hwd, hld]; unfold dig; rw [decide_eq_false (show ¬ 48 ≤ d.toNat by omega)]; rfl)])
              · (first | refine wX ?_ | exact wZ)
                try refine Nd.mk ⟨by omega, by rw [hz]; omega⟩ ?_
                (first | refine wX ?_ | exact wZ)
                rw [Int.toNat_natCast, h5]
                refine brd_dec (fun h7 => ?_) (fun h7 => ?_)
                · (first | refine wX ?_ | exact wZ)
                  exact ret_b (by rw [hbad (by rw [hwd, hld]; unfold dig; rw [decide_eq_false (show ¬ d.toNat ≤ 57 by omega), Bool.and_false]; rfl)])
                · (first | refine wX ?_ | exact wZ)
                  refine ⟨i + 1, ⟨by omega, ?_⟩, by omega, ?_, by (repeat' (first | exact trivial | exact wkE_refl _ | refine And.intro ?_ ?_))⟩
                  · rw [List.take_add_one, hd1, List.all_append, hall]
                    simp [hwd, hld, dig]
                    omega
                  · (repeat' (first | exact trivial | refine And.intro (by with_reducible rfl) ?_ | (with_reducible exact wkC_refl _) | (with_reducible exact wkCs_refl _) | refine And.intro ?_ ?_))
                    all_goals first | rfl | exact av_int (by rw [wrap_i64 (by omega)]; omega)
          · have hin : i = r.length := by omega
            subst hin
            rw [List.take_length] at hall
            (first | refine wX ?_ | exact wZ)
            exact ret_b (by unfold wordD; rw [hl]; simp only [List.isEmpty_cons, Bool.not_false, Bool.true_and, hd, List.headD_cons, hlt, hgg, List.tail_cons]; exact ⟨fun _ => hall, fun _ => trivial⟩)
end Go.Proofs.YtahjbnfbilkbcaaGreatDoor

/-
  Contracts: constants, variables, what a list has (document).
-/
namespace Go.Proofs.YtahjbnfbilkbcaaGreatDoor
open Go.AX Go.RowKit Go.Core Go.Scan
set_option maxRecDepth 20000

theorem dConst_c (s : List UInt8) (hs : s.length ≤ 200000000000000) : ∀ H, SpecH Tryz.prog 81 (pvs [.string (bs s)]) H (Ret (.bool (constD s)) H) := by
  refine pureC hm Tryz.func81 (by kernel_rfl) rfl rfl ?_
  (first | refine wX ?_ | exact wZ)
  refine call1 (dword_c s true hs _) ?_
  (first | refine wX ?_ | exact wZ)
  rfl
theorem dIvar_c (s : List UInt8) (hs : s.length ≤ 200000000000000) : ∀ H, SpecH Tryz.prog 82 (pvs [.string (bs s)]) H (Ret (.bool (ivarD s)) H) := by
  refine pureC hm Tryz.func82 (by kernel_rfl) rfl rfl ?_
  have hz := bs_size s
  (first | refine wX ?_ | exact wZ)
  rw [hz]
  refine brd_dec (fun h1 => ?_) (fun h1 => ?_)
  · (first | refine wX ?_ | exact wZ)
    rw [hz]
    refine brd_dec (fun h2 => ?_) (fun h2 => ?_)
    · cases s with
      | nil => exact absurd h2 (by decide)
      | cons c r =>
        have hz2 : (bs (c :: r)).size = r.length + 1 := hz
        have h64 : ((c.toNat : Int) == 64) = (c == 64) := u8_eq (n := 64) (by decide)
        have e1 : decide ((c :: r).length ≤ 40) = true := decide_eq_true (by omega)
        have e2 : decide (1 < (c :: r).length) = true := decide_eq_true (by omega)
        (first | refine wX ?_ | exact wZ)
        try refine Nd.mk ⟨by omega, by rw [hz2]; omega⟩ ?_
        (first | refine wX ?_ | exact wZ)
        rw [show byteAt (bs (c :: r)) (Int.toNat 0) = (c.toNat : Int) from byteAt_get (l := c :: r) (i := 0) rfl, h64]
        cases e64 : c == 64 with
        | false =>
          (first | refine wX ?_ | exact wZ)
          exact ret_b (by unfold ivarD; rw [e1, e2]; simp only [hd, List.headD_cons, e64]; simp)
        | true =>
          (first | refine wX ?_ | exact wZ)
          refine ReadW.sl_l 1 rfl Tryz.underlying9 rfl rfl ⟨rfl, by omega⟩ ?_
          (first | refine wX ?_ | exact wZ)
          refine call1 (dword_c r false (by simp at hs; omega) _) ?_
          (first | refine wX ?_ | exact wZ)
          exact ret_b (by unfold ivarD; rw [e1, e2]; simp only [hd, List.headD_cons, e64, List.tail_cons, Bool.true_and])
    · (first | refine wX ?_ | exact wZ)
      exact ret_b (by unfold ivarD; rw [decide_eq_false (show ¬ 1 < s.length by omega)]; simp)
  · (first | refine wX ?_ | exact wZ)
    exact ret_b (by unfold ivarD; rw [decide_eq_false (show ¬ s.length ≤ 40 by omega)]; simp)
theorem dHas_c (a : Option Addr) (c : Nat) (l : List (List UInt8)) (x : List UInt8) (ha : a = none → l = []) (hl : l.length ≤ 200000000000000) : ∀ H, (∀ w, Facts H w → SlAt a (l.length * 1) (strC l) w) → SpecH Tryz.prog 83 (pvs [.slice a l.length c, .string (bs x)]) H (Ret (.bool (decide (x ∈ l))) H) := by
  refine factC hm Tryz.func83 (by kernel_rfl) rfl rfl ?_
  (first | refine wX ?_ | exact wZ)
  refine loopS Nat (fun i => i ≤ l.length ∧ x ∉ l.take i) (fun i => mkS Tryz.f83.ntmps 0 [(0, .c (.v (.slice a l.length c))), (1, .c (.v (.string (bs x)))), (5, .c (.v (.int .i64 (i : Int))))]) (fun i => l.length - i) rfl (fun _ => rfl) 0 ⟨Nat.zero_le _, by simp⟩ ?_ ?_
  · (repeat' (first | exact trivial | refine And.intro (by with_reducible rfl) ?_ | (with_reducible exact wkC_refl _) | (with_reducible exact wkCs_refl _) | refine And.intro ?_ ?_))
    all_goals rfl
  intro i ⟨hi, hno⟩
  (first | refine wX ?_ | exact wZ)
  refine brd_dec (fun h1 => ?_) (fun h1 => ?_)
  · obtain ⟨s, hs⟩ : ∃ s, l[i]? = some s := ⟨_, List.getElem?_eq_getElem (by omega)⟩
    have hsa : a.isSome = true := by
      cases a with
      | none => rw [ha rfl] at hs; cases hs
      | some b => rfl
    (first | refine wX ?_ | exact wZ)
    refine Nd.mk ⟨hsa, by omega, by omega⟩ ?_
    (first | refine wX ?_ | exact wZ)
    refine LdN.one (.string (bs s)) rfl (fun w hw => hw.1) (by rw [Int.toNat_natCast]; show (strC l)[i * 1]? = _; rw [Nat.mul_one]; exact strC_get hs) ?_
    (first | refine wX ?_ | exact wZ)
    rw [txt_eq]
    cases hsx : s == x with
    | true =>
      (first | refine wX ?_ | exact wZ)
      exact out_bool (decide_eq_true (eq_of_beq hsx ▸ List.mem_of_getElem? hs)).symm
    | false =>
      (first | refine wX ?_ | exact wZ)
      refine ⟨i + 1, ⟨by omega, ?_⟩, by omega, ?_, by (repeat' (first | exact trivial | exact wkE_refl _ | refine And.intro ?_ ?_))⟩
      · rw [List.take_add_one, hs]
        intro h
        rcases List.mem_append.1 h with h | h
        · exact hno h
        · rw [List.mem_singleton.1 (show x ∈ [s] from h)] at hsx
          simp at hsx
      · (repeat' (first | exact trivial | refine And.intro (by with_reducible rfl) ?_ | (with_reducible exact wkC_refl _) | (with_reducible exact wkCs_refl _) | refine And.intro ?_ ?_))
        all_goals first | rfl | exact av_int (by rw [wrap_i64 (by omega)]; omega)
  · have hin : i = l.length := by omega
    subst hin
    rw [List.take_length] at hno
    (first | refine wX ?_ | exact wZ)
    exact out_bool (decide_eq_false hno).symm
end Go.Proofs.YtahjbnfbilkbcaaGreatDoor

/-
  AX, forty-eighth text: maps with numbers as keys that are asked for a key that may not be there, or written over.
-/
namespace Go.AX

/-- v, ok := m[k] -/
theorem ReadW.askMap {P : Program} {o : Oper} {s : List AV} {H : List Ent} {K : AV → Prop} {t kt et : TypeId} {m k : Operand} {b c : Nat} {es : Array MapEntry} {κ : IntKind} {n : Int} {inf : TypeInfo} {z : Value} (r : Option (Nat × Value)) (ho : o.op = .lookup t m k true) (ht : P.underlying t = some (.map kt et)) (hkt : P.underlying kt = some (.int κ)) (hi : P.info? et = some inf) (hz : inf.zero = some z)
    (hm : opv s m = .c (.v (.map (some b)))) (hk : opv s k = .c (.v (.int κ n))) (hF : ∀ w, Facts H w → w.heap[b]? = some (.map es c)) (hf : Instr.findNow (.int κ) (.int κ n) es.toList 0 = some r) (h : K (.c (.v (.tuple #[(r.map Prod.snd).getD z, .bool r.isSome])))) : ReadW P o s H K :=
  ReadW.val (.tuple #[(r.map Prod.snd).getD z, .bool r.isSome]) (fun cs b e => by rw [ho] at e; cases e) (by rw [ho]; show allPlain s [m, k] = true; simp [allPlain, hm, hk]) (fun w hw => by
    have hb := hF w hw
    have hc : (Instr.checkKey es.isEmpty 10000 kt (.int κ n)).run P w = .ok () w := MapKept.run_checkKey (k := .int κ n) hkt (by simp [MapKept.IsKey]) es.isEmpty 9999
    have hrun : (Instr.lookup t (.map (some b)) (.int κ n) true).run P w = .ok (.tuple #[(r.map Prod.snd).getD z, .bool r.isSome]) w := by
      cases r with
      | none => simp [Instr.lookup, run_underlying ht, MapKept.run_getObj_map hb, hc, MapKept.run_findKey hkt hf, Result.andThen, run_zeroValue hi hz]
      | some q => simp [Instr.lookup, run_underlying ht, MapKept.run_getObj_map hb, hc, MapKept.run_findKey hkt hf, Result.andThen]
    unfold execOp
    simp only [ho, plainEv_v hm, plainEv_v hk, Sem.run_bind, hrun, Result.andThen_ok, Sem.run_pure]) h
/-- The beginning of a slice of anything. -/
theorem ReadW.slc_hi {P : Program} {o : Oper} {s : List AV} {H : List Ent} {K : AV → Prop} {t : TypeId} {x z : Operand} {a : Option Addr} {n cap : Nat} {k : IntKind} {j : Int} (ho : o.op = .slice t x none (some z) none) (hu : slcB P t = true)
    (hx : opv s x = .c (.v (.slice a n cap))) (hz : opv s z = .c (.v (.int k j))) (hj : 0 ≤ j ∧ j ≤ (cap : Int)) (h : K (.c (.v (.slice a j.toNat cap)))) : ReadW P o s H K := by
  obtain ⟨e, inf, hu, hi⟩ := slcB_spec hu
  refine ReadW.val _ (fun cs b => by rw [ho]; simp) (by rw [ho]; simp [Op.operands, allPlain, hx, hz]) (fun w _ => ?_) h
  have e1 := plainEv_v hx
  have e2 := plainEv_v hz
  have : (Instr.sliceAt t (.slice a n cap) none (some (.int k j)) none).run P w = .ok (.slice a j.toNat cap) w := by
    have ha : a.map (·.add 0) = a := by
      cases a with
      | none => rfl
      | some b => rfl
    simp [Instr.sliceAt, Instr.slice, run_underlying hu, Instr.sliceBounds, Instr.sliceBound, asIntOf, hj, sizeOf, typeInfo, hi, ha]
  refine run_op_slice ho ?_
  rw [e1]
  simpa [e2] using this
/-- What a map with whole-number keys holds. -/
def MapIs (κ : IntKind) (es : Array MapEntry) (R : Int → Option Value) : Prop := ∀ k : Int, ∃ i, Instr.findNow (.int κ) (.int κ k) es.toList 0 = some ((R k).map fun v => (i, v))
theorem find_snoc {κ : IntKind} {k k' : Int} {v : Value} {born : Nat} : ∀ (l : List MapEntry) (i : Nat), (∀ q, Instr.findNow (.int κ) (.int κ k) l i = some (some q) → Instr.findNow (.int κ) (.int κ k) (l ++ [{ key := .int κ k', val := v, born := born }]) i = some (some q)) ∧
    (Instr.findNow (.int κ) (.int κ k) l i = some none → Instr.findNow (.int κ) (.int κ k) (l ++ [{ key := .int κ k', val := v, born := born }]) i = some (if k = k' then some (i + l.length, v) else none))
  | [], i => by
    refine ⟨(fun q h => by cases h), fun _ => ?_⟩
    by_cases h : k = k'
    · subst h
      simp [Instr.findNow, Instr.sameNow]
    · have hb : (k == k') = false := by simp [h]
      simp [Instr.findNow, Instr.sameNow, hb, h]
  | e :: l, i => by
    obtain ⟨h1, h2⟩ := find_snoc (κ := κ) (k := k) (k' := k') (v := v) (born := born) l (i + 1)
    simp only [List.cons_append, Instr.findNow]
    cases hs : Instr.sameNow (.int κ) (.int κ k) e.key with
    | none => exact ⟨(fun q h => by cases h), (fun h => by cases h)⟩
    | some b =>
      cases b with
      | true => exact ⟨(fun q h => h), (fun h => by cases h)⟩
      | false =>
        refine ⟨fun q h => h1 q h, fun h => ?_⟩
        rw [h2 h]
        simp only [List.length_cons]
        rw [show i + 1 + l.length = i + (l.length + 1) by omega]
theorem MapIs.nil {κ : IntKind} : MapIs κ #[] fun _ => none := fun _ => ⟨0, rfl⟩
theorem MapIs.put {κ : IntKind} {es : Array MapEntry} {R : Int → Option Value} (h : MapIs κ es R) {k' : Int} (hk : R k' = none) (v : Value) (born : Nat) : MapIs κ (es.push { key := .int κ k', val := v, born := born }) fun k => if k = k' then some v else R k := by
  intro k
  obtain ⟨i, hi⟩ := h k
  have hs := find_snoc (κ := κ) (k := k) (k' := k') (v := v) (born := born) es.toList 0
  rw [Array.toList_push]
  by_cases he : k = k'
  · subst he
    rw [hk] at hi
    refine ⟨0 + es.toList.length, ?_⟩
    rw [hs.2 hi]
    simp
  · show ∃ i, _ = some (Option.map (fun v => (i, v)) (if k = k' then some v else R k))
    rw [if_neg he]
    cases hr : R k with
    | none =>
      rw [hr] at hi
      exact ⟨0, by rw [hs.2 hi, if_neg he]; rfl⟩
    | some x =>
      rw [hr] at hi
      exact ⟨i, by rw [hs.1 _ hi]; rfl⟩
theorem MapIs.congr {κ : IntKind} {es : Array MapEntry} {R R' : Int → Option Value} (h : MapIs κ es R) (e : ∀ k, R k = R' k) : MapIs κ es R' := fun k => by rw [← e k]; exact h k
theorem MapIs.none {κ : IntKind} {es : Array MapEntry} {R : Int → Option Value} (h : MapIs κ es R) {k : Int} (hk : R k = .none) : Instr.findNow (.int κ) (.int κ k) es.toList 0 = some .none := by
  obtain ⟨i, hi⟩ := h k
  rw [hi, hk]
  rfl
end Go.AX
