/-
  AX, twenty-first text: bytes that grow by strings, package unsafe's strings, pointers turned to and fro, functions without a body, parts of slices, entries set ahead.
-/
import Derived.Test.YtfcjgklghgpddaaDoorAx20
import Derived.Lib.AppendStr
import Derived.Lib.UnsafeStr
import Derived.Lib.Builder
import Derived.Laws.Externs
namespace Go.AX

theorem strCells_u8 (b : ByteArray) : Lib.strCells b = u8s b.data.toList := rfl
theorem u8s_len (l : List UInt8) : (u8s l).length = l.length := by simp [u8s]

/-- Where a slice lies: nowhere yet, or at the head of a block. -/
def at0 (ob : Option Nat) : Option Addr := ob.map fun b => ⟨b, 0, none⟩

/-- An entry without a block turns to nothing. -/
theorem Sat.setNil0 {ρ : List Loc} {S : Nat → Prop} {H : List Ent} {w : World} {i : Nat} {e : Ent} (h : Sat ρ S H w) (hi : H[i]? = some e) : Sat ρ S (H.set i .dead) w ∧ Ev ρ S H w ρ S (H.set i .dead) w := by
  have hget : ∀ (j : Nat) (f : Ent), (H.set i .dead)[j]? = some f → f = .dead ∨ H[j]? = some f := fun j f hf => by
    by_cases hj : i = j
    · subst hj
      rw [List.getElem?_set_self (List.getElem?_eq_some_iff.1 hi).1] at hf
      exact .inl (Option.some.inj hf).symm
    · rw [List.getElem?_set_ne hj] at hf
      exact .inr hf
  have hb : ∀ (j : Nat) (f : Ent) (b : Nat), (H.set i .dead)[j]? = some f → entB ρ j f = some b → H[j]? = some f := fun j f b hf hfb => by
    rcases hget j f hf with rfl | h1
    · cases hfb
    · exact h1
  have hmb : ∀ b, mb ρ (H.set i .dead) b → mb ρ H b := fun b ⟨j, f, hf, hfb⟩ => ⟨j, f, hb j f b hf hfb, hfb⟩
  exact ⟨⟨by simp [h.len], fun j f hf => by
      rcases hget j f hf with rfl | h1
      · trivial
      · exact h.ent j f h1,
    fun j k f g b hf hg hfb hgb => h.inj j k f g b (hb j f b hf hfb) (hb k g b hg hgb) hfb hgb, fun b hbb => h.out b (hmb b hbb), h.low⟩,
    ⟨⟨[], by simp⟩, rfl, rfl, rfl, Nat.le_refl _, fun _ _ _ => rfl, fun _ h => .inl h, fun b hbb => .inl (hmb b hbb)⟩⟩
theorem app_owns {ρ : List Loc} {S : Nat → Prop} {w : World} {i : Nat} {T : TypeId} {sz : Nat} {xs : List Value} {a : Option Addr} {n cap : Nat} (h : EntOk ρ S w i (.app T sz xs a n cap)) : w.ownsRow 0 T sz (.slice a n cap) n xs := by
  rcases h with ⟨rfl, rfl, rfl, rfl⟩ | ⟨b, rfl, arr, h1, h2, h3, h4, h5, h6⟩
  · exact World.ownsRow_nil w 0 T sz
  · exact ⟨h2, .inr ⟨b, cap, arr, rfl, Nat.zero_le _, h1, h3, h4, h5, h6⟩⟩

/-- A type of bytes. -/
def byteB (P : Program) (e : TypeId) : Bool := match P.info? e with
  | some i => (match i.zero with | some (.int .u8 n) => n == 0 | _ => false) && (Nat.beq i.size 1 && Nat.beq i.bytes 1)
  | none => false
theorem byteB_spec {P : Program} {e : TypeId} (h : byteB P e = true) : ∃ i, P.info? e = some i ∧ i.zero = some (.int .u8 0) ∧ i.size = 1 ∧ i.bytes = 1 := by
  unfold byteB at h
  split at h
  · rename_i i hi
    simp only [Bool.and_eq_true] at h
    obtain ⟨h1, h2, h3⟩ := h
    split at h1
    · rename_i n hz
      exact ⟨i, hi, by rw [hz, beq_iff_eq.1 h1], Nat.eq_of_beq_eq_true h2, Nat.eq_of_beq_eq_true h3⟩
    · cases h1
  · cases h
/-- append(bytes, string...) onto a slice that grows. -/
theorem EffW.appStr {P : Program} {o : Oper} {s : List AV} {H : List Ent} {K : AV → List Ent → Prop} {T U e : TypeId} {x y : Operand} {args : Array Operand} {ts : Array TypeId} {a : Option Addr} {n cap : Nat} {b : ByteArray} (i : Nat) {xs : List Value}
    (ho : o.op = .call { callee := .builtin .append, args := args, argTypes := ts }) (ha : args.toList = [x, y]) (ht : ts.toList = [T, U])
    (hT : P.underlying T = some (.slice e)) (hU : P.underlying U = some .string) (hB : byteB P e = true)
    (hx : opv s x = .c (.v (.slice a n cap))) (hy : opv s y = .c (.v (.string b))) (he : nthE H i = some (.app e 1 xs a n cap)) (room : n + b.size ≤ 140737488355328)
    (next : ∀ (ob : Option Nat) (cap' : Nat), (ob = none → n + b.size = 0 ∧ cap' = 0) → n + b.size ≤ cap' → (cap' = 0 → cap = 0 ∧ a = at0 ob) → setEK H i (.app e 1 (xs ++ u8s b.data.toList) (at0 ob) (n + b.size) cap') fun H' => K (.c (.v (.slice (at0 ob) (n + b.size) cap'))) H') : EffW P o s H K := by
  obtain ⟨inf, hi, hz, hsz, hby⟩ := byteB_spec hB
  intro ρ S w ac hs hr
  rw [nthE_eq] at he
  have e1 : args = #[x, y] := by rw [← Array.toArray_toList (xs := args), ha]
  have e2 : ts = #[T, U] := by rw [← Array.toArray_toList (xs := ts), ht]
  subst e1; subst e2
  have hxr := opv_rel hr x
  have hyr := opv_rel hr y
  rw [hx] at hxr; rw [hy] at hyr
  have hx2 : ac.eval x = .slice a n cap := hxr
  have hy2 : ac.eval y = .string b := hyr
  have hent := hs.ent i _ he
  obtain ⟨v', w', hrun, hown, hg, hnil⟩ := Lib.run_append_own_string (P := P) w 0 T U o.type e inf hT hU hi hz hsz hby _ n xs (app_owns hent) b (by simp only [maxLen]; omega) room (Nat.zero_le _)
  rw [strCells_u8] at hown
  have hexec : (execOp ac.eval o).run P w = .ok (.value v') w' := by
    unfold execOp
    simp only [ho, resolve, invoke, builtin, Sem.run_bind, Sem.run_pure, Result.andThen_ok, List.map_toArray, List.map_cons, List.map_nil, hx2, hy2, hrun]
  -- what it gives
  have hv : ∃ (ob : Option Nat) (cap' : Nat), v' = .slice (at0 ob) (n + b.size) cap' ∧ (ob = none → n + b.size = 0 ∧ cap' = 0) ∧ n + b.size ≤ cap' ∧ EntOk ρ S w' i (.app e 1 (xs ++ u8s b.data.toList) (at0 ob) (n + b.size) cap') := by
    obtain ⟨hl, hc⟩ := hown
    rcases hc with ⟨rfl, h0⟩ | ⟨g, c, cur, rfl, _, h1, h2, h3, h4, h5⟩
    · refine ⟨none, 0, by rw [h0]; rfl, fun _ => ⟨h0, rfl⟩, by omega, .inl ⟨rfl, h0, rfl, ?_⟩⟩
      exact List.eq_nil_of_length_eq_zero (by rw [hl, h0])
    · exact ⟨some g, c, rfl, fun h => (by cases h), h2, .inr ⟨g, rfl, cur, h1, hl, h2, h3, h4, h5⟩⟩
  obtain ⟨ob, cap', rfl, h1, h2, h3⟩ := hv
  have h9 : cap' = 0 → cap = 0 ∧ a = at0 ob := fun hc => by
    have hb0 : b.size = 0 := by omega
    have hn0 : n = 0 := by omega
    subst hn0
    have hf := Lib.run_firstCells_string (P := P) w 1 b
    have hd : Lib.strCells b = [] := by rw [strCells_u8, List.eq_nil_of_length_eq_zero (show b.data.toList.length = 0 by simpa using hb0)]; rfl
    rw [hd, hb0] at hf
    have h0 : (Builtin.append_ #[T, U] o.type #[.slice a 0 cap, .string b]).run P w = .ok (.slice a 0 cap) w := by
      cases a with
      | none => simp [Builtin.append_, run_underlying hT, run_underlying hU, sizeOf, typeInfo, hi, hsz, Builtin.lenOf, hb0, hf]
      | some p => simp [Builtin.append_, run_underlying hT, run_underlying hU, sizeOf, typeInfo, hi, hsz, Builtin.lenOf, hb0, hf, storeCells]
    rw [h0] at hrun
    injection hrun with hv _
    injection hv with ha _ hc'
    exact ⟨by omega, ha⟩
  obtain ⟨hilt, hk⟩ := setEK_spec (next ob cap' h1 h2 h9)
  have hS : Sat ρ S (H.set i (.app e 1 (xs ++ u8s b.data.toList) (at0 ob) (n + b.size) cap')) w' ∧ Ev ρ S H w ρ S (H.set i (.app e 1 (xs ++ u8s b.data.toList) (at0 ob) (n + b.size) cap')) w' := by
    rcases hent with ⟨rfl, rfl, rfl, rfl⟩ | ⟨g, rfl, hrow⟩
    · -- it was nil: nothing turned, or one new block
      by_cases hb0 : b.size = 0
      · have hdat : b.data.toList = [] := List.eq_nil_of_length_eq_zero (by simpa using hb0)
        have hvn : Value.slice (at0 ob) (0 + b.size) cap' = .slice none 0 0 := hnil.2 ⟨rfl, hb0⟩
        have hat : at0 ob = none := by injection hvn
        have hw : w' = w := by
          have hf := Lib.run_firstCells_string (P := P) w 1 b
          have hd : Lib.strCells b = [] := by rw [strCells_u8, hdat]; rfl
          rw [hd, hb0] at hf
          have h0 : (Builtin.append_ #[T, U] o.type #[.slice none 0 0, .string b]).run P w = .ok (.slice none 0 0) w := by
            simp [Builtin.append_, run_underlying hT, run_underlying hU, sizeOf, typeInfo, hi, hsz, Builtin.lenOf, hb0, hf]
          rw [h0] at hrun
          injection hrun with _ h
          exact h.symm
        subst hw
        have hset : H.set i (.app e 1 ([] ++ u8s b.data.toList) (at0 ob) (0 + b.size) cap') = H := by
          have : cap' = 0 := by injection hvn
          rw [hat, hdat, hb0, this]
          exact set_getSelf he
        rw [hset]
        exact ⟨hs, Ev.refl _ _ _ _⟩
      · have hr := run_append_nil_string (P := P) w T U o.type e inf (.int .u8 0) hT hU hi hz b (by omega) (by omega) (by rw [hby]; omega)
        rw [hr] at hrun
        injection hrun with hv hw
        subst hw
        have hat : at0 ob = some ⟨w.heap.size, 0, none⟩ := by injection hv with h _ _; exact h.symm
        exact hs.setNil (e' := .app e 1 ([] ++ u8s b.data.toList) (at0 ob) (0 + b.size) cap') he rfl rfl rfl rfl rfl (fun c hc => by rw [hat] at hc; exact (Option.some.inj hc).symm) h3
    · refine hs.setG (c := g) he rfl hg.size (fun k hk hne => hg.block k hk (by simpa [Value.ownBlock] using hne)) hg.os hg.tape hg.output (fun c hc => ?_) h3
      cases ob with
      | none => cases hc
      | some g' =>
        obtain rfl : g' = c := Option.some.inj hc
        -- the old row, or a new one
        by_cases hroom : n + b.size ≤ cap
        · obtain ⟨arr, hb, hxl, hnc, hcm, hasz, htk⟩ := hrow
          have hr := Lib.run_append_room_string (P := P) w T U o.type e inf hT hU hi hsz g n cap arr hb b hroom (by omega)
          rw [hr] at hrun
          injection hrun with hv _
          injection hv with hv _ _
          injection hv with hv
          injection hv with hv _ _
          exact .inl hv.symm
        · have hrow' := hrow
          obtain ⟨arr, hb, hxl, hnc, hcm, hasz, htk⟩ := hrow
          have holds : ∀ j v, xs[j]? = some v → w.cell? ((⟨g, 0, none⟩ : Addr).add j) = some v := fun j v hv => by
            have := (RowF.sl hrow').2.2 j (by have := (List.getElem?_eq_some_iff.1 hv).1; omega)
            rw [hv] at this
            exact this
          have hr := Lib.run_append_grow_string (P := P) w T U o.type e inf (.int .u8 0) hT hU hi hz ⟨g, 0, none⟩ n cap xs (by rw [hsz]; exact hxl) holds b (by omega) (by omega) (by rw [hby]; exact growslice_fits (by omega) (by omega))
          rw [hr] at hrun
          injection hrun with hv _
          injection hv with hv _ _
          injection hv with hv
          injection hv with hv _ _
          exact .inr (by omega)
  exact ⟨_, _, hk, _, _, _, _, hexec, .inl rfl, hS.1, hS.2, rfl⟩

/-! ### Pointers -/
def ptrB (P : Program) (T : TypeId) : Bool := match P.underlying T with | some (.pointer e) => (P.info? e).isSome | _ => false
theorem ptrB_spec {P : Program} {T : TypeId} (h : ptrB P T = true) : ∃ e i, P.underlying T = some (.pointer e) ∧ P.info? e = some i := by
  unfold ptrB at h
  split at h
  · rename_i e he
    exact ⟨e, _, he, (Option.some_get h).symm⟩
  · cases h
theorem run_eql_nil {P : Program} {T e : TypeId} (hT : P.underlying T = some (.pointer e)) (a : Addr) (w : World) : (binOp .eql T (.pointer (some a)) (.pointer none)).run P w = .ok (.bool false) w ∧ (binOp .neq T (.pointer (some a)) (.pointer none)).run P w = .ok (.bool true) w := by
  have h : ∀ d : Nat, (Op.equalIn (d + 1) T (.pointer (some a)) (.pointer none)).run P w = .ok false w := fun d => by
    simp [Op.equalIn, run_underlying hT]
  constructor <;> simp only [binOp] <;> simp [Op.equal, Op.maxDepth, h 9999]
theorem ReadW.lp_nil {P : Program} {o : Oper} {s : List AV} {H : List Ent} {K : AV → Prop} {op : BinOp} {T U : TypeId} {x y : Operand} {i off : Nat} (ho : o.op = .binOp op T x y U) (hT : ptrB P T = true)
    (hx : opv s x = .c (.lp i off)) (hy : opv s y = .c (.v (.pointer none))) (b : Bool) (hop : op = .eql ∧ b = false ∨ op = .neq ∧ b = true) (h : K (.c (.v (.bool b)))) : ReadW P o s H K := by
  obtain ⟨e, inf, hT, -⟩ := ptrB_spec hT
  refine ⟨_, h, fun ρ S w a hs hr => ⟨.bool b, ?_, rfl⟩⟩
  have hxr := opv_rel hr x
  have hyr := opv_rel hr y
  rw [hx] at hxr; rw [hy] at hyr
  obtain ⟨l, hl, hxe⟩ := hxr
  have hye : a.eval y = .pointer none := hyr
  refine execOp_bin ho ?_ ?_
  · rw [hxe, hye]; rcases hop with ⟨rfl, _⟩ | ⟨rfl, _⟩ <;> rfl
  · rw [hxe, hye]
    rcases hop with ⟨rfl, rfl⟩ | ⟨rfl, rfl⟩
    · exact (run_eql_nil hT _ w).1
    · exact (run_eql_nil hT _ w).2
theorem ReadW.lp_same {P : Program} {o : Oper} {s : List AV} {H : List Ent} {K : AV → Prop} {op : BinOp} {T U : TypeId} {x y : Operand} {i off : Nat} (ho : o.op = .binOp op T x y U) (hT : ptrB P T = true)
    (hx : opv s x = .c (.lp i off)) (hy : opv s y = .c (.lp i off)) (b : Bool) (hop : op = .eql ∧ b = true ∨ op = .neq ∧ b = false) (h : K (.c (.v (.bool b)))) : ReadW P o s H K := by
  obtain ⟨e, inf, hT, hi⟩ := ptrB_spec hT
  refine ⟨_, h, fun ρ S w a hs hr => ⟨.bool b, ?_, rfl⟩⟩
  have hxr := opv_rel hr x
  have hyr := opv_rel hr y
  rw [hx] at hxr; rw [hy] at hyr
  obtain ⟨l, hl, hxe⟩ := hxr
  obtain ⟨l', hl', hye⟩ := hyr
  have : l' = l := Option.some.inj (hl'.symm.trans hl)
  subst this
  refine execOp_bin ho ?_ ?_
  · rw [hxe, hye]; rcases hop with ⟨rfl, _⟩ | ⟨rfl, _⟩ <;> rfl
  · rw [hxe, hye]
    rcases hop with ⟨rfl, rfl⟩ | ⟨rfl, rfl⟩
    · exact run_eql_ptr_same w _ hT hi
    · exact Lib.run_neq_ptr_same w _ hT hi
/-- A type that has a size. -/
def sizeB (P : Program) (t : TypeId) : Bool := match P.info? t with | some i => !Nat.beq i.size 0 | none => false
theorem sizeB_spec {P : Program} {t : TypeId} (h : sizeB P t = true) : ∃ inf, P.info? t = some inf ∧ inf.size ≠ 0 := by
  unfold sizeB at h
  split at h
  · rename_i i hi
    exact ⟨i, hi, fun e => by rw [e] at h; cases h⟩
  · cases h
/-- A pointer to an own variable, turned to unsafe.Pointer. -/
theorem ReadW.toUnsafe {P : Program} {o : Oper} {s : List AV} {H : List Ent} {K : AV → Prop} {src dst T : TypeId} {x : Operand} {i off : Nat} {cs : List CV} (t : TypeId) (ho : o.op = .convert src dst x) (hs : P.underlying src = some (.pointer t)) (hd : P.underlying dst = some .unsafePointer)
    (hj : sizeB P t = true) (hx : opv s x = .c (.lp i off)) (he : nthE H i = some (.blk T cs)) (hoff : off < cs.length) (h : K (.c (.lp i off))) : ReadW P o s H K := by
  obtain ⟨inf, ht, hj⟩ := sizeB_spec hj
  rw [nthE_eq] at he
  refine ⟨_, h, fun ρ S w a hsat hr => ?_⟩
  have hxr := opv_rel hr x
  rw [hx] at hxr
  obtain ⟨l, hl, hxe⟩ := hxr
  obtain ⟨l', arr, hl', hb, hrel⟩ := hsat.ent i _ he
  have : l' = l := Option.some.inj (hl'.symm.trans hl)
  subst this
  have hsz : arr.size = cs.length := by rw [RelL_len hrel]; simp
  have hsh : w.shape? l'.b = some (T, arr.size) := by simp [World.shape?, hb]
  refine ⟨_, ?_, l', hl, rfl⟩
  unfold execOp
  simp only [ho, hxe, Sem.run_bind, Lib.run_to_unsafe w ⟨l'.b, off, none⟩ hs hd ht hj hsh (by show off < _; omega), Result.andThen_ok, Sem.run_pure]
/-- .. and back. -/
theorem ReadW.fromUnsafe {P : Program} {o : Oper} {s : List AV} {H : List Ent} {K : AV → Prop} {src dst T : TypeId} {x : Operand} {i off : Nat} {cs : List CV} (u : TypeId) (ho : o.op = .convert src dst x) (hs : P.underlying src = some .unsafePointer) (hd : P.underlying dst = some (.pointer u))
    (hu : sizeB P u = true) (hx : opv s x = .c (.lp i off)) (he : nthE H i = some (.blk T cs)) (hlies : liesAt P P.depth T (cs.length / P.cellsOf T) off u 1 = true) (h : K (.c (.lp i off))) : ReadW P o s H K := by
  obtain ⟨inf, hu, -⟩ := sizeB_spec hu
  rw [nthE_eq] at he
  refine ⟨_, h, fun ρ S w a hsat hr => ?_⟩
  have hxr := opv_rel hr x
  rw [hx] at hxr
  obtain ⟨l, hl, hxe⟩ := hxr
  obtain ⟨l', arr, hl', hb, hrel⟩ := hsat.ent i _ he
  have : l' = l := Option.some.inj (hl'.symm.trans hl)
  subst this
  have hsz : arr.size = cs.length := by rw [RelL_len hrel]; simp
  have hsh : w.shape? l'.b = some (T, cs.length) := by simp [World.shape?, hb, hsz]
  refine ⟨_, ?_, l', hl, rfl⟩
  unfold execOp
  simp only [ho, hxe, Sem.run_bind, Lib.run_from_unsafe w ⟨l'.b, off, none⟩ hs hd hu hsh hlies, Result.andThen_ok, Sem.run_pure]

/-! ### Functions without a body -/
theorem EffW.ext {P : Program} {o : Oper} {s : List AV} {H : List Ent} {K : AV → List Ent → Prop} {f : FuncId} {fn : Func} {e : Array Value → Sem Value} {args : Array Operand} {ts : Array TypeId} (ho : o.op = .call { callee := .value (.func f), args := args, argTypes := ts })
    (hf : P.funcs[f]? = some fn) (hname : (fn.name == "runtime.NumGoroutine") = false) (hb : fn.body.isNone = true) (hn : Extern.findNext fn = none) (he : Extern.find fn = some e) (av : AV) (h : K av H)
    (hrun : ∀ (ρ : List Loc) (vs : List Value), RelS ρ (opvs s args.toList) vs → ∃ v, av.rel ρ v ∧ ∀ w, (e vs.toArray).run P w = .ok v w) : EffW P o s H K := by
  intro ρ S w a hs hr
  obtain ⟨v, hv, hrun⟩ := hrun ρ _ (opvs_rel hr args.toList)
  refine ⟨av, H, h, .value v, v, ρ, w, ?_, .inl rfl, hs, Ev.refl _ _ _ _, hv⟩
  have hc := run_callFunc_extern hf hname hb hn he (args.toList.map a.eval).toArray w
  rw [hrun w] at hc
  have he2 : args.map a.eval = (args.toList.map a.eval).toArray := by apply Array.ext'; simp
  unfold execOp
  simp only [ho, resolve, Deferred.ofValue, invoke, Act.eval, Sem.run_bind, Sem.run_pure, Result.andThen_ok, he2]
  simpa using hc
/-- .. over plain values. -/
theorem EffW.extV {P : Program} {o : Oper} {s : List AV} {H : List Ent} {K : AV → List Ent → Prop} {f : FuncId} {fn : Func} {e : Array Value → Sem Value} {args : Array Operand} {ts : Array TypeId} (xs : List Value) (v : Value) (ho : o.op = .call { callee := .value (.func f), args := args, argTypes := ts })
    (hf : P.funcs[f]? = some fn) (hname : (fn.name == "runtime.NumGoroutine") = false) (hb : fn.body.isNone = true) (hn : Extern.findNext fn = none) (he : Extern.find fn = some e) (hx : opvs s args.toList = pvs xs) (hrun : ∀ w, (e xs.toArray).run P w = .ok v w) (h : K (.c (.v v)) H) : EffW P o s H K :=
  EffW.ext ho hf hname hb hn he _ h fun ρ vs hr => by rw [hx] at hr; rw [RelS_pvs hr]; exact ⟨v, rfl, hrun⟩

/-! ### Bytes as a string -/
theorem ReadW.sliceData {P : Program} {o : Oper} {s : List AV} {H : List Ent} {K : AV → Prop} {args : Array Operand} {ts : Array TypeId} {x : Operand} {ob : Option Nat} {n cap : Nat} (ho : o.op = .call { callee := .builtin .unsafeSliceData, args := args, argTypes := ts }) (ha : args.toList = [x])
    (hx : opv s x = .c (.v (.slice (at0 ob) n cap))) (hc : ob ≠ none → cap ≠ 0) (h : K (.c (.v (.pointer (at0 ob))))) : ReadW P o s H K := by
  refine ⟨_, h, fun ρ S w a _ hr => ⟨_, execOp_blt ho fun consts => ?_, rfl⟩⟩
  have hxr := opv_rel hr x
  rw [hx] at hxr
  have hxe : a.eval x = .slice (at0 ob) n cap := hxr
  rw [ha]
  simp only [builtin, List.map_cons, List.map_nil, hxe, Sem.run_bind]
  cases ob with
  | none => rw [show at0 none = none from rfl, Lib.run_unsafeSliceData_nil w]; rfl
  | some b => rw [show at0 (some b) = some ⟨b, 0, none⟩ from rfl, Lib.run_unsafeSliceData_row w _ _ _ _ _ (hc (by simp))]; rfl
theorem EffW.usStr {P : Program} {o : Oper} {s : List AV} {H : List Ent} {K : AV → List Ent → Prop} {args : Array Operand} {ts : Array TypeId} {pt it e : TypeId} {x y : Operand} {ob : Option Nat} {cap n : Nat} (i : Nat) (l : List UInt8) (hn : l.length = n)
    (ho : o.op = .call { callee := .builtin .unsafeString, args := args, argTypes := ts }) (ha : args.toList = [x, y]) (ht : ts.toList = [pt, it]) (hp : P.underlying pt = some (.pointer e)) (hc : P.cellsOf e = 1)
    (hx : opv s x = .c (.v (.pointer (at0 ob)))) (hy : opv s y = .c (.v (.int .i64 (n : Int)))) (he : nthE H i = some (.app e 1 (u8s l) (at0 ob) n cap))
    (next : setEK H i .dead fun H' => K (.c (.v (.string ⟨l.toArray⟩))) H') : EffW P o s H K := by
  intro ρ S w a hs hr
  subst hn
  rw [nthE_eq] at he
  have e1 : args = #[x, y] := by rw [← Array.toArray_toList (xs := args), ha]
  have e2 : ts = #[pt, it] := by rw [← Array.toArray_toList (xs := ts), ht]
  subst e1; subst e2
  obtain ⟨hilt, hk⟩ := setEK_spec next
  have hxr := opv_rel hr x
  have hyr := opv_rel hr y
  rw [hx] at hxr; rw [hy] at hyr
  have hxe : a.eval x = .pointer (at0 ob) := hxr
  have hye : a.eval y = .int .i64 (l.length : Int) := hyr
  have hexec : ∀ v w', (Builtin.unsafeString_ #[pt, it] o.type #[.pointer (at0 ob), .int .i64 l.length]).run P w = .ok v w' → (execOp a.eval o).run P w = .ok (.value v) w' := fun v w' h => by
    unfold execOp
    simp only [ho, resolve, invoke, builtin, Sem.run_bind, Sem.run_pure, Result.andThen_ok, List.map_toArray, List.map_cons, List.map_nil, hxe, hye, h]
  rcases hs.ent i _ he with ⟨h1, h2, h3, h4⟩ | ⟨g, h1, hrow⟩
  · have hl : l = [] := List.eq_nil_of_length_eq_zero h2
    subst hl
    have hrun := Lib.run_unsafeString_none (P := P) w pt it o.type (at0 ob)
    have hS := hs.setNil0 he
    exact ⟨_, _, hk, _, _, _, _, hexec _ _ hrun, .inl rfl, hS.1, hS.2, rfl⟩
  · by_cases hl : l = []
    · subst hl
      have hrun := Lib.run_unsafeString_none (P := P) w pt it o.type (at0 ob)
      have hS := hs.setG (w' := w) (e' := .dead) he (c := g) (by simp [entB, h1]) (Nat.le_refl _) (fun _ _ _ => rfl) rfl rfl rfl (fun b hb => by cases hb) trivial
      exact ⟨_, _, hk, _, _, _, _, hexec _ _ hrun, .inl rfl, hS.1, hS.2, rfl⟩
    · have hrow' := hrow
      obtain ⟨arr, hb, hxl, hnc, hcm, hasz, htk⟩ := hrow
      have hsh : w.shape? g = some (e, arr.size) := by simp [World.shape?, hb]
      have hcell : ∀ j x, l[j]? = some x → w.cell? ((⟨g, 0, none⟩ : Addr).add j) = some (.int .u8 x.toNat) := fun j x hj => by
        have hjl := (List.getElem?_eq_some_iff.1 hj).1
        have := (RowF.sl hrow').2.2 j (by rw [Nat.mul_one]; exact hjl)
        rw [show (u8s l)[j]? = some (.int .u8 (x.toNat : Int)) by simp [u8s, hj]] at this
        exact this
      have hl0 : 0 < l.length := List.length_pos_iff.2 hl
      have hrun := Lib.run_unsafeString_row (P := P) w pt it o.type e hp hc g arr.size hsh l hl (by omega) (by simp only [maxLen] at hcm; omega) hcell
      have hS := hs.setG (w' := w.freeze ⟨g, 0, none⟩ l.length) (e' := .dead) he (c := g) (by simp [entB, h1]) (by simp [World.freeze]; split <;> simp) (fun k _ hne => by
          unfold World.freeze
          split
          · rfl
          · simp only [Array.getElem?_modify]
            rw [if_neg (fun h => hne h.symm)]) (by unfold World.freeze; split <;> rfl) (by unfold World.freeze; split <;> rfl) (by unfold World.freeze; split <;> rfl) (fun b hb => by cases hb) trivial
      exact ⟨_, _, hk, _, _, _, _, hexec _ _ (by rw [h1]; exact hrun), .inl rfl, hS.1, hS.2, rfl⟩

/-! ### Parts of slices -/
def slcB (P : Program) (T : TypeId) : Bool := match P.underlying T with | some (.slice e) => (P.info? e).isSome | _ => false
theorem slcB_spec {P : Program} {T : TypeId} (h : slcB P T = true) : ∃ e i, P.underlying T = some (.slice e) ∧ P.info? e = some i := by
  unfold slcB at h
  split at h
  · rename_i e he
    exact ⟨e, _, he, (Option.some_get h).symm⟩
  · cases h
theorem ReadW.slc_h {P : Program} {o : Oper} {s : List AV} {H : List Ent} {K : AV → Prop} {t : TypeId} {x z : Operand} {ob : Option Nat} {n cap : Nat} {k : IntKind} {j : Int} (ho : o.op = .slice t x none (some z) none) (hu : slcB P t = true)
    (hx : opv s x = .c (.v (.slice (at0 ob) n cap))) (hz : opv s z = .c (.v (.int k j))) (hj : 0 ≤ j ∧ j ≤ (cap : Int)) (h : K (.c (.v (.slice (at0 ob) j.toNat cap)))) : ReadW P o s H K := by
  obtain ⟨e, inf, hu, hi⟩ := slcB_spec hu
  refine ReadW.val _ (fun cs b => by rw [ho]; simp) (by rw [ho]; simp [Op.operands, allPlain, hx, hz]) (fun w _ => ?_) h
  have e1 := plainEv_v hx
  have e2 := plainEv_v hz
  have : (Instr.sliceAt t (.slice (at0 ob) n cap) none (some (.int k j)) none).run P w = .ok (.slice (at0 ob) j.toNat cap) w := by
    have ha : (at0 ob).map (·.add 0) = at0 ob := by
      cases ob with
      | none => rfl
      | some b => simp [at0, add_lit0]
    simp [Instr.sliceAt, Instr.slice, run_underlying hu, Instr.sliceBounds, Instr.sliceBound, asIntOf, hj, sizeOf, typeInfo, hi, ha]
  refine run_op_slice ho ?_
  rw [e1]
  simpa [e2] using this

/-! ### Entries set ahead -/
theorem SpecH.pad {P : Program} {f : FuncId} {args : List AV} {H : List Ent} {K : Out → List Ent → Prop} (pad : List Ent) (hp : padB pad = true) (h : SpecH P f args (H ++ pad) K) : SpecH P f args H K := by
  refine ⟨h.ok, fun ρ S w vs hs hr => ?_⟩
  obtain ⟨t, hs', hev⟩ := hs.pad pad hp
  exact (h.run (ρ ++ t) S w vs hs' (RelS_pre t hr)).mono fun e w' ⟨ρ', S', H', out, h1, h2, h3, h4⟩ => ⟨ρ', S', H', out, h1, hev.trans h2, h3, h4⟩
end Go.AX
