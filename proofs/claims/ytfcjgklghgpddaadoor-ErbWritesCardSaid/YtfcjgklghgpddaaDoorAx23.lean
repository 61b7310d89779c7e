/-
  AX, twenty-third text: rows of bytes that the runtime makes; copies of nothing; rows that are made.
-/
import Derived.Test.YtfcjgklghgpddaaDoorAx22
import Derived.Lib.MakeNoZero
namespace Go.AX

/-- A new row in a new block. -/
theorem Sat.newApp {ρ : List Loc} {S : Nat → Prop} {H : List Ent} {w w' : World} {T : TypeId} {sz n cap : Nat} {xs : List Value} (hs : Sat ρ S H w) {ob : Obj} (hheap : w'.heap = w.heap.push ob) (ho : w'.os = w.os) (ht : w'.tape = w.tape) (hu : w'.output = w.output) (hr : RowF T sz n xs w.heap.size cap w') :
    Sat (ρ ++ [⟨0, 0⟩]) S (H ++ [.app T sz xs (some ⟨w.heap.size, 0, none⟩) n cap]) w' ∧ Ev ρ S H w (ρ ++ [⟨0, 0⟩]) S (H ++ [.app T sz xs (some ⟨w.heap.size, 0, none⟩) n cap]) w' :=
  hs.snocG (e := .app T sz xs (some ⟨w.heap.size, 0, none⟩) n cap) (l := ⟨0, 0⟩) (w' := w') (ob := ob) (fun _ hb => (Option.some.inj hb).symm) hheap ho ht hu (.inr ⟨_, rfl, hr⟩)

theorem EffW.noZero {P : Program} {o : Oper} {s : List AV} {H : List Ent} {K : AV → List Ent → Prop} {f : FuncId} {fn : Func} {args : Array Operand} {ts ps : Array TypeId} {t e T0 : TypeId} {z0 : Nat} {x : Operand} {n : Nat} (i : Nat) (ho : o.op = .call { callee := .value (.func f), args := args, argTypes := ts })
    (hf : P.funcs[f]? = some fn) (hname : (fn.name == "runtime.NumGoroutine") = false) (hb : fn.body.isNone = true) (hn : Extern.findNext fn = none) (he : Extern.find fn = some (Extern.BytealgMakeNoZero.makeNoZero ps #[t])) (ht : P.underlying t = some (.slice e)) (ha : args.toList = [x])
    (hx : opv s x = .c (.v (.int .i64 (n : Int)))) (hle : n ≤ 140737488355328) (h0 : nthE H i = some (.app T0 z0 [] none 0 0))
    (next : ∀ (b cap : Nat) (xs : List Value), xs.length = n → n ≤ cap → setEK H i (.app e 1 xs (some ⟨b, 0, none⟩) n cap) fun H' => K (.c (.v (.slice (some ⟨b, 0, none⟩) n cap))) H') : EffW P o s H K := by
  intro ρ S w a hs hr
  have e1 : args = #[x] := by rw [← Array.toArray_toList (xs := args), ha]
  subst e1
  have hxr := opv_rel hr x
  rw [hx] at hxr
  have hxe : a.eval x = .int .i64 (n : Int) := hxr
  obtain ⟨cs, hrun, hge, hmax⟩ := Lib.run_makeNoZero (P := P) w ps t e ht n (by omega)
  have hc := run_callFunc_extern hf hname hb hn he #[.int .i64 (n : Int)] w
  rw [hrun] at hc
  have hk := next w.heap.size cs.size (cs.toList.take n) (by simp; omega) hge
  obtain ⟨hilt, hk⟩ := setEK_spec hk
  rw [nthE_eq] at h0
  have hrow : RowF e 1 n (cs.toList.take n) w.heap.size cs.size (w.drew.drew.alloc (.cells cs e)) :=
    ⟨cs, heap_alloc_new w.drew.drew _, by simp; omega, hge, hmax (by simp only [maxLen]; omega), by simp, by rw [Nat.mul_one]⟩
  have hS := hs.setNil (w' := w.drew.drew.alloc (.cells cs e)) (e' := .app e 1 (cs.toList.take n) (some ⟨w.heap.size, 0, none⟩) n cs.size) h0 rfl rfl rfl rfl rfl (fun _ hb => (Option.some.inj hb).symm) (.inr ⟨_, rfl, hrow⟩)
  refine ⟨_, _, hk, _, _, _, _, ?_, .inl rfl, hS.1, hS.2, rfl⟩
  unfold execOp
  simp only [ho, resolve, Deferred.ofValue, invoke, Act.eval, Sem.run_bind, Sem.run_pure, Result.andThen_ok]
  have hx2 : (#[x].map a.eval) = #[.int .i64 (n : Int)] := by simp [hxe]
  show (callFunc f (#[] ++ #[x].map a.eval ++ #[])).run P w = _
  rw [hx2]
  simpa using hc

/-- copy onto a slice without elements. -/
theorem EffW.copy0 {P : Program} {o : Oper} {s : List AV} {H : List Ent} {K : AV → List Ent → Prop} {args : Array Operand} {ts : Array TypeId} {T U e : TypeId} {x y : Operand} {a b : Option Addr} {cap m c : Nat} (ho : o.op = .call { callee := .builtin .copy, args := args, argTypes := ts }) (ha : args.toList = [x, y]) (ht : ts.toList = [T, U])
    (hT : P.underlying T = some (.slice e)) (hi : sizeB P e = true) (hx : opv s x = .c (.v (.slice a 0 cap))) (hy : opv s y = .c (.v (.slice b m c))) (next : K (.c (.v (.int .i64 0))) H) : EffW P o s H K := by
  obtain ⟨inf, hi, -⟩ := sizeB_spec hi
  intro ρ S w ac hs hr
  have e1 : args = #[x, y] := by rw [← Array.toArray_toList (xs := args), ha]
  have e2 : ts = #[T, U] := by rw [← Array.toArray_toList (xs := ts), ht]
  subst e1; subst e2
  have hxr := opv_rel hr x
  have hyr := opv_rel hr y
  rw [hx] at hxr; rw [hy] at hyr
  have hxe : ac.eval x = .slice a 0 cap := hxr
  have hye : ac.eval y = .slice b m c := hyr
  refine ⟨_, H, next, .value (.int .i64 0), _, ρ, w, ?_, .inl rfl, hs, Ev.refl _ _ _ _, rfl⟩
  have hf : (Builtin.firstCells inf.size 0 (.slice b m c)).run P w = .ok #[] w := by
    cases b with
    | none => simp [Builtin.firstCells]
    | some p => simp [Builtin.firstCells, loadCells, loadCellsFrom]
  have h0 : (Builtin.copy_ #[T, U] o.type #[.slice a 0 cap, .slice b m c]).run P w = .ok (.int .i64 0) w := by
    cases a with
    | none => simp [Builtin.copy_, run_underlying hT, sizeOf, typeInfo, hi, Builtin.lenOf, hf, goInt]
    | some p => simp [Builtin.copy_, run_underlying hT, sizeOf, typeInfo, hi, Builtin.lenOf, hf, storeCells, goInt]
  unfold execOp
  simp only [ho, resolve, invoke, builtin, Sem.run_bind, Sem.run_pure, Result.andThen_ok, List.map_toArray, List.map_cons, List.map_nil, hxe, hye, h0]
end Go.AX
