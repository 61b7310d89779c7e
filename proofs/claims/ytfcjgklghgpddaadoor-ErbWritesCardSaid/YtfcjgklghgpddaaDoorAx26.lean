/-
  AX, twenty-sixth text: maps with numbers as keys that the call makes, fills and asks.
-/
import Derived.Test.YtfcjgklghgpddaaDoorAx23
import Derived.WideMake
namespace Go.AX

/-- make(map[K]V) -/
theorem EffW.mkMap {P : Program} {o : Oper} {s : List AV} {H : List Ent} {K : AV → List Ent → Prop} {t : TypeId} (ho : o.op = .makeMap t none) (next : ∀ b, K (.c (.v (.map (some b)))) (H ++ [.mp b #[] 0])) : EffW P o s H K := by
  intro ρ S w a hs hr
  have hS := hs.snocG (e := .mp w.heap.size #[] 0) (l := ⟨0, 0⟩) (w' := w.alloc (.map #[] 0)) (ob := .map #[] 0) (fun _ hb => (Option.some.inj hb).symm) rfl rfl rfl rfl (by show (w.heap.push _)[w.heap.size]? = _; simp)
  refine ⟨_, _, next w.heap.size, _, _, _, _, ?_, .inl rfl, hS.1, hS.2, rfl⟩
  unfold execOp
  simp only [ho, Option.map_none, Sem.run_bind, Sem.run_pure, run_makeMap_plain, Result.andThen_ok]
/-- m[k] = v: a new key -/
theorem EffW.putMap {P : Program} {o : Oper} {s : List AV} {H : List Ent} {K : AV → List Ent → Prop} {t kt et : TypeId} {m k x : Operand} {b c : Nat} {es : Array MapEntry} {κ : IntKind} {n : Int} {val : Value} (i : Nat) (ho : o.op = .insert t m k x) (ht : P.underlying t = some (.map kt et)) (hkt : P.underlying kt = some (.int κ))
    (hm : opv s m = .c (.v (.map (some b)))) (hk : opv s k = .c (.v (.int κ n))) (hx : opv s x = .c (.v val)) (hi : nthE H i = some (.mp b es c)) (hf : Instr.findNow (.int κ) (.int κ n) es.toList 0 = some none)
    (next : setEK H i (.mp b (es.push { key := .int κ n, val := val, born := c }) (c + 1)) fun H' => K (.c .any) H') : EffW P o s H K := by
  rw [nthE_eq] at hi
  obtain ⟨_, hk2⟩ := setEK_spec next
  refine Effs.w (fun ρ S w a hs hr => ?_) hk2
  have h1 : a.eval m = .map (some b) := by have := opv_rel hr m; rw [hm] at this; exact this
  have h2 : a.eval k = .int κ n := by have := opv_rel hr k; rw [hk] at this; exact this
  have h3 : a.eval x = val := by have := opv_rel hr x; rw [hx] at this; exact this
  have hb : w.heap[b]? = some (.map es c) := hs.ent i _ hi
  have hbl : b < w.heap.size := (Array.getElem?_eq_some_iff.1 hb).1
  have hc : (Instr.checkKey false 10000 kt (.int κ n)).run P w = .ok () w := MapKept.run_checkKey (k := .int κ n) hkt (by simp [MapKept.IsKey]) false 9999
  have hrun : (Instr.mapUpdate t (.map (some b)) (.int κ n) val).run P w = .ok () { w with heap := w.heap.setIfInBounds b (.map (es.push { key := .int κ n, val := val, born := c }) (c + 1)) } := by
    simp [Instr.mapUpdate, run_underlying ht, MapKept.run_getObj_map hb, hc, MapKept.run_findKey hkt hf, MapKept.run_setObj_map _ hb, Result.andThen]
  have hS := hs.setG (e' := .mp b (es.push { key := .int κ n, val := val, born := c }) (c + 1)) (c := b) (w' := { w with heap := w.heap.setIfInBounds b (.map (es.push { key := .int κ n, val := val, born := c }) (c + 1)) }) hi rfl (by simp) (fun j _ hne => by simp [Array.getElem?_setIfInBounds, Ne.symm hne]) rfl rfl rfl (fun _ hc => .inl (Option.some.inj hc).symm) (by show (w.heap.setIfInBounds b _)[b]? = _; simp [hbl])
  refine ⟨.skip, undef, ρ, _, ?_, .inr ⟨rfl, rfl⟩, hS.1, hS.2, trivial⟩
  unfold execOp
  simp only [ho, h1, h2, h3, Sem.run_bind, Sem.run_pure, hrun, Result.andThen_ok]
/-- m[k]: a key that is there -/
theorem ReadW.getMap {P : Program} {o : Oper} {s : List AV} {H : List Ent} {K : AV → Prop} {t kt et : TypeId} {m k : Operand} {b c j : Nat} {es : Array MapEntry} {κ : IntKind} {n : Int} {val : Value} (ho : o.op = .lookup t m k false) (ht : P.underlying t = some (.map kt et)) (hkt : P.underlying kt = some (.int κ))
    (hm : opv s m = .c (.v (.map (some b)))) (hk : opv s k = .c (.v (.int κ n))) (hF : ∀ w, Facts H w → w.heap[b]? = some (.map es c)) (hf : Instr.findNow (.int κ) (.int κ n) es.toList 0 = some (some (j, val))) (h : K (.c (.v val))) : ReadW P o s H K :=
  ReadW.val val (fun cs b e => by rw [ho] at e; cases e) (by rw [ho]; show allPlain s [m, k] = true; simp [allPlain, hm, hk]) (fun w hw => by
    have hb := hF w hw
    have hc : (Instr.checkKey es.isEmpty 10000 kt (.int κ n)).run P w = .ok () w := MapKept.run_checkKey (k := .int κ n) hkt (by simp [MapKept.IsKey]) es.isEmpty 9999
    have hrun : (Instr.lookup t (.map (some b)) (.int κ n) false).run P w = .ok val w := by
      simp [Instr.lookup, run_underlying ht, MapKept.run_getObj_map hb, hc, MapKept.run_findKey hkt hf, Result.andThen]
    unfold execOp
    simp only [ho, plainEv_v hm, plainEv_v hk, Sem.run_bind, hrun, Result.andThen_ok, Sem.run_pure]) h
end Go.AX
