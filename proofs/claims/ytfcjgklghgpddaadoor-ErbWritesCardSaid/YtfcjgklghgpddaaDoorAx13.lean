/-
  AX, thirteenth text: from a contract to the row of a law.
-/
import Derived.Test.YtfcjgklghgpddaaDoorAx12
import Derived.WalkKit
import Derived.ProofKit
import Derived.OpenShut
import Derived.ShutString
import Derived.ChangeOld
import Derived.Below
import Derived.Carry
import Derived.HandedShaped
namespace Go.AX
open Go.ChangeShapes Go.WideShapes Go.ChangeAt Go.RowKit

section
variable {H : Type} {enc : TypeId × Value → H} {P : Program}

theorem trodAll_len {w : World} {base : Nat} {sp : Nat → Bool} {held : Bool} : ∀ {ts : List TypeId} {vs : List Value} {ds : List (DataW H)} {ps : List MemPlace}, DataW.TrodAll enc P w base sp held ts vs ds ps → ds.length = ts.length ∧ vs.length = ts.length
  | [], [], [], _, _ => ⟨rfl, rfl⟩
  | t :: ts, v :: vs, d :: ds, _, ⟨_, _, _, h, _⟩ => by have := trodAll_len h; simp [this]
  | [], _ :: _, _, _, h => h.elim
  | [], [], _ :: _, _, h => h.elim
  | _ :: _, [], _, _, h => h.elim
  | _ :: _, _ :: _, [], _, h => h.elim

/-- All that was read ahead of the call reads behind it as it did. -/
theorem trodAll_keep (hl : laidOutB P = true) {W W' : World} (hb : Below W.heap.size W W') : ∀ {ts : List TypeId} {vs : List Value} {ds : List (DataW H)} {ps : List MemPlace},
    (ts.all fun t => P.readableRec t && decide (t < P.types.size)) = true → DataW.TrodAll enc P W 0 (fun _ => true) true ts vs ds ps → DataW.TrodAll enc P W' 0 (fun b => decide (b < W.heap.size)) true ts vs ds ps
  | [], [], [], _, _, h => h
  | t :: ts, v :: vs, d :: ds, _, hp, ⟨p, q, h1, h2, e⟩ => by
    simp only [List.all_cons, Bool.and_eq_true, decide_eq_true_eq] at hp
    have lt : ∀ x ∈ p, x.block < W.heap.size := by obtain ⟨m, hm⟩ := h1; exact DataW.trod_lt m _ _ _ hm
    exact ⟨p, q, Below.trod hl hp.1.1 hp.1.2 h1 hb lt, trodAll_keep hl hb (by simpa using hp.2) h2, e⟩
  | [], _ :: _, _, _, _, h => h.elim
  | [], [], _ :: _, _, _, h => h.elim
  | _ :: _, [], _, _, _, h => h.elim
  | _ :: _, _ :: _, [], _, _, h => h.elim

/-- What a law's walk has to show: true, and nothing that was there has turned. -/
def Walk (P : Program) (f : FuncId) (args : Array Value) (W : World) : Prop :=
  Calls P f args W fun e W' => e = .returned (.bool true) ∧ Below W.heap.size W W'

/-- What is known of a law's arguments. -/
structure Known (enc : TypeId × Value → H) (P : Program) (fn : Func) (W : World) (base : Nat) (args : Array Value) (ds : List (DataW H)) (p : List MemPlace) : Prop where
  val : ∀ (j : Nat) t v, fn.params[j]? = some t → args[j]? = some v → Value.okWide P W .any base t v
  trod : DataW.TrodAll enc P W 0 (fun _ => true) true fn.params.toList args.toList ds p
  weights : (DataW.weightsEach P fn.params.toList ds).all (· ≤ reachBytes) = true
  shaped : W.ShapedOpen P

theorem lift {C : Checked} {os : Os} {f : FuncId} {fn : Func} {s : ChangeSpec} {conds : List PathCond} (own : ownKnob C.prog.godebug = none) (started : os.Started) (noInit : C.prog.inits.idxOf? f = none)
    (hfn : C.prog.funcs[f]? = some fn)
    (witness : ∃ (w : World) (tape : Tape) (i : Input), w.os = os ∧ (w.forCall tape i).Shaped C.prog ∧ i.vars = [] ∧ Input.okWide C.prog (w.forCall tape i) .any w.heap.size f i ∧
      s.pre6 enc C.prog fn conds false (w.forCall tape i).memory i.args ∧ ({} : Assume).holds C.prog (lone (Frame.enter C.prog f i.args .normal) [] (w.forCall tape i)))
    (laid : laidOutB C.prog = true) (hvars : s.vars = []) {t : TypeId} (hres : fn.resultTypes = #[t]) (hbool : C.prog.underlying t = some .bool)
    (hpar : (fn.params.toList.all fun t => C.prog.readableRec t && decide (t < C.prog.types.size)) = true)
    (hspec : ∀ ds : List (DataW H), ds.length = fn.params.toList.length → s.fn H ds = { results := [.lit (.bool true)], args := ds })
    (walk : ∀ (W : World) (base : Nat) (args : Array Value) (ds : List (DataW H)) (p : List MemPlace), Known enc C.prog fn W base args ds p → Walk C.prog f args W) :
    ReturnsInHanded {} C os f .any (s.pre6 enc C.prog fn conds false) (s.post enc C.prog fn false true false false) := by
  refine returnsInHanded_of_change_shaped own started noInit hfn witness ?_
  intro W base args ds gs before hval hW _ hwt hsh _
  have hW' := hW
  obtain ⟨p, q, hA, hV, rfl, hfz, hnd⟩ := hW
  rw [hvars] at hV
  obtain ⟨rfl, rfl⟩ := trodVars_none hV
  have hvt : s.plain.varTypes C.prog = [] := by simp [DataSpec.varTypes, ChangeSpec.plain, hvars]
  rw [hvt, List.append_nil, List.append_nil] at hwt
  refine (walk W base args ds p ⟨hval, hA, hwt, hsh⟩).mono fun e W' ⟨he, bel⟩ => ?_
  subst he
  have hs := hspec ds (trodAll_len hA).1
  refine ⟨_, rfl, ds, [], p ++ [], [], p, [], hW', ?_, ?_, ?_, bel.frame _, fun h => by cases h⟩
  · rw [List.append_nil, hs, hres]
    exact trodAll_mk1 (shut_bool hbool _)
  · rw [List.append_nil, hs]
    exact trodAll_keep laid bel hpar hA
  · rw [List.append_nil, hs, hvars]
    rfl
end

theorem mb_nil_below {w : World} {ρ' : List Loc} {S' : Nat → Prop} {H' : List Ent} {w' : World} (h : Ev [] (fun _ => False) [] w ρ' S' H' w') : Below w.heap.size w w' :=
  ⟨h.os, h.tape, h.output, h.size, fun b hb => h.keep b hb (mb_nil [] b)⟩

/-- A law whose arguments are plain values. -/
theorem walkV {P : Program} {f : FuncId} {vs : List Value} {w : World} (h : SpecH P f (pvs vs) [] (Ret (.bool true) [])) : Walk P f vs.toArray w := by
  refine (h.run [] (fun _ => False) w vs (Sat.nil w) (pvs_rel [] vs)).mono fun e w' ⟨ρ', S', H', out, hs', hev, hout, hx, hH⟩ => ?_
  subst hx
  obtain ⟨v, rfl, hv⟩ := hout
  have : v = .bool true := hv
  subst this
  exact ⟨rfl, mb_nil_below hev⟩

/-- A row of cells that are whole numbers. -/
def intsB (P : Program) : List TypeId → Bool
  | [] => true
  | t :: ts => match P.underlying t with | some (.int .i64) => intsB P ts | _ => false
theorem intsB_get {P : Program} : ∀ {ts : List TypeId}, intsB P ts = true → ∀ (i : Nat) u, ts[i]? = some u → P.underlying u = some (.int .i64)
  | [], _, i, u, h => by simp at h
  | t :: ts, hb, i, u, h => by
    simp only [intsB] at hb
    split at hb
    · rename_i ht
      cases i with
      | zero => simp at h; rw [← h]; exact ht
      | succ i => exact intsB_get hb i u (by simpa using h)
    · cases hb
theorem cells_ints {P : Program} {W : World} {r : Reach} {base : Nat} {t : TypeId} {ts : List TypeId} (hts : P.cellTypes P.depth t = some ts) (hi : intsB P ts = true) {cs : Array Value} (h : Row.okWide P W r base t cs) :
    ∃ l : List Int, cs = (l.map (Value.int .i64)).toArray ∧ l.length = cs.size := by
  obtain ⟨ts', h1, _, h3⟩ := h
  rw [hts] at h1
  obtain rfl := Option.some.inj h1
  have hall : ∀ v ∈ cs.toList, ∃ n, v = Value.int .i64 n := by
    intro v hv
    obtain ⟨i, hi', hv'⟩ := List.getElem_of_mem hv
    obtain ⟨u, hu, ho⟩ := h3 i v (by rw [← hv']; simp at hi'; simp [hi'])
    have hu' := intsB_get hi _ _ hu
    have : Cell.ok P W r base u v := by simpa [Cell.okWide, hu'] using ho
    unfold Cell.ok at this
    rw [hu'] at this
    cases v <;> simp at this
    obtain ⟨rfl, _⟩ := this
    exact ⟨_, rfl⟩
  have : ∀ l : List Value, (∀ v ∈ l, ∃ n, v = Value.int .i64 n) → ∃ k : List Int, l = k.map (Value.int .i64) := by
    intro l
    induction l with
    | nil => exact fun _ => ⟨[], rfl⟩
    | cons v l ih =>
      intro h
      obtain ⟨n, rfl⟩ := h v (by simp)
      obtain ⟨k, rfl⟩ := ih fun v hv => h v (by simp [hv])
      exact ⟨n :: k, rfl⟩
  obtain ⟨k, hk⟩ := this _ hall
  refine ⟨k, ?_, ?_⟩
  · apply Array.ext'; simpa using hk
  · rw [← Array.length_toList, hk]; simp
def intsT (P : Program) (t : TypeId) (n : Nat) : Bool := match P.cellTypes P.depth t with | some ts => Nat.beq (P.cellsOf t) n && intsB P ts | none => false
/-- A struct that has only whole numbers. -/
theorem struct_ints {P : Program} {W : World} {r : Reach} {base : Nat} {t : TypeId} {fs : Array Field} {n : Nat} (hs : P.underlying t = some (.struct fs)) (hi : intsT P t n = true) {v : Value}
    (h : Value.okWide P W r base t v) : ∃ l : List Int, v = .agg (l.map (Value.int .i64)).toArray ∧ l.length = n := by
  obtain ⟨cs, rfl, hsz⟩ := okWide_struct hs h
  simp only [Value.okWide, hs] at h
  obtain ⟨cs', e, _, hr⟩ := h
  obtain rfl := Value.agg.inj e
  unfold intsT at hi
  split at hi
  · rename_i ts hts
    rw [Bool.and_eq_true] at hi
    obtain ⟨l, rfl, hl⟩ := cells_ints hts hi.2 hr
    exact ⟨l, rfl, by rw [hl, hsz, Nat.eq_of_beq_eq_true hi.1]⟩
  · cases hi
end Go.AX
namespace Go.AX
theorem arr1 {α : Type} {a : Array α} (h : a.toList.length = 1) : ∃ x, a = #[x] := by
  match a, h with
  | ⟨[x]⟩, _ => exact ⟨x, rfl⟩
theorem arr2 {α : Type} {a : Array α} (h : a.toList.length = 2) : ∃ x y, a = #[x, y] := by
  match a, h with
  | ⟨[x, y]⟩, _ => exact ⟨x, y, rfl⟩
theorem arr3 {α : Type} {a : Array α} (h : a.toList.length = 3) : ∃ x y z, a = #[x, y, z] := by
  match a, h with
  | ⟨[x, y, z]⟩, _ => exact ⟨x, y, z, rfl⟩
theorem arr4 {α : Type} {a : Array α} (h : a.toList.length = 4) : ∃ x y z u, a = #[x, y, z, u] := by
  match a, h with
  | ⟨[x, y, z, u]⟩, _ => exact ⟨x, y, z, u, rfl⟩
end Go.AX
