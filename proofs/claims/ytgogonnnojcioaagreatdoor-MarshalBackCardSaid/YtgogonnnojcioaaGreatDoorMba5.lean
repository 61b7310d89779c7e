/-
  Lemmas (P8 P10 Ax26 Ax28 Ax29 Ax25 Ax30 Ax31 Ax32 Ax33 Ax35 Ax36 S1 S2 N2 P9 Ax40 Ax46 Ax45 Ax44 Ax39 Ax41 Ax42 Ax43 C1 Ax27 Ax37 A1 MQ1 C10 C2 C3 C4 N3 C5 C6 Ax48 C8 C7).
-/
import Derived.WideMake
import Derived.Laws.IdiomCopy
import Derived.Laws.MakeOwn
import Derived.Laws.IdiomStrings
import Derived.Lib.AppendZerosOnto
import Derived.Recover
import Derived.Lay
import Derived.Lib.LaidU8
import Derived.PinnedBridge
import Derived.Test.YtgogonnnojcioaaGreatDoorMba4
set_option linter.unusedVariables false
set_option linter.unusedSimpArgs false
namespace Go.Core
section
variable (M : Nat) (leafT : Cell → List UInt8) (g : List Cell)
def frontT (c : Cell) : List UInt8 := if c.kind = 7 then [123] else if c.kind = 8 then [35, 60] ++ c.text else [91]
def backT (c : Cell) : List UInt8 := if c.kind = 7 then [125] else if c.kind = 8 then [62] else [93]
def markT (c : Cell) : List UInt8 := if c.kind = 8 then [32, 46, 46, 46] else [46, 46, 46]
def preT (c : Cell) (i : Nat) : List UInt8 :=
 if c.kind = 8 then (if i = 0 then [32] else [44, 32]) ++ c.names.getD i [] ++ [61]
 else if c.kind = 7 ∧ i % 2 = 1 then [32, 61, 62, 32] else if 0 < i then [44, 32] else []
def preD (c : Cell) (i : Nat) : List UInt8 :=
 (if c.kind = 7 ∧ i % 2 = 1 then [32, 61, 62, 32] else if 0 < i then [44, 32] else []) ++ (if c.kind = 8 then c.names.getD i [] ++ [61] else [])
def firstD (c : Cell) : List UInt8 := if c.kind = 8 ∧ c.names ≠ [] then frontT c ++ [32] else frontT c
def isLeaf (c : Cell) : Bool := decide (c.kind ≤ 5)
def catT (f : Int → List UInt8) (pre : Nat → List UInt8) : Nat → List Int → List UInt8
 | _, [] => []
 | i, k :: l => pre i ++ f k ++ catT f pre (i + 1) l
def fullT : Nat → List Int → Int → List UInt8
 | 0, _, _ => []
 | n + 1, way, a =>
  if isLeaf (at_ g a) then leafT (at_ g a)
  else if a ∈ way then frontT (at_ g a) ++ markT (at_ g a) ++ backT (at_ g a)
  else frontT (at_ g a) ++ catT (fullT n (way ++ [a])) (preT (at_ g a)) 0 (at_ g a).items ++ backT (at_ g a)
def foldT (f : List UInt8 → Int → List UInt8) (pre : Nat → List UInt8) : Nat → List Int → List UInt8 → List UInt8
 | _, [], out => out
 | i, k :: l, out => foldT f pre (i + 1) l (f (out ++ pre i) k)
def writeS : Nat → List UInt8 → List Int → Int → List UInt8
 | 0, out, _, _ => out
 | n + 1, out, way, a =>
  if M < out.length then out
  else if isLeaf (at_ g a) then out ++ leafT (at_ g a)
  else if a ∈ way then out ++ frontT (at_ g a) ++ markT (at_ g a) ++ backT (at_ g a)
  else foldT (fun o k => writeS n o (way ++ [a]) k) (preT (at_ g a)) 0 (at_ g a).items (out ++ frontT (at_ g a)) ++ backT (at_ g a)
def foldD (f : List UInt8 → Int → List UInt8) (pre : Nat → List UInt8) : Nat → List Int → List UInt8 → List UInt8
 | _, [], out => out
 | i, k :: l, out => if out.length < M then foldD f pre (i + 1) l (f (out ++ pre i) k) else out
def docS : Nat → List UInt8 → List Int → Int → List UInt8
 | 0, out, _, _ => out
 | n + 1, out, way, a =>
  if isLeaf (at_ g a) then out ++ leafT (at_ g a)
  else if a ∈ way then out ++ (frontT (at_ g a) ++ markT (at_ g a) ++ backT (at_ g a))
  else foldD M (fun o k => docS n o (way ++ [a]) k) (preD (at_ g a)) 0 (at_ g a).items (out ++ firstD (at_ g a)) ++ backT (at_ g a)
variable {M leafT g}
theorem take_app {A B : List UInt8} (h : A.take M = B.take M) (x : List UInt8) : (A ++ x).take M = (B ++ x).take M := by
 rcases Nat.lt_or_ge A.length M with h1 | h1
 ·have h2 : A.take M = A := List.take_of_length_le (by omega)
  have h3 : (B.take M).length = A.length := by rw [← h, h2]
  rw [List.length_take] at h3
  have h4 : B.take M = B := List.take_of_length_le (by omega)
  rw [h2, h4] at h
  rw [h]
 ·have h3 : (B.take M).length = M := by rw [← h, List.length_take]; omega
  rw [List.length_take] at h3
  rw [List.take_append_of_le_length h1, List.take_append_of_le_length (by omega), h]
theorem take_long {A : List UInt8} (h : M ≤ A.length) (x : List UInt8) : A.take M = (A ++ x).take M := (List.take_append_of_le_length h).symm
theorem fold_full {f : List UInt8 → Int → List UInt8} {F : Int → List UInt8} (hf : ∀ o k, (f o k).take M = (o ++ F k).take M) (pre : Nat → List UInt8) :
  ∀ (l : List Int) (i : Nat) (out : List UInt8), (foldT f pre i l out).take M = (out ++ catT F pre i l).take M
 | [], i, out => by unfold foldT catT; rw [List.append_nil]
 | k :: l, i, out => by
  unfold foldT catT
  rw [fold_full hf pre l (i + 1), take_app (hf (out ++ pre i) k), List.append_assoc, List.append_assoc, List.append_assoc]
theorem foldD_full {f : List UInt8 → Int → List UInt8} {F : Int → List UInt8} (hf : ∀ o k, (f o k).take M = (o ++ F k).take M) (pre : Nat → List UInt8) :
  ∀ (l : List Int) (i : Nat) (out : List UInt8), (foldD M f pre i l out).take M = (out ++ catT F pre i l).take M
 | [], i, out => by unfold foldD catT; rw [List.append_nil]
 | k :: l, i, out => by
  unfold foldD
  split
  ·unfold catT
   rw [foldD_full hf pre l (i + 1), take_app (hf (out ++ pre i) k), List.append_assoc, List.append_assoc, List.append_assoc]
  ·exact take_long (by omega) _
theorem write_full : ∀ (n : Nat) (out : List UInt8) (way : List Int) (a : Int), (writeS M leafT g n out way a).take M = (out ++ fullT leafT g n way a).take M
 | 0, out, way, a => by unfold writeS fullT; rw [List.append_nil]
 | n + 1, out, way, a => by
  unfold writeS
  split
  ·exact take_long (by omega) _
  unfold fullT
  split
  ·rfl
  split
  ·rw [List.append_assoc, List.append_assoc, List.append_assoc]
  ·rw [take_app (fold_full (F := fullT leafT g n (way ++ [a])) (fun o k => write_full n o (way ++ [a]) k) _ _ _ _)]
   simp only [List.append_assoc]
theorem pre_tail {c : Cell} (F : Int → List UInt8) : ∀ (l : List Int) (i : Nat), 0 < i → catT F (preD c) i l = catT F (preT c) i l
 | [], _, _ => rfl
 | k :: l, i, hi => by
  unfold catT
  rw [pre_tail F l (i + 1) (by omega)]
  congr 2
  unfold preD preT
  by_cases h8 : c.kind = 8
  ·rw [if_neg (by omega), if_pos hi, if_pos h8, if_pos h8, if_neg (by omega), List.append_assoc]
  ·rw [if_neg (show ¬ c.kind = 8 from h8), if_neg (show ¬ c.kind = 8 from h8), List.append_nil]
theorem first_cat {c : Cell} (hl : c.kind = 8 → c.names.length = c.items.length) (F : Int → List UInt8) : firstD c ++ catT F (preD c) 0 c.items = frontT c ++ catT F (preT c) 0 c.items := by
 cases hi : c.items with
 | nil =>
  unfold catT firstD
  rw [if_neg]
  rintro ⟨h8, hn⟩
  have := hl h8
  rw [hi] at this
  exact hn (List.eq_nil_of_length_eq_zero this)
 | cons k l =>
  unfold catT
  rw [pre_tail F l 1 (by omega)]
  unfold firstD preD preT
  by_cases h8 : c.kind = 8
  ·have hn : c.names ≠ [] := fun e => by
    have := hl h8
    rw [e, hi] at this
    simp at this
   rw [if_pos ⟨h8, hn⟩, if_neg (by omega), if_neg (by omega), if_pos h8, if_pos h8, if_pos rfl]
   simp only [List.append_assoc, List.nil_append]
  ·rw [if_neg (fun h => h8 h.1), if_neg h8, if_neg h8, List.append_nil]
theorem doc_full (hg : ∀ a, (at_ g a).kind = 8 → (at_ g a).names.length = (at_ g a).items.length) : ∀ (n : Nat) (out : List UInt8) (way : List Int) (a : Int), (docS M leafT g n out way a).take M = (out ++ fullT leafT g n way a).take M
 | 0, out, way, a => by unfold docS fullT; rw [List.append_nil]
 | n + 1, out, way, a => by
  unfold docS fullT
  split
  ·rfl
  split
  ·rfl
  ·rw [take_app (foldD_full (F := fullT leafT g n (way ++ [a])) (fun o k => doc_full hg n o (way ++ [a]) k) _ _ _ _), List.append_assoc out, first_cat (hg a)]
   simp only [List.append_assoc]
theorem write_doc (hg : ∀ a, (at_ g a).kind = 8 → (at_ g a).names.length = (at_ g a).items.length) (n : Nat) (out : List UInt8) (way : List Int) (a : Int) :
  (writeS M leafT g n out way a).take M = (docS M leafT g n out way a).take M := by rw [write_full, doc_full hg]
end
end Go.Core
namespace Go.Core
def reNum (φ : Int → Int) (c : Cell) : Cell := { c with items := c.items.map φ }
structure Emb (g t : List Cell) (φ : Int → Int) (R : Int → Prop) : Prop where
 cell : ∀ i, R i → at_ t (φ i) = reNum φ (at_ g i)
 outs : ∀ i, R i → ∀ k ∈ outs g i, R k
 inj : ∀ i k, R i → R k → φ i = φ k → i = k
theorem emb_cat {F G : Int → List UInt8} {pre : Nat → List UInt8} {φ : Int → Int} : ∀ (l : List Int) (i : Nat), (∀ k ∈ l, F (φ k) = G k) → catT F pre i (l.map φ) = catT G pre i l
 | [], _, _ => rfl
 | k :: l, i, h => by
  rw [List.map_cons]
  unfold catT
  rw [h k (by simp), emb_cat l (i + 1) fun x hx => h x (by simp [hx])]
def place (l : List Int) (x : Int) : Int := (l.idxOf x : Nat)
end Go.Core
namespace Go.AX
theorem EffW.mkMap {P : Program} {o : Oper} {s : List AV} {H : List Ent} {K : AV → List Ent → Prop} {t : TypeId} (ho : o.op = .makeMap t none) (next : ∀ b, K (.c (.v (.map (some b)))) (H ++ [.mp b #[] 0])) : EffW P o s H K := by
 intro ρ S w a hs hr
 have hS := hs.snocG (e := .mp w.heap.size #[] 0) (l := ⟨0, 0⟩) (w' := w.alloc (.map #[] 0)) (ob := .map #[] 0) (fun _ hb => (Option.some.inj hb).symm) rfl rfl rfl rfl (by show (w.heap.push _)[w.heap.size]? = _; simp)
 refine ⟨_, _, next w.heap.size, _, _, _, _, ?_, .inl rfl, hS.1, hS.2, rfl⟩
 unfold execOp
 simp only [ho, Option.map_none, Sem.run_bind, Sem.run_pure, run_makeMap_plain, Result.andThen_ok]
theorem EffW.putMap {P : Program} {o : Oper} {s : List AV} {H : List Ent} {K : AV → List Ent → Prop} {t kt et : TypeId} {m k x : Operand} {b c : Nat} {es : Array MapEntry} {κ : IntKind} {n : Int} {val : Value} (i : Nat) (ho : o.op = .insert t m k x) (ht : P.underlying t = some (.map kt et)) (hkt : P.underlying kt = some (.int κ))
  (hm : opv s m = .c (.v (.map (some b)))) (hk : opv s k = .c (.v (.int κ n))) (hx : opv s x = .c (.v val)) (hi : nthE H i = some (.mp b es c)) (hf : Instr.findNow (.int κ) (.int κ n) es.toList 0 = some none)
  (next : setEK H i (.mp b (es.push { key := .int κ n, val := val, born := c }) (c + 1)) fun H' => K (.c .any) H') : EffW P o s H K := by
 rw [nthE_eq] at hi
 obtain ⟨_, hk2⟩ := setEK_spec next
 refine Effs.w (fun ρ S w a hs hr => ?_) hk2
 have h1 : a.eval m = .map (some b) := by have := opv_rel hr m; rw [hm] at this; exact this
 have h2 : a.eval k = .int κ n := by have := opv_rel hr k; rw [hk] at this; exact this
 have h3 : a.eval x = val := by have := opv_rel hr x; rw [hx] at this; exact this
 have hb : w.heap[b]? = some (.map es c) := hs.ent i _ hi
 have hbl : b < w.heap.size := (Array.getElem?_eq_some_iff.1 hb).1
 have hc : (Instr.checkKey false 10000 kt (.int κ n)).run P w = .ok () w := MapKept.run_checkKey (k := .int κ n) hkt (by simp [MapKept.IsKey]) false 9999
 have hrun : (Instr.mapUpdate t (.map (some b)) (.int κ n) val).run P w = .ok () { w with heap := w.heap.setIfInBounds b (.map (es.push { key := .int κ n, val := val, born := c }) (c + 1)) } := by
  simp [Instr.mapUpdate, run_underlying ht, MapKept.run_getObj_map hb, hc, MapKept.run_findKey hkt hf, MapKept.run_setObj_map _ hb, Result.andThen]
 have hS := hs.setG (e' := .mp b (es.push { key := .int κ n, val := val, born := c }) (c + 1)) (c := b) (w' := { w with heap := w.heap.setIfInBounds b (.map (es.push { key := .int κ n, val := val, born := c }) (c + 1)) }) hi rfl (by simp) (fun j _ hne => by simp [Ne.symm hne]) rfl rfl rfl (fun _ hc => .inl (Option.some.inj hc).symm) (by show (w.heap.setIfInBounds b _)[b]? = _; simp [hbl])
 refine ⟨.skip, undef, ρ, _, ?_, .inr ⟨rfl, rfl⟩, hS.1, hS.2, trivial⟩
 unfold execOp
 simp only [ho, h1, h2, h3, Sem.run_bind, Sem.run_pure, hrun, Result.andThen_ok]
end Go.AX
namespace Go.AX
end Go.AX
namespace Go.AX
end Go.AX
namespace Go.AX
end Go.AX
namespace Go.AX
theorem EffW.appTo {P : Program} {o : Oper} {s : List AV} {H : List Ent} {K : AV → List Ent → Prop} {Ty T : TypeId} {x y : Operand} {sz n cap b q i : Nat} {xs ys : List Value} {inf : TypeInfo} (zs : List Value) (sz' : Nat) (ho : o.op = .store Ty x y)
  (hx : opv s x = .c (.v (.pointer (some ⟨b, q, none⟩)))) (hi : nthE H i = some (.app T sz xs (some ⟨b, 0, none⟩) n cap)) (hy : avCells (opv s y) = some (vs ys)) (hone : oneCs (vs ys) = true) (hinf : P.info? Ty = some inf) (hlen : ys.length = inf.size)
  (hq : q + ys.length ≤ n * sz) (hz : xs.take q ++ ys ++ xs.drop (q + ys.length) = zs) (hs : sz = sz') (hk : setEK H i (.app T sz' zs (some ⟨b, 0, none⟩) n cap) fun H' => K (.c .any) H') : EffW P o s H K := by
 subst hz; subst hs
 exact EffW.app ho hx hi hy hone hinf hlen hq hk
theorem put_set {xs : List Value} {q : Nat} (v : Value) (h : q < xs.length) : xs.take q ++ [v] ++ xs.drop (q + [v].length) = xs.set q v := by
 rw [List.set_eq_take_append_cons_drop, if_pos h]
 simp
theorem SpecH.args {P : Program} {f : FuncId} {args args' : List AV} {H : List Ent} {K : Out → List Ent → Prop} (e : args = args') (h : SpecH P f args' H K) : SpecH P f args H K := e ▸ h
theorem plains_vs : ∀ xs : List Value, plains (vs xs) = some xs
 | [] => rfl
 | _ :: xs => by simp [vs, plains, plains_vs xs]
end Go.AX
namespace Go.AX
theorem BlindW.val {P : Program} {o : Oper} {s : List AV} {K : AV → Prop} (x : Value) (hp : allPlain s o.op.operands.toList = true) (hrun : ∀ w, (execOp (plainEv s) o).run P w = .ok (.value x) w) (h : K (.c (.v x))) : ∃ x, BlindW P o s K x := ⟨x, hp, hrun, h⟩
theorem BlindW.sl_l {P : Program} {o : Oper} {s : List AV} {K : AV → Prop} {t : TypeId} {x y : Operand} {b : List UInt8} {k : IntKind} {i : Int} (n : Nat) (ho : o.op = .slice t x (some y) none none) (hu : P.underlying t = some .string) (hx : opv s x = .c (.v (.string (bs b)))) (hy : opv s y = .c (.v (.int k i)))
  (h : i = (n : Int) ∧ n ≤ b.length) (hk : K (.c (.v (.string (bs (b.drop n)))))) : ∃ x, BlindW P o s K x :=
 BlindW.val (.string (bs (b.drop n))) (by rw [ho]; show allPlain s [x, y] = true; simp [allPlain, hx, hy])
  (fun w => run_op_slice ho (by
   simp only [Option.map, plainEv_v hx, plainEv_v hy]
   rw [run_sliceAt_string w t _ _ _ _ hu, run_slice_string_l w t (bs b) hu k i (by omega) (by rw [bs_size]; omega), bs_size, show i.toNat = n by omega, bs_drop])) hk
theorem BlindW.tl {P : Program} {o : Oper} {s : List AV} {K : AV → Prop} {t : TypeId} {x y : Operand} {c : UInt8} {r : List UInt8} {k : IntKind} (ho : o.op = .slice t x (some y) none none) (hu : P.underlying t = some .string) (hx : opv s x = .c (.v (.string (bs (c :: r))))) (hy : opv s y = .c (.v (.int k 1)))
  (hk : K (.c (.v (.string (bs r))))) : ∃ x, BlindW P o s K x := BlindW.sl_l 1 ho hu hx hy ⟨rfl, by simp⟩ hk
theorem ReadW.tl {P : Program} {o : Oper} {s : List AV} {H : List Ent} {K : AV → Prop} {t : TypeId} {x y : Operand} {c : UInt8} {r : List UInt8} {k : IntKind} (ho : o.op = .slice t x (some y) none none) (hu : P.underlying t = some .string) (hx : opv s x = .c (.v (.string (bs (c :: r))))) (hy : opv s y = .c (.v (.int k 1)))
  (hk : K (.c (.v (.string (bs r))))) : ReadW P o s H K := ReadW.sl_l 1 ho hu hx hy ⟨rfl, by simp⟩ hk
end Go.AX
namespace Go.AX
end Go.AX
namespace Go.AX
theorem ReadC.load {P : Program} {C : World → Prop} {o : Oper} {s : List AV} {K : AV → Prop} {T : TypeId} {x : Operand} {p : Addr} (v : Value) (ho : o.op = .load T x) (hx : opv s x = .c (.v (.pointer (some p)))) (hF : ∀ w, C w → (loadVar T p).run P w = .ok v w) (hk : K (.c (.v v))) : ∃ x, ReadC P C o s K x :=
 ⟨v, fun cs b e => (by rw [ho] at e; cases e), by rw [ho]; show allPlain s [x] = true; simp [allPlain, hx], fun w hw => by
  have hx2 : plainEv s x = .pointer (some p) := by unfold plainEv; rw [hx]
  unfold execOp
  simp [ho, hx2, Instr.loadAt, Instr.sureAddr, hF w hw], hk⟩
theorem ReadC.one {P : Program} {C : World → Prop} {o : Oper} {s : List AV} {K : AV → Prop} {T : TypeId} {x : Operand} {a : Option Addr} {q k : Nat} {xs : List Value} (v : Value) (ho : o.op = .load T x) (hx : opv s x = .c (.v (.pointer (some (elemAddr a q))))) (hT : shapeT P T = some none)
  (hF : ∀ w, C w → SlAt a k xs w) (hv : xs[q]? = some v) (hk : K (.c (.v v))) : ∃ x, ReadC P C o s K x :=
 ReadC.load v ho hx (fun w hw => loadVar_cell hT ((hF w hw).cell hv)) hk
theorem ReadC.agg {P : Program} {C : World → Prop} {o : Oper} {s : List AV} {K : AV → Prop} {T : TypeId} {x : Operand} {a : Option Addr} {q n k : Nat} {xs : List Value} (ys : List Value) (ho : o.op = .load T x) (hx : opv s x = .c (.v (.pointer (some (elemAddr a q))))) (hT : shapeT P T = some (some n))
  (hF : ∀ w, C w → SlAt a k xs w) (hl : ys.length = n) (hv : ∀ j, j < n → xs[q + j]? = ys[j]?) (hk : K (.c (.v (.agg ys.toArray)))) : ∃ x, ReadC P C o s K x :=
 ReadC.load (.agg ys.toArray) ho hx (fun w hw => loadVar_cells hT hl fun j v hj => by
  have hjn : j < n := by rw [← hl]; exact (List.getElem?_eq_some_iff.1 hj).1
  rw [elemAddr, Addr.add_add]
  exact (hF w hw).cell ((hv j hjn).trans hj)) hk
theorem ReadC.nil {P : Program} {C : World → Prop} {o : Oper} {s : List AV} {K : AV → Prop} {x : Operand} {p : Addr} (ho : o.op = .nilCheck x) (hx : opv s x = .c (.v (.pointer (some p)))) (hk : K (.c (.v (.pointer (some p))))) : ∃ x, ReadC P C o s K x :=
 ⟨.pointer (some p), fun cs b e => (by rw [ho] at e; cases e), by rw [ho]; show allPlain s [x] = true; simp [allPlain, hx], fun w _ => by
  have hx2 : plainEv s x = .pointer (some p) := by unfold plainEv; rw [hx]
  unfold execOp
  simp [ho, hx2], hk⟩
end Go.AX
namespace Go.AX
def joinK {ι : Type} (inv : ι → Prop) (sl : ι → List AV) (hp : ι → List Ent) (K : Ex → List AV → List Ent → Prop) (e : Ex) (s' : List AV) (H' : List Ent) : Prop :=
 match e with
 | .normal => ∃ i, inv i ∧ wkS s' (sl i) ∧ wkH H' (hp i)
 | .exit n => K (.exit n) s' H'
 | .ret => K .ret s' H'
 | .pan c => K (.pan c) s' H'
inductive SeqN (ia ib : List AV → List Ent → (Ex → List AV → List Ent → Prop) → Prop) (s : List AV) (H : List Ent) (K : Ex → List AV → List Ent → Prop) : Prop where
 | plain (h : ia s H (seqK ib K))
 | join (ι : Type) (inv : ι → Prop) (sl : ι → List AV) (hp : ι → List Ent) (len : ∀ i, inv i → H.length ≤ (hp i).length) (oks : ∀ i, inv i → okSB (hp i).length (sl i) = true) (okh : ∀ i, inv i → okH (hp i).length (hp i))
   (h : ia s H (joinK inv sl hp K)) (next : ∀ i, inv i → forceS (sl i) fun s => forceH (hp i) fun H => ib s H K)
def execJ (P : Program) (c : Code) : List AV → List Ent → (Ex → List AV → List Ent → Prop) → Prop :=
 Code.rec (motive := fun _ => List AV → List Ent → (Ex → List AV → List Ent → Prop) → Prop)
  (fun s H K => K .normal s H)
  (fun _ ops draw s H K => regionK P ops draw s H K)
  (fun _ _ ia ib s H K => SeqN ia ib s H K)
  (fun c _ _ ia ib s H K => condK c s (fun s => ia s H K) (fun s => ib s H K))
  (fun id _ ib s H K => ib s H (blockK id K))
  (fun _ ib s H K => LoopN ib s H K)
  (fun _ _ _ _ _ _ _ _ _ => False)
  (fun id s H K => K (.exit id) s H)
  (fun _ _ _ _ _ => False)
  (fun _ s H K => K .normal s H)
  (fun _ _ _ _ => False)
  (fun s H K => K .ret s H)
  (fun _ _ _ _ => False)
  c
theorem execJ_sound {P : Program} (hm : P.follows .mixedOrders = true) : ∀ (c : Code) (s : List AV) (H : List Ent) (K : Ex → List AV → List Ent → Prop), execJ P c s H K →
  ∀ (ρ : List Loc) (S : Nat → Prop) (w : World) (a : Act), Sat ρ S H w → RelS ρ s a.tmps.toList → c.wp P (Post ρ S H w a.defers K) a w := by
 intro c
 induction c with
 | skip => intro s H K h ρ S w a hs hr; exact wp_skip ⟨ρ, S, s, H, .normal, hs, Ev.refl _ _ _ _, hr, rfl, trivial, h⟩
 | label l => intro s H K h ρ S w a hs hr; exact wp_label ⟨ρ, S, s, H, .normal, hs, Ev.refl _ _ _ _, hr, rfl, trivial, h⟩
 | exit id => intro s H K h ρ S w a hs hr; exact wp_exit ⟨ρ, S, s, H, .exit id, hs, Ev.refl _ _ _ _, hr, rfl, rfl, h⟩
 | ret => intro s H K h ρ S w a hs hr; exact wp_ret ⟨ρ, S, s, H, .ret, hs, Ev.refl _ _ _ _, hr, rfl, trivial, h⟩
 | goto l => intro s H K h; exact h.elim
 | refuse y => intro s H K h; exact h.elim
 | scope b ih => intro s H K h; exact h.elim
 | rangeFunc f ps _ b _ _ => intro s H K h; exact h.elim
 | region id ops draw =>
  intro s H K h0 ρ S w a hs hr
  have h : regionK P ops draw s H K := h0
  clear h0
  unfold regionK at h
  split at h
  ·exact wp_region_list (execOps_sound _ _ _ h ρ S w a hs hr)
  ·have h0 : Cls ρ S H w { w with drawn := w.drawn + 1 } := ⟨S, hs.heap rfl, Ev.drew _ _ _ _⟩
   rcases h with ⟨hB, h⟩ | ⟨pre, hd, tl, hB, h⟩ | ⟨pre, hd, tl, hB, h⟩ | ⟨C, pre, hd, tl, hB, hC, h⟩ | ⟨pre, t, n, hB, h⟩ | h
   ·refine wp_region_quiet (C := Cls ρ S H w) hm hB h0 ?_
    have hq := execQ_sound ⟨_, h0⟩ _ _ h a hr
    refine exec_sound.wpQuiet_mono (fun a' ⟨s', hK, hr', hd⟩ w' ⟨S', hs', hev⟩ => ?_) _ _ hq
    exact ⟨ρ, S', s', H, .normal, hs', hev, hr', hd, trivial, hK⟩
   ·exact plan_sound hm hB h hs hr
   ·exact planQ_sound hm hB h hs hr
   ·exact planC_sound hm hB hC h hs hr
   ·exact tree_sound hm hB h hs hr
   ·exact h _ ρ S w a hs hr
 | seq x y ihx ihy =>
  intro s H K h0 ρ S w a hs hr
  have h : SeqN (execJ P x) (execJ P y) s H K := h0
  have key : ∀ K2 : Ex → List AV → List Ent → Prop, execJ P x s H K2 → (∀ (e : Ex) (s1 : List AV) (H1 : List Ent) (ρ1 : List Loc) (S1 : Nat → Prop) (w1 : World) (a1 : Act), K2 e s1 H1 → Sat ρ1 S1 H1 w1 → Ev ρ S H w ρ1 S1 H1 w1 → relX e ρ1 s1 a1.tmps.toList → ∃ s2 H2 ρ2 S2, Sat ρ2 S2 H2 w1 ∧ Ev ρ S H w ρ2 S2 H2 w1 ∧ relX e ρ2 s2 a1.tmps.toList ∧ seqK (execJ P y) K e s2 H2) → (Code.seq x y).wp P (Post ρ S H w a.defers K) a w := by
   intro K2 h2 hk
   refine wp_seq (wp_mono (ihx s H K2 h2 ρ S w a hs hr) fun e a' w' hp => ?_)
   obtain ⟨ρ0, S0, s0, H0, ex, hs0, hev0, hr0, hd, hex, hK0⟩ := hp
   obtain ⟨s1, H1, ρ1, S1, hs1, hev, hr1, hK⟩ := hk ex s0 H0 ρ0 S0 w' a' hK0 hs0 hev0 hr0
   cases ex with
   | normal =>
    cases e <;> first | exact hex.elim | skip
    refine wp_mono (ihy s1 H1 K hK ρ1 S1 w' a' hs1 hr1) fun e2 a2 w2 hp2 => ?_
    rw [hd] at hp2
    exact hp2.from hev
   | exit n => cases e <;> first | exact hex.elim | exact ⟨ρ1, S1, s1, H1, .exit n, hs1, hev, hr1, hd, hex, hK⟩
   | ret => cases e <;> first | exact hex.elim | exact ⟨ρ1, S1, s1, H1, .ret, hs1, hev, hr1, hd, hex, hK⟩
   | pan n => cases e <;> first | exact hex.elim | exact ⟨ρ1, S1, s1, H1, .pan n, hs1, hev, hr1, hd, hex, hK⟩
  rcases h with h | ⟨ι, inv, sl, hp, hlen, hoks, hokh, h, hnext⟩
  ·exact key _ h fun e s1 H1 ρ1 S1 w1 a1 hK hs1 hev hr1 => ⟨s1, H1, ρ1, S1, hs1, hev, hr1, hK⟩
  ·simp only [forceS_eq, forceH_eq] at hnext
   refine key _ h fun e s1 H1 ρ1 S1 w1 a1 hK hs1 hev hr1 => ?_
   cases e with
   | normal =>
    obtain ⟨j, hij, hws, hwh⟩ := hK
    have hw := hs1.weak hwh (hokh j hij)
    refine ⟨sl j, hp j, ρ1.take (hp j).length, S1, hw.1, ⟨?_, hev.os, hev.tape, hev.output, hev.size, hev.keep, hev.imm, fun b hb => hev.own b (hw.2 b hb)⟩, wkS_rel hws (hoks j hij) hr1, hnext j hij⟩
    obtain ⟨t, ht⟩ := hev.pre
    refine ⟨t.take ((hp j).length - ρ.length), ?_⟩
    rw [ht, List.take_append, List.take_of_length_le (by rw [hs.len]; exact hlen j hij)]
   | exit n => exact ⟨s1, H1, ρ1, S1, hs1, hev, hr1, hK⟩
   | ret => exact ⟨s1, H1, ρ1, S1, hs1, hev, hr1, hK⟩
   | pan n => exact ⟨s1, H1, ρ1, S1, hs1, hev, hr1, hK⟩
 | cond c x y ihx ihy =>
  intro s H K h0 ρ S w a hs hr
  have h : condK c s (fun s => execJ P x s H K) (fun s => execJ P y s H K) := h0
  obtain ⟨b, hb, hc⟩ := condK_spec h hr
  refine wp_cond hb ?_
  rcases hc with ⟨rfl, s', hK, hr'⟩ | ⟨rfl, s', hK, hr'⟩
  ·exact ihx s' H K hK ρ S w a hs hr'
  ·exact ihy s' H K hK ρ S w a hs hr'
 | block id b ih =>
  intro s H K h ρ S w a hs hr
  refine wp_block (wp_mono (ih s H (blockK id K) h ρ S w a hs hr) fun e a' w' hp => ?_)
  obtain ⟨ρ1, S1, s1, H1, ex, hs1, hev, hr1, hd, hex, hK⟩ := hp
  cases ex with
  | normal => cases e <;> first | exact hex.elim | exact ⟨ρ1, S1, s1, H1, .normal, hs1, hev, hr1, hd, trivial, hK⟩
  | ret => cases e <;> first | exact hex.elim | exact ⟨ρ1, S1, s1, H1, .ret, hs1, hev, hr1, hd, trivial, hK⟩
  | pan n => cases e <;> first | exact hex.elim | exact ⟨ρ1, S1, s1, H1, .pan n, hs1, hev, hr1, hd, hex, hK⟩
  | exit n =>
   cases e <;> first | exact hex.elim | skip
   rename_i m
   have hnm : n = m := hex
   subst hnm
   by_cases hid : n = id
   ·subst hid
    simp only [Exit.inBlock, if_true]
    have hK' : K .normal s1 H1 := by simpa [blockK] using hK
    exact ⟨ρ1, S1, s1, H1, .normal, hs1, hev, hr1, hd, trivial, hK'⟩
   ·simp only [Exit.inBlock, if_neg hid]
    have hbq : Nat.beq n id = false := by cases hq : Nat.beq n id with | false => rfl | true => exact absurd (Nat.eq_of_beq_eq_true hq) hid
    have hK' : K (.exit n) s1 H1 := by simpa [blockK, hbq] using hK
    exact ⟨ρ1, S1, s1, H1, .exit n, hs1, hev, hr1, hd, rfl, hK'⟩
 | loop b ih =>
  intro s H K h0 ρ S w a hs hr
  have h : LoopN (execJ P b) s H K := h0
  rcases h with ⟨ι, inv, sl, hp, μ, pad, hpad, hlen, hoks, hokh, ⟨i0, hi0, hst, hsh⟩, hround⟩ | ⟨n, hU⟩ | ⟨ι, inv, sl, hp, μ, pad, hpad, hlen, hoks, hokh, ⟨i0, hi0, hst, hsh⟩, hround⟩
  ·obtain ⟨t0, hs0, hev0⟩ := Sat.pad pad hpad hs
   have hr0 := RelS_pre t0 hr
   refine wp_mono (P := P) (c := .loop b) (Q := Post (ρ ++ t0) S (H ++ pad) w a.defers K) ?_ fun e a' w' hp => hp.from hev0
   clear hs hr h0
   have hs := hs0
   have hr := hr0
   clear hs0 hr0
   generalize ρ ++ t0 = ρ at *
   generalize H ++ pad = H at *
   simp only [forceS_eq, forceH_eq] at hround
   refine wp_loop_by (fun n a' w' => ∃ i ρ' S', inv i ∧ μ i = n ∧ Sat ρ' S' (hp i) w' ∧ Ev ρ S H w ρ' S' (hp i) w' ∧ RelS ρ' (sl i) a'.tmps.toList ∧ a'.defers = a.defers) ?_ (μ i0) a w ?_
   ·rintro n a' w' ⟨i, ρ', S', hinv, rfl, hs', hev, hr', hd⟩
    refine wp_mono (ih (sl i) (hp i) _ (hround i hinv) ρ' S' w' a' hs' hr') fun e a2 w2 hq => ?_
    obtain ⟨ρ2, S2, s2, H2, ex, hs2, hev2, hr2, hd2, hex, hK⟩ := hq
    cases ex with
    | normal =>
     cases e <;> first | exact hex.elim | skip
     obtain ⟨j, hij, hj, hws, hwh⟩ := hK
     have hw := hs2.weak hwh (by rw [hlen]; exact hokh j hij)
     refine ⟨μ j, hj, j, ρ2.take (hp j).length, S2, hij, rfl, hw.1, ?_, ?_, hd2.trans hd⟩
     ·have h12 := hev.trans hev2
      refine ⟨?_, h12.os, h12.tape, h12.output, h12.size, h12.keep, h12.imm, fun b hb => h12.own b (hw.2 b hb)⟩
      obtain ⟨t, ht⟩ := h12.pre
      refine ⟨t.take ((hp j).length - ρ.length), ?_⟩
      rw [ht, List.take_append, List.take_of_length_le (by rw [hs.len, hlen]; omega)]
     ·rw [hlen]; exact wkS_rel hws (hoks j) hr2
    | exit n => cases e <;> first | exact hex.elim | exact ⟨ρ2, S2, s2, H2, .exit n, hs2, hev.trans hev2, hr2, hd2.trans hd, hex, hK⟩
    | ret => cases e <;> first | exact hex.elim | exact ⟨ρ2, S2, s2, H2, .ret, hs2, hev.trans hev2, hr2, hd2.trans hd, trivial, hK⟩
    | pan n => cases e <;> first | exact hex.elim | exact ⟨ρ2, S2, s2, H2, .pan n, hs2, hev.trans hev2, hr2, hd2.trans hd, hex, hK⟩
   ·have hw := hs.weak hsh (by rw [hlen]; exact hokh i0 hi0)
    have hρ : ρ.take (hp i0).length = ρ := List.take_of_length_le (by rw [hs.len, hlen]; omega)
    rw [hρ] at hw
    refine ⟨i0, ρ, S, hi0, rfl, hw.1, ⟨⟨[], by simp⟩, rfl, rfl, rfl, Nat.le_refl _, fun _ _ _ => rfl, fun b hb => .inl hb, fun b hb => .inl (hw.2 b hb)⟩, ?_, rfl⟩
    have := wkS_rel hst (hoks i0) hr
    rw [← hlen i0, hρ] at this
    exact this
  ·refine wp_loop_by (fun n a' w' => ∃ s' H' ρ' S', LoopU (execJ P b) K n s' H' ∧ Sat ρ' S' H' w' ∧ Ev ρ S H w ρ' S' H' w' ∧ RelS ρ' s' a'.tmps.toList ∧ a'.defers = a.defers) ?_ n a w ⟨s, H, ρ, S, hU, hs, Ev.refl _ _ _ _, hr, rfl⟩
   rintro n a' w' ⟨s', H', ρ', S', hU, hs', hev, hr', hd⟩
   cases n with
   | zero => exact hU.elim
   | succ n =>
    refine wp_mono (ih s' H' _ hU ρ' S' w' a' hs' hr') fun e a2 w2 hq => ?_
    obtain ⟨ρ2, S2, s2, H2, ex, hs2, hev2, hr2, hd2, hex, hK⟩ := hq
    cases ex with
    | normal =>
     cases e <;> first | exact hex.elim | skip
     exact ⟨n, Nat.lt_succ_self n, s2, H2, ρ2, S2, hK, hs2, hev.trans hev2, hr2, hd2.trans hd⟩
    | exit n => cases e <;> first | exact hex.elim | exact ⟨ρ2, S2, s2, H2, .exit n, hs2, hev.trans hev2, hr2, hd2.trans hd, hex, hK⟩
    | ret => cases e <;> first | exact hex.elim | exact ⟨ρ2, S2, s2, H2, .ret, hs2, hev.trans hev2, hr2, hd2.trans hd, trivial, hK⟩
    | pan n => cases e <;> first | exact hex.elim | exact ⟨ρ2, S2, s2, H2, .pan n, hs2, hev.trans hev2, hr2, hd2.trans hd, hex, hK⟩
  ·obtain ⟨t0, hs0, hev0⟩ := Sat.pad pad hpad hs
   have hr0 := RelS_pre t0 hr
   refine wp_mono (P := P) (c := .loop b) (Q := Post (ρ ++ t0) S (H ++ pad) w a.defers K) ?_ fun e a' w' hp => hp.from hev0
   clear hs hr h0
   have hs := hs0
   have hr := hr0
   clear hs0 hr0
   generalize ρ ++ t0 = ρ at *
   generalize H ++ pad = H at *
   simp only [forceS_eq, forceH_eq] at hround
   refine wp_loop_by (fun n a' w' => ∃ i ρ' S', inv i ∧ μ i = n ∧ Sat ρ' S' (hp i) w' ∧ Ev ρ S H w ρ' S' (hp i) w' ∧ RelS ρ' (sl i) a'.tmps.toList ∧ a'.defers = a.defers) ?_ (μ i0) a w ?_
   ·rintro n a' w' ⟨i, ρ', S', hinv, rfl, hs', hev, hr', hd⟩
    refine wp_mono (ih (sl i) (hp i) _ (hround i hinv) ρ' S' w' a' hs' hr') fun e a2 w2 hq => ?_
    obtain ⟨ρ2, S2, s2, H2, ex, hs2, hev2, hr2, hd2, hex, hK⟩ := hq
    cases ex with
    | normal =>
     cases e <;> first | exact hex.elim | skip
     obtain ⟨j, hij, hj, hws, G, hT, hwh⟩ := hK
     obtain ⟨S3, hs3, hev3⟩ := hT.2 _ _ _ hs2
     have hw := hs3.weak hwh (by rw [hlen]; exact hokh j hij)
     refine ⟨μ j, hj, j, ρ2.take (hp j).length, S3, hij, rfl, hw.1, ?_, ?_, hd2.trans hd⟩
     ·have h12 := (hev.trans hev2).trans hev3
      refine ⟨?_, h12.os, h12.tape, h12.output, h12.size, h12.keep, h12.imm, fun b hb => h12.own b (hw.2 b hb)⟩
      obtain ⟨t, ht⟩ := h12.pre
      refine ⟨t.take ((hp j).length - ρ.length), ?_⟩
      rw [ht, List.take_append, List.take_of_length_le (by rw [hs.len, hlen]; omega)]
     ·rw [hlen]; exact wkS_rel hws (hoks j) hr2
    | exit n => cases e <;> first | exact hex.elim | exact ⟨ρ2, S2, s2, H2, .exit n, hs2, hev.trans hev2, hr2, hd2.trans hd, hex, hK⟩
    | ret => cases e <;> first | exact hex.elim | exact ⟨ρ2, S2, s2, H2, .ret, hs2, hev.trans hev2, hr2, hd2.trans hd, trivial, hK⟩
    | pan n => cases e <;> first | exact hex.elim | exact ⟨ρ2, S2, s2, H2, .pan n, hs2, hev.trans hev2, hr2, hd2.trans hd, hex, hK⟩
   ·obtain ⟨G, hT, hsh⟩ := hsh
    obtain ⟨S3, hs3, hev3⟩ := hT.2 _ _ _ hs
    have hw := hs3.weak hsh (by rw [hlen]; exact hokh i0 hi0)
    have hρ : ρ.take (hp i0).length = ρ := List.take_of_length_le (by rw [hs.len, hlen]; omega)
    rw [hρ] at hw
    refine ⟨i0, ρ, S3, hi0, rfl, hw.1, ⟨⟨[], by simp⟩, hev3.os, hev3.tape, hev3.output, hev3.size, hev3.keep, hev3.imm, fun b hb => hev3.own b (hw.2 b hb)⟩, ?_, rfl⟩
    have := wkS_rel hst (hoks i0) hr
    rw [← hlen i0, hρ] at this
    exact this
theorem specJ_of_exec {P : Program} (hm : P.follows .mixedOrders = true) {f : FuncId} {fn : Func} {c : Code} (hf : P.funcs[f]? = some fn) (hn : (fn.name == "runtime.NumGoroutine") = false) (hb : fn.body = some c)
  {args : List AV} (hl : Nat.ble args.length fn.ntmps = true) {H : List Ent} {K : Out → List Ent → Prop} (h : initK fn.ntmps args fun s => execJ P c s H (endK P fn.results.toList K)) : SpecH P f args H K := by
 refine ⟨⟨fn, hf, hn, by rw [hb]; rfl⟩, fun ρ S w vs hs hr => ?_⟩
 have hvl := RelS_len hr
 obtain ⟨s0, h, hs0⟩ := initK_rel h (Nat.le_of_ble_eq_true hl)
 have hinit : RelS ρ s0 (vs.toArray ++ Array.replicate (fn.ntmps - vs.toArray.size) undef).toList := by
  have := hs0 ρ vs hr
  simpa [hvl] using this
 refine calls_of_wp hf hb (wp_mono (execJ_sound hm c _ H _ h ρ S w ⟨_, []⟩ hs hinit) ?_)
 ·intro e a w' hp
  obtain ⟨ρ1, S1, s1, H1, ex, hs1, hev, hr1, hd, hex, hK⟩ := hp
  have fin : RelS ρ1 s1 a.tmps.toList → ∀ {K' : Out → Prop}, resK P fn.results.toList s1 H1 K' → (∀ out, K' out → K out H1) → ∃ v, (results fn a.tmps).run P w' = .ok v w' ∧
    ∃ ρ' S' H' out, Sat ρ' S' H' w' ∧ Ev ρ S H w ρ' S' H' w' ∧ OutOk ρ' out (.returned v) ∧ K out H' := fun hr2 {_} hK1 hK2 => by
   obtain ⟨out, hK3, hres⟩ := resK_sound hK1
   obtain ⟨v, hrun, hv⟩ := hres ρ1 S1 w' a.tmps hs1 hr2
   exact ⟨v, hrun, ρ1, S1, H1, out, hs1, hev, hv, hK2 out hK3⟩
  cases ex with
  | normal =>
   cases e <;> first | exact hex.elim | skip
   obtain ⟨v, hrun, hR⟩ := fin hr1 (K' := fun out => K out H1) hK fun _ h => h
   exact ⟨hd, v, hrun, hR⟩
  | ret =>
   cases e <;> first | exact hex.elim | skip
   obtain ⟨v, hrun, hR⟩ := fin hr1 (K' := fun out => K out H1) hK fun _ h => h
   exact ⟨hd, v, hrun, hR⟩
  | exit n => exact hK.elim
  | pan ch =>
   cases e <;> first | exact hex.elim | skip
   have : ch = _ := hex
   subst this
   exact ⟨hd, ρ1, S1, H1, .pan ch, hs1, hev, rfl, hK⟩
end Go.AX
namespace Go.AX
open Go.RowKit
end Go.AX
namespace Go.Proofs.YtgogonnnojcioaaGreatDoor
open Go.AX Go.RowKit
set_option maxRecDepth 20000
end Go.Proofs.YtgogonnnojcioaaGreatDoor
namespace Go.Scan
def sml (c : UInt8) : Bool := (decide (97 ≤ c.toNat) && decide (c.toNat ≤ 122)) || decide (c.toNat = 95)
def grt (c : UInt8) : Bool := decide (65 ≤ c.toNat) && decide (c.toNat ≤ 90)
def dig (c : UInt8) : Bool := decide (48 ≤ c.toNat) && decide (c.toNat ≤ 57)
def ltr (c : UInt8) : Bool := sml c || grt c
def wrd (c : UInt8) : Bool := ltr c || dig c
end Go.Scan
namespace Go.Proofs.YtgogonnnojcioaaGreatDoor
open Go.AX Go.RowKit Go.Scan
set_option maxRecDepth 20000
theorem ret_b {a b : Bool} (h : a = true ↔ b = true) : Out.val (.c (.v (.bool a))) = Out.val (.c (.v (.bool b))) := by rw [Bool.eq_iff_iff.2 h]
theorem sml_c (c : UInt8) : ∀ H, SpecH Tryz.prog 132 (pvs [.int .u8 (c.toNat : Int)]) H (Ret (.bool (sml c)) H) := by
 refine pureC hm Tryz.func132 (by kernel_rfl) rfl rfl ?_
 refine wX ?_
 (repeat' (first | (refine brd_dec (fun _ => ?_) (fun _ => ?_)) | (refine brd_eq (fun _ => ?_) (fun _ => ?_))))
 all_goals (first | refine wX ?_ | exact wZ)
 (repeat' (first | (refine brd_dec (fun _ => ?_) (fun _ => ?_)) | (refine brd_eq (fun _ => ?_) (fun _ => ?_))))
 all_goals (first | refine wX ?_ | exact wZ)
 (repeat' (first | (refine brd_dec (fun _ => ?_) (fun _ => ?_)) | (refine brd_eq (fun _ => ?_) (fun _ => ?_))))
 all_goals (first | refine wX ?_ | exact wZ)
 all_goals
  refine ret_b ?_
  simp [sml]
  try omega
theorem dig_c (c : UInt8) : ∀ H, SpecH Tryz.prog 153 (pvs [.int .u8 (c.toNat : Int)]) H (Ret (.bool (dig c)) H) := by
 refine pureC hm Tryz.func153 (by kernel_rfl) rfl rfl ?_
 refine wX ?_
 (repeat' (first | (refine brd_dec (fun _ => ?_) (fun _ => ?_)) | (refine brd_eq (fun _ => ?_) (fun _ => ?_))))
 all_goals (first | refine wX ?_ | exact wZ)
 (repeat' (first | (refine brd_dec (fun _ => ?_) (fun _ => ?_)) | (refine brd_eq (fun _ => ?_) (fun _ => ?_))))
 all_goals (first | refine wX ?_ | exact wZ)
 (repeat' (first | (refine brd_dec (fun _ => ?_) (fun _ => ?_)) | (refine brd_eq (fun _ => ?_) (fun _ => ?_))))
 all_goals (first | refine wX ?_ | exact wZ)
 all_goals
  refine ret_b ?_
  simp [dig]
  try omega
theorem ltr_c (c : UInt8) : ∀ H, SpecH Tryz.prog 176 (pvs [.int .u8 (c.toNat : Int)]) H (Ret (.bool (ltr c)) H) := by
 refine pureC hm Tryz.func176 (by kernel_rfl) rfl rfl ?_
 refine wX ?_
 refine call1 (sml_c c _) ?_
 cases h : sml c with
 | true =>
  refine wX ?_
  exact ret_b (by simp [ltr, h])
 | false =>
  refine wX ?_
  (repeat' (first | (refine brd_dec (fun _ => ?_) (fun _ => ?_)) | (refine brd_eq (fun _ => ?_) (fun _ => ?_))))
  all_goals (first | refine wX ?_ | exact wZ)
  (repeat' (first | (refine brd_dec (fun _ => ?_) (fun _ => ?_)) | (refine brd_eq (fun _ => ?_) (fun _ => ?_))))
  all_goals (first | refine wX ?_ | exact wZ)
  all_goals
   refine ret_b ?_
   simp [ltr, h, grt]
   try omega
theorem wrd_c (c : UInt8) : ∀ H, SpecH Tryz.prog 152 (pvs [.int .u8 (c.toNat : Int)]) H (Ret (.bool (wrd c)) H) := by
 refine pureC hm Tryz.func152 (by kernel_rfl) rfl rfl ?_
 refine wX ?_
 refine call1 (ltr_c c _) ?_
 cases h : ltr c with
 | true =>
  refine wX ?_
  exact ret_b (by simp [wrd, h])
 | false =>
  refine wX ?_
  refine call1 (dig_c c _) ?_
  refine wX ?_
  exact ret_b (by simp [wrd, h])
end Go.Proofs.YtgogonnnojcioaaGreatDoor
namespace Go.Scan
set_option maxRecDepth 20000
def hd (s : List UInt8) : UInt8 := s.headD 0
def iwB (s : List UInt8) : Bool := s.all wrd && !s.isEmpty && decide (s.length ≤ 40) && !dig (hd s)
def icB (s : List UInt8) : Bool := iwB s && !sml (hd s)
def iiB (s : List UInt8) : Bool := decide (1 < s.length) && hd s == 64 && iwB s.tail && sml (hd s.tail) && decide (s.length ≤ 40)
theorem sml_wrd {c : UInt8} (h : sml c = true) : wrd c = true ∧ ltr c = true ∧ dig c = false ∧ grt c = false := by
 simp [sml] at h
 refine ⟨?_, ?_, ?_, ?_⟩ <;> simp [wrd, ltr, sml, dig, grt] <;> omega
theorem grt_iff (c : UInt8) : (wrd c = true ∧ dig c = false ∧ sml c = false) ↔ grt c = true := by
 simp [wrd, ltr, sml, dig, grt]
 omega
theorem grt_ltr {c : UInt8} (h : grt c = true) : ltr c = true := by simp [ltr, h]
end Go.Scan
namespace Go.Core
open Go.Scan
def wordD (s : List UInt8) (great : Bool) : Bool := !s.isEmpty && decide (s.length ≤ 40) && ltr (hd s) && (grt (hd s) == great) && s.tail.all fun c => ltr c || dig c
def constD (s : List UInt8) : Bool := wordD s true
def ivarD (s : List UInt8) : Bool := decide (s.length ≤ 40) && decide (1 < s.length) && hd s == 64 && wordD s.tail false
theorem wordD_true (s : List UInt8) : wordD s true = icB s := by
 cases s with
 | nil => rfl
 | cons c r =>
  have h := grt_iff c
  unfold wordD icB iwB hd
  rw [Bool.eq_iff_iff]
  simp only [List.isEmpty_cons, Bool.not_false, Bool.true_and, List.headD_cons, List.tail_cons, Bool.and_eq_true, Bool.not_eq_true', beq_iff_eq, decide_eq_true_eq, List.all_cons, Bool.and_true]
  have e : (r.all fun c => ltr c || dig c) = r.all wrd := rfl
  rw [e]
  constructor
  ·rintro ⟨⟨⟨h1, h2⟩, h3⟩, h4⟩
   obtain ⟨a1, a2, a3⟩ := h.2 h3
   exact ⟨⟨⟨⟨a1, h4⟩, h1⟩, a2⟩, a3⟩
  ·rintro ⟨⟨⟨⟨h1, h2⟩, h3⟩, h4⟩, h5⟩
   have h6 := h.1 ⟨h1, h4, h5⟩
   exact ⟨⟨⟨h3, grt_ltr h6⟩, h6⟩, h2⟩
theorem wordD_false (s : List UInt8) : wordD s false = (iwB s && sml (hd s)) := by
 cases s with
 | nil => rfl
 | cons c r =>
  unfold wordD iwB hd
  rw [Bool.eq_iff_iff]
  simp only [List.isEmpty_cons, Bool.not_false, Bool.true_and, List.headD_cons, List.tail_cons, Bool.and_eq_true, Bool.not_eq_true', beq_iff_eq, decide_eq_true_eq, List.all_cons, Bool.and_true]
  have e : (r.all fun c => ltr c || dig c) = r.all wrd := rfl
  rw [e]
  constructor
  ·rintro ⟨⟨⟨h1, h2⟩, h3⟩, h4⟩
   have h5 : sml c = true := by
    unfold ltr at h2
    rw [h3, Bool.or_false] at h2
    exact h2
   obtain ⟨a1, a2, a3, a4⟩ := sml_wrd h5
   exact ⟨⟨⟨⟨a1, h4⟩, h1⟩, a3⟩, h5⟩
  ·rintro ⟨⟨⟨⟨h1, h2⟩, h3⟩, h4⟩, h5⟩
   obtain ⟨a1, a2, a3, a4⟩ := sml_wrd h5
   exact ⟨⟨⟨h3, a2⟩, a4⟩, h2⟩
theorem constD_eq (s : List UInt8) : constD s = icB s := wordD_true s
theorem ivarD_eq (s : List UInt8) : ivarD s = iiB s := by
 unfold ivarD iiB
 rw [wordD_false]
 generalize decide (s.length ≤ 40) = a
 generalize decide (1 < s.length) = b
 cases a <;> cases b <;> cases (hd s == 64) <;> cases iwB s.tail <;> cases sml (hd s.tail) <;> rfl
def maxI : Int := 1000000000000000
def rangeB (n : Nat) (c : Cell) : Bool := c.items.all fun i => decide (0 ≤ i) && decide (i < (n : Int))
def plainS (c : Cell) : Bool :=
 (decide (0 ≤ c.kind) && decide (c.kind ≤ 8)) && (if c.kind = 4 then decide (c.text.length ≤ 2000) else if c.kind = 5 then decide (c.text.length ≤ 40) else if c.kind = 8 then icB c.text else decide (c.text = [])) &&
  (decide (c.kind = 3) || decide (c.num = 0)) && (decide (-maxI ≤ c.num) && decide (c.num ≤ maxI)) &&
  (if c.kind ≤ 5 then decide (c.items = []) && decide (c.names = []) else if c.kind ≠ 8 then decide (c.names = []) && (decide (c.kind = 6) || decide (c.items.length % 2 = 0)) else
   decide (c.names.length = c.items.length) && decide c.names.Nodup && c.names.all iiB)
def cellD (n : Nat) (c : Cell) : Bool :=
 rangeB n c && !(decide (c.kind < 0) || decide (8 < c.kind) || decide (c.kind ≤ 5) && !decide (c.items = []) || !decide (c.kind = 8) && !decide (c.names = []) || !decide (c.kind = 3) && !decide (c.num = 0)) &&
  (if c.kind = 3 then decide (c.text = []) && decide (-maxI ≤ c.num) && decide (c.num ≤ maxI) else if c.kind = 4 then decide (c.text.length ≤ 2000) else if c.kind = 5 then decide (c.text.length ≤ 40) else
   if c.kind = 7 then decide (c.text = []) && decide (c.items.length % 2 = 0) else if c.kind = 8 then constD c.text && decide (c.names.length = c.items.length) && ((List.range c.names.length).all fun i => ivarD (c.names.getD i []) && !decide (c.names.getD i [] ∈ c.names.take i))
   else decide (c.text = []))
theorem names_iff (l : List (List UInt8)) : ((List.range l.length).all fun i => ivarD (l.getD i []) && !decide (l.getD i [] ∈ l.take i)) = (decide l.Nodup && l.all iiB) := by
 rw [Bool.eq_iff_iff]
 simp only [List.all_eq_true, List.mem_range, Bool.and_eq_true, Bool.not_eq_true', decide_eq_false_iff_not, decide_eq_true_eq]
 constructor
 ·intro h
  refine ⟨List.pairwise_iff_getElem.2 fun i j hi hj hij he => ?_, fun x hx => ?_⟩
  ·have h1 := (h j hj).2
   rw [List.getD_eq_getElem?_getD, List.getElem?_eq_getElem hj] at h1
   refine h1 (List.mem_of_getElem? (i := i) ?_)
   rw [List.getElem?_take_of_lt hij, List.getElem?_eq_getElem hi, he]
   rfl
  ·obtain ⟨i, hi⟩ := List.getElem?_of_mem hx
   have h1 := (h i (List.getElem?_eq_some_iff.1 hi).1).1
   rw [List.getD_eq_getElem?_getD, hi, ivarD_eq] at h1
   exact h1
 ·rintro ⟨h1, h2⟩ i hi
  have e : l.getD i [] = l[i] := by rw [List.getD_eq_getElem?_getD, List.getElem?_eq_getElem hi]; rfl
  refine ⟨by rw [e, ivarD_eq]; exact h2 _ (List.getElem_mem _), fun hm => ?_⟩
  rw [e] at hm
  obtain ⟨j, hj⟩ := List.getElem?_of_mem hm
  have hji : j < i := by
   have := (List.getElem?_eq_some_iff.1 hj).1
   rw [List.length_take] at this
   omega
  rw [List.getElem?_take_of_lt hji] at hj
  rw [List.getElem?_eq_getElem (by omega)] at hj
  exact List.pairwise_iff_getElem.1 h1 j i (by omega) hi hji (Option.some.inj hj)
theorem cell_eq (n : Nat) (c : Cell) : (plainS c && rangeB n c) = cellD n c := by
 unfold plainS cellD
 rw [names_iff, constD_eq]
 cases rangeB n c with
 | false => simp
 | true =>
  rw [Bool.and_true, Bool.true_and]
  have hb : c.num = 0 → -maxI ≤ c.num ∧ c.num ≤ maxI := fun h => by rw [h]; decide
  by_cases h0 : 0 ≤ c.kind ∧ c.kind ≤ 8
  ·have : c.kind = 0 ∨ c.kind = 1 ∨ c.kind = 2 ∨ c.kind = 3 ∨ c.kind = 4 ∨ c.kind = 5 ∨ c.kind = 6 ∨ c.kind = 7 ∨ c.kind = 8 := by omega
   rw [Bool.eq_iff_iff]
   rcases this with h | h | h | h | h | h | h | h | h <;> rw [h] <;> simp <;> first | (constructor <;> intro hx <;> simp_all <;> done) | skip
  ·rw [Bool.eq_iff_iff]
   have : c.kind < 0 ∨ 8 < c.kind := by omega
   rcases this with h | h <;> simp [h] <;> omega
end Go.Core
namespace Go.AX
theorem ReadC.idx {P : Program} {C : World → Prop} {o : Oper} {s : List AV} {K : AV → Prop} {T e : TypeId} {inf : TypeInfo} {x i : Operand} {b n cap sz : Nat} {kk : IntKind} (k : Nat) (ho : o.op = .indexAddr T x i) (hu : P.underlying T = some (.slice e)) (hi : P.info? e = some inf) (hsz : inf.size = sz)
  (hx : opv s x = .c (.v (.slice (some ⟨b, 0, none⟩) n cap))) (hy : opv s i = .c (.v (.int kk (k : Int)))) (hk : k < n) (next : K (.c (.v (.pointer (some ⟨b, k * sz, none⟩))))) : ∃ x, ReadC P C o s K x :=
 ⟨.pointer (some ⟨b, k * sz, none⟩), fun cs b e => (by rw [ho] at e; cases e), by rw [ho]; show allPlain s [x, i] = true; simp [allPlain, hx, hy], fun w _ => by
  have hx2 : plainEv s x = .slice (some ⟨b, 0, none⟩) n cap := by unfold plainEv; rw [hx]
  have hy2 : plainEv s i = .int kk (k : Int) := by unfold plainEv; rw [hy]
  have h := run_indexAt (P := P) hu hi w ⟨b, 0, none⟩ n cap kk (k : Int) ⟨by omega, by omega⟩
  rw [Int.toNat_natCast, hsz, add_lit0] at h
  exact execOp_indexAddr ho (by rw [hx2, hy2]; exact h), next⟩
end Go.AX
namespace Go.AX
def hasN : List Nat → Nat → Bool
 | [], _ => false
 | x :: l, n => match Nat.beq x n with | true => true | false => hasN l n
def ownD (D : MkD) (H : List Ent) (Kv : AV → List Ent → Prop) : Prop := snocK H D.ent 0 fun H' n => Kv (D.av n) H'
def knwD (D : MkD) (H : List Ent) (Kv : AV → List Ent → Prop) : Prop :=
 match D with
 | ⟨val, _, _, cap, ent, _⟩ => match ent with
  | .row e sz n cs => match plains cs with
   | some xs => ∀ b : Nat, snocK H (.app e sz xs (some ⟨b, 0, none⟩) n cap) 0 fun H' _ => Kv (.c (.v (val b))) H'
   | none => False
  | _ => False
def stepR (P : Program) (C : World → Prop) (kn : Bool) (o : Oper) (s : List AV) (H : List Ent) (how : Nat) (Kv : AV → List Ent → Prop) (Kp : List PanicEntry → List Ent → Prop) : Prop :=
 match how with
 | 0 => stepK P o s H fun out H' => match out with
  | .val av => Nd (∀ w, Facts H' w → C w) (Kv av H')
  | .vals _ => False
  | .pan c => Kp c H'
 | 1 => match o.op with
  | .load _ _ => ∃ x, ReadC P C o s (fun av => Kv av H) x
  | .indexAddr _ _ _ => ∃ x, ReadC P C o s (fun av => Kv av H) x
  | _ => blindK P o s fun av => Kv av H
 | _ + 2 => match mkD P o with
  | some D => match kn with
   | false => ownD D H fun av H' => Nd (∀ w, Facts H' w → C w) (Kv av H')
   | true => knwD D H fun av H' => Nd (∀ w, Facts H' w → C w) (Kv av H')
  | none => False
def execR (P : Program) (C : World → Prop) (kn : List Nat) (ops : Array Oper) (l : List (Nat × Nat)) : List AV → List Ent → (Ex → List AV → List Ent → Prop) → Prop :=
 List.rec (motive := fun _ => List AV → List Ent → (Ex → List AV → List Ent → Prop) → Prop)
  (fun s H K => K .normal s H)
  (fun kb _ ih s H K => pickK ops kb.1 fun o => wantK ops o s (fun s => stepR P C (hasN kn kb.1) o s H kb.2 (fun av H' => putK s o.dst av fun s' => ih s' H' K) (fun c H' => K (.pan c) s H'))
   (fun s => putK s o.dst (.c (.v undef)) fun s' => ih s' H K)) l
def planRB (P : Program) (md : Region.Mode) (ops : Array Oper) (pre : List Nat) (tl : List (Nat × Nat)) : Bool :=
 (((((((((Region.noSelect ops && decide (pre.length + tl.length = ops.size)) && ((List.range ops.size).all fun i => pre.contains i || (tl.map Prod.fst).contains i)) && disj pre (tl.map Prod.fst)) && disj (wraps tl) (floats tl)) && decide (floats tl).Nodup) &&
  (floats tl).all (floatB P md ops)) && (floats tl).all (Region.free md ops (setAll (Array.replicate ops.size false) pre))) && preB md ops pre (Array.replicate ops.size false)) &&
  tlB md ops tl (floats tl) (setAll (Array.replicate ops.size false) pre))
structure MkK (D : MkD) (b : Nat) (en : Ent) : Prop where
 ent : ∀ (ρ : List Loc) (S : Nat → Prop) (w : World) (i : Nat), ρ[i]? = some ⟨b, D.cap⟩ → w.heap[b]? = some (.cells D.cells D.T (0, 0)) → EntOk ρ S w i en
 entb : ∀ (ρ : List Loc) (i : Nat), ρ[i]? = some ⟨b, D.cap⟩ → entB ρ i en = fun c => some b = some c
section
variable {P : Program} {ops : Array Oper} {C : World → Prop} {kn : List Nat}
theorem MkOk.mk1 {o : Oper} {D : MkD} (h : MkOk P o D) (b : Nat) : MkK D b D.ent :=
 ⟨fun ρ S w i h1 h2 => h.ent ρ S w i b h1 h2, fun ρ i h1 => by rw [h.entb, h1]; rfl⟩
theorem rel_plains {ρ : List Loc} : ∀ {cs : List CV} {xs ys : List Value}, plains cs = some xs → RelL ρ cs ys → ys = xs
 | _, _, _, h, hr => plains_rel h hr
theorem MkOk.mk2 {o : Oper} {D : MkD} (h : MkOk P o D) (b : Nat) {e : TypeId} {sz n : Nat} {cs : List CV} {xs : List Value} (he : D.ent = .row e sz n cs) (hx : plains cs = some xs) : MkK D b (.app e sz xs (some ⟨b, 0, none⟩) n D.cap) :=
 ⟨fun ρ S w i h1 h2 => by
  have h3 := h.ent ρ S w i b h1 h2
  rw [he] at h3
  obtain ⟨l, arr, hl, hb, hc, hn, hm, hz, hr⟩ := h3
  rw [h1] at hl; cases hl
  have hxs := rel_plains hx hr
  exact .inr ⟨b, rfl, arr, (0, 0), ⟨hb, .inl rfl⟩, by rw [← hxs]; rw [← RelL_len hr, hc], hn, hm, hz, hxs⟩, fun ρ i h1 => rfl⟩
theorem known2 {ρ0 ρ : List Loc} {S0 S : Nat → Prop} {H0 H : List Ent} {w0 w : World} {e : Fl} {en : Ent} (hs : Sat ρ S H w) (hev : Ev ρ0 S0 H0 w0 ρ S H w) (he : Hid P ops ρ S H w w0.heap.size e) {D : MkD} (hok : MkK D e.b en) (hb : w.heap[e.b]? = some (.cells D.cells D.T (0, 0))) :
  Sat (ρ ++ [⟨e.b, D.cap⟩]) S (H ++ [en]) w ∧ Ev ρ0 S0 H0 w0 (ρ ++ [⟨e.b, D.cap⟩]) S (H ++ [en]) w := by
 have hcase : ∀ (i : Nat) (f : Ent), (H ++ [en])[i]? = some f → (i < H.length ∧ H[i]? = some f) ∨ (i = H.length ∧ f = en) := fun i f hf => by
  by_cases hi : i < H.length
  ·rw [List.getElem?_append_left hi] at hf; exact .inl ⟨hi, hf⟩
  ·have hi2 : i = H.length := by
    have := (List.getElem?_eq_some_iff.1 hf).1
    simp at this; omega
   subst hi2
   simp at hf
   exact .inr ⟨rfl, hf.symm⟩
 have hb2 : ∀ (i : Nat) (f : Ent) (b : Nat), (H ++ [en])[i]? = some f → entB (ρ ++ [⟨e.b, D.cap⟩]) i f b → (H[i]? = some f ∧ entB ρ i f b) ∨ (i = H.length ∧ b = e.b) := fun i f b hf hfb => by
  rcases hcase i f hf with ⟨hi, hf'⟩ | ⟨rfl, rfl⟩
  ·rw [entB_pre _ (by rw [hs.len]; exact hi)] at hfb
   exact .inl ⟨hf', hfb⟩
  ·refine .inr ⟨rfl, ?_⟩
   rw [hok.entb _ _ (by rw [← hs.len]; simp)] at hfb
   exact (Option.some.inj hfb).symm
 refine ⟨⟨by simp [hs.len], fun i f hf => ?_, fun i j f g b hf hg hfb hgb => ?_, fun b ⟨i, f, hf, hfb⟩ hS => ?_, hs.low⟩, ⟨?_, hev.os, hev.tape, hev.output, hev.size, hev.keep, hev.imm, fun b ⟨i, f, hf, hfb⟩ => ?_⟩⟩
 ·rcases hcase i f hf with ⟨hi, hf'⟩ | ⟨rfl, rfl⟩
  ·exact (hs.ent i f hf').move [⟨e.b, D.cap⟩] (fun _ _ => rfl) fun _ _ => rfl
  ·exact hok.ent _ _ _ _ (by rw [← hs.len]; simp) hb
 ·rcases hb2 i f b hf hfb with ⟨a1, a2⟩ | ⟨a1, a2⟩ <;> rcases hb2 j g b hg hgb with ⟨b1, b2⟩ | ⟨b1, b2⟩
  ·exact hs.inj i j f g b a1 b1 a2 b2
  ·exact absurd ⟨i, f, a1, b2 ▸ a2⟩ he.m
  ·exact absurd ⟨j, g, b1, a2 ▸ b2⟩ he.m
  ·omega
 ·rcases hb2 i f b hf hfb with ⟨a1, a2⟩ | ⟨_, a2⟩
  ·exact hs.out b ⟨i, f, a1, a2⟩ hS
  ·exact he.s (a2 ▸ hS)
 ·obtain ⟨t, ht⟩ := hev.pre
  exact ⟨t ++ [⟨e.b, D.cap⟩], by rw [ht, List.append_assoc]⟩
 ·rcases hb2 i f b hf hfb with ⟨a1, a2⟩ | ⟨_, a2⟩
  ·exact hev.own b ⟨i, f, a1, a2⟩
  ·exact .inr (a2 ▸ he.lo)
theorem anyC_read {Q : Exit → Act → World → Prop} {i : Nat} {oi : Oper} {v : Value} (hi : ops[i]? = some oi) (hsel : ∀ (j : Nat) (o : Oper) cs b, ops[j]? = some o → o.op ≠ .select cs b)
  (hQ : ∀ c a w, Q (.panic c) (a.put oi.dst v) w → Q (.panic c) a w) :
  ∀ (f : Nat) (ls : Array Bool) (a : Act) (w : World),
   (∀ j oj, ops[j]? = some oj → j ≠ i → ls.getD j true = false → (∀ e ∈ oj.after, Region.binds .any e = true → e.on ≠ i) → oi.apart ops oj = true) →
   i ∈ Region.ready .any ops ls → YR P ops C oi v a → AnyC P ops Q C [] f (ls.setIfInBounds i true) (a.put oi.dst v) w → AnyC P ops Q C [] (f + 1) ls a w := by
 have nl : ∀ ls : Array Bool, ∀ t ∈ ([] : List Nat), ls.getD t false = false := fun _ t h => by cases h
 have own : ∀ (f : Nat) (ls : Array Bool) (a : Act) (w : World), YR P ops C oi v a → AnyC P ops Q C [] f (ls.setIfInBounds i true) (a.put oi.dst v) w → wpOp P ops Q i (AnyC P ops Q C [] f (ls.setIfInBounds i true)) a w := fun f ls a w hy hH => by
  unfold wpOp
  simp only [hi]
  rcases hy with ⟨hw, hv⟩ | ⟨hw, rfl⟩
  ·rw [if_pos hw]
   refine .inl ?_
   unfold Oper.wp
   rw [hv w (hH.cls (nl _))]
   exact hH
  ·rw [if_neg (by simp [hw])]; exact hH
 intro f
 induction f with
 | zero =>
  intro ls a w _ hr hy hL
  refine ⟨fun _ => hL.cls (nl _), fun h0 => (by rw [h0] at hr; cases hr), fun j hj => ?_⟩
  by_cases hji : j = i
  ·subst hji; exact own 0 ls a w hy hL
  ·have := ready_mono hj hji; rw [hL.2.1] at this; cases this
 | succ f ih =>
  intro ls a w hfree hr hy hH
  have hun := (mem_ready.1 hr).1
  refine ⟨fun _ => hH.cls (nl _), fun h0 => (by rw [h0] at hr; cases hr), fun j hj => ?_⟩
  by_cases hji : j = i
  ·subst hji; exact own (f + 1) ls a w hy hH
  ·obtain ⟨hjun, oj, hoj, hall⟩ := mem_ready.1 hj
   have hno : ∀ e ∈ oj.after, Region.binds .any e = true → e.on ≠ i := fun e he hb he2 => by
    have := hall e he hb
    rw [he2, getD_both hun] at this
    cases this
   have h1 := wpOp_swap hoj (hfree j oj hoj hji hjun hno) (fun cs b => hsel i oi cs b hi) (fun cs b => hsel j oj cs b hoj) hQ hy (hH.2.2 j (ready_mono hj hji))
   refine wpOp_mono (fun a' w' h3 => ih (ls.setIfInBounds j true) a' w' (fun k ok hk hki hun' hno' => ?_) (ready_mono hr (Ne.symm hji)) h3.1 ?_) h1
   ·refine hfree k ok hk hki ?_ hno'
    by_cases hjk : j = k
    ·subst hjk; exact hjun
    ·rw [getD_set_ne true hjk] at hun'; exact hun'
   ·rw [Array.setIfInBounds_comm _ _ hji]; exact h3.2
variable {K : Ex → List AV → List Ent → Prop} {ρ0 : List Loc} {S0 : Nat → Prop} {H0 : List Ent} {w0 : World} {dfs : List Deferred}
theorem tail_read {pre hd hq : List Nat} {tl : List (Nat × Nat)} (cx : Ctx P ops pre hd hq tl) : ∀ (l : List (Nat × Nat)) (s : List AV) (H : List Ent), (∀ w, Facts H w → C w) → execR P C kn ops l s H K → ∀ (rem : List Nat) (lc : Array Bool), tlB .any ops l rem lc = true →
  ∀ (n : Nat) (E : List Fl), n + E.length = rem.length → ∀ (ls : Array Bool) (ρ : List Loc) (S : Nat → Prop) (w : World) (a : Act), Mid P ops pre tl rem w0 lc E ls ρ S H w → Ev ρ0 S0 H0 w0 ρ S H w → a.defers = dfs → Sat ρ S H w → RelS ρ s a.tmps.toList →
   AnyC P ops (Post ρ0 S0 H0 w0 dfs K) C [] (l.length - E.length) ls (pt a E) w
 | [], s, H, hC, h, rem, lc, hB, n, E, hn, ls, ρ, S, w, a, m, hev, hdf, hs, hr => by
  simp only [tlB, Bool.and_eq_true, List.isEmpty_iff] at hB
  have hE : E = [] := by rw [hB.1] at hn; simp at hn; exact hn.2
  subst hE
  refine ⟨fun _ => hC w hs.facts, ?_, ρ, S, s, H, .normal, hs, hev, hr, hdf, trivial, h⟩
  rw [List.eq_nil_iff_forall_not_mem]
  intro j hj
  rcases (m.lst.ready (rem := rem) m.sub hj).1 with h1 | h1
  ·rw [hB.1] at h1; rw [show setAll lc [] = lc from rfl, hB.2] at h1; cases h1
  ·rw [hB.1] at h1; cases h1
 | (k, q) :: l, s, H, hC, h0, rem, lc, hB, n, E, hn, ls, ρ, S, w, a, m, hev, hdf, hs, hr => by
  have hp : pickK ops k fun o => wantK ops o s (fun s => stepR P C (hasN kn k) o s H q (fun av H' => putK s o.dst av fun s' => execR P C kn ops l s' H' K) (fun c H' => K (.pan c) s H')) (fun s => putK s o.dst (.c (.v undef)) fun s' => execR P C kn ops l s' H K) := h0
  obtain ⟨o, ho, hq⟩ := pickK_spec hp
  clear hp
  have hkl : k < ops.size := (Array.getElem?_eq_some_iff.1 ho).1
  have hrl := rem_le _ _ _ hB m.ndr
  have hEl := m.len
  have hsel := Region.noSelect_spec cx.sel k o
  match q with
  | 0 =>
   simp only [tlB, Bool.and_eq_true, decide_eq_true_eq, Bool.not_eq_true', List.contains_iff_mem] at hB
   obtain ⟨⟨⟨hk1, hk2⟩, hk3⟩, hB⟩ := hB
   have hk1 : k ∈ Region.ready .any ops lc := by simpa using hk1
   have hk3 : k ∉ rem := by intro hm; rw [← List.contains_iff_mem] at hm; rw [hm] at hk3; cases hk3
   have hrl2 := rem_le _ _ _ hB m.ndr
   have hkE : k ∉ E.map Fl.i := fun hm => by obtain ⟨e, he, hi⟩ := List.mem_map.1 hm; exact hk3 (hi ▸ m.sub e he)
   rw [show ((k, 0) :: l).length - E.length = (l.length - E.length) + 1 by simp; omega]
   have hoff := off_of cx ho hk1 m.pre (fun e he => ⟨(m.rf _ (m.sub e he)).1, (m.rf _ (m.sub e he)).2, fun h => hk3 (h ▸ m.sub e he)⟩) m.hid
   refine ⟨fun _ => hC w hs.facts, fun h1 => absurd (m.lst.own hk1 hkE) (by rw [h1]; simp), fun i hi => ?_⟩
   have hrd := m.lst.ready m.sub hi
   by_cases hik : i = k
   ·subst hik
    refine op_pt ho (fun cs b => hsel cs b ho) hoff (fun c a d v w h => post_put c a d v w h) ?_
    unfold wpOp
    simp only [ho]
    rcases wantK_spec hq hr with ⟨hw, s', h', hr'⟩ | ⟨hw, s', h', hr'⟩
    ·rw [if_pos hw]
     refine .inl (step_sound (K := fun out H' => match out with
      | .val av => Nd (∀ w, Facts H' w → C w) (putK s' o.dst av fun s2 => execR P C kn ops l s2 H' K)
      | .vals _ => False
      | .pan c => K (.pan c) s' H') h' hs hr' (fun ρ1 S1 H1 w1 av v hs1 hev1 hrel hK => ?_) (fun ρ1 S1 H1 w1 c hs1 hev1 hK => ?_) fun _ _ h => h)
     ·obtain ⟨hC1, hK⟩ := hK
      obtain ⟨s2, hK2, hput⟩ := putK_spec hK
      have hrs : RelS ρ1 s' a.tmps.toList := by obtain ⟨t, ht⟩ := hev1.pre; rw [ht]; exact RelS_pre t hr'
      exact tail_read cx l s2 H1 hC1 hK2 rem _ hB n E hn _ ρ1 S1 w1 _ (m.step hkl hk3 hev1) (hev.trans hev1) (by rw [put_defers]; exact hdf) hs1 (hput ρ1 a v hrs hrel)
     ·exact ⟨ρ1, S1, s', H1, .pan c, hs1, hev.trans hev1, trivial, hdf, rfl, hK⟩
    ·rw [if_neg (by simp [hw])]
     obtain ⟨s2, hK2, hput⟩ := putK_spec h'
     exact tail_read cx l s2 H hC hK2 rem _ hB n E hn _ ρ S w _ (m.step hkl hk3 (Ev.refl _ _ _ _)) hev (by rw [put_defers]; exact hdf) hs (hput ρ a undef hr' rfl)
   ·have hir : i ∈ rem := by
     rcases hrd.1 with h1 | h1
     ·rw [hk2] at h1; simp at h1; exact absurd h1 hik
     ·exact h1
    have hEl2 : E.length + 1 ≤ rem.length := by
     have := nodup_len (b := rem) (a := i :: E.map Fl.i) (List.nodup_cons.2 ⟨hrd.2.1, m.ndi⟩) fun x hx => by
      cases hx with
      | head => exact hir
      | tail _ hx => obtain ⟨e, he, rfl⟩ := List.mem_map.1 hx; exact m.sub e he
     simpa using this
    refine m.others cx hs hev hir hrd.2.1 fun e w1 he hs1 hev1 hm1 => ?_
    have := tail_read cx ((k, 0) :: l) s H hC h0 rem lc (by simp only [tlB, Bool.and_eq_true, decide_eq_true_eq]; exact ⟨⟨⟨by simpa using hk1, hk2⟩, by simpa using hk3⟩, hB⟩) (n - 1) (e :: E) (by simp; omega) _ ρ S w1 a hm1 (hev.trans hev1) hdf hs1 hr
    rw [show ((k, 0) :: l).length - (e :: E).length = l.length - E.length by simp] at this
    exact this
  | 1 =>
   simp only [tlB, Bool.and_eq_true, Bool.not_eq_true', List.contains_iff_mem] at hB
   obtain ⟨⟨⟨hk1, hfr⟩, hk3⟩, hB⟩ := hB
   have hk1 : k ∈ Region.ready .any ops lc := by simpa using hk1
   have hk3 : k ∉ rem := by intro hm; rw [← List.contains_iff_mem] at hm; rw [hm] at hk3; cases hk3
   have hrl2 := rem_le _ _ _ hB m.ndr
   have hkE : k ∉ E.map Fl.i := fun hm => by obtain ⟨e, he, hi⟩ := List.mem_map.1 hm; exact hk3 (hi ▸ m.sub e he)
   rw [show ((k, 1) :: l).length - E.length = (l.length - E.length) + 1 by simp; omega]
   have hoff := off_of cx ho hk1 m.pre (fun e he => ⟨(m.rf _ (m.sub e he)).1, (m.rf _ (m.sub e he)).2, fun h => hk3 (h ▸ m.sub e he)⟩) m.hid
   have hd' : ∀ e ∈ E, o.dst ≠ some e.d := fun e he => (hoff e he).2
   have fin : ∀ (v : Value) (s2 : List AV), Yields P ops o v a → execR P C kn ops l s2 H K → RelS ρ s2 (a.put o.dst v).tmps.toList → AnyC P ops (Post ρ0 S0 H0 w0 dfs K) C [] (l.length - E.length + 1) ls (pt a E) w := fun v s2 hy hK hr2 => by
    have he := exec_pt (ops := ops) (fun cs b => hsel cs b ho) a E hoff
    refine anyC_blind ho (Region.noSelect_spec cx.sel) (fun c a w h => h.put) (by simp) _ ls _ w (fun j oj hj hne hun hno => Region.free_spec ho hfr j oj hj hne (m.lst.un hun) hno) (m.lst.own hk1 hkE) (hy.of_same he.1 he.2) ?_
    rw [put_pt _ _ _ _ hd']
    exact tail_read cx l s2 H hC hK rem _ hB n E hn _ ρ S w _ (m.step hkl hk3 (Ev.refl _ _ _ _)) hev (by rw [put_defers]; exact hdf) hs hr2
   have finR : ∀ (v : Value) (s2 : List AV), YR P ops C o v a → execR P C kn ops l s2 H K → RelS ρ s2 (a.put o.dst v).tmps.toList → AnyC P ops (Post ρ0 S0 H0 w0 dfs K) C [] (l.length - E.length + 1) ls (pt a E) w := fun v s2 hy hK hr2 => by
    have he := exec_pt (ops := ops) (fun cs b => hsel cs b ho) a E hoff
    refine anyC_read ho (Region.noSelect_spec cx.sel) (fun c a w h => h.put) _ ls _ w (fun j oj hj hne hun hno => Region.free_spec ho hfr j oj hj hne (m.lst.un hun) hno) (m.lst.own hk1 hkE) (hy.same he.1 he.2) ?_
    rw [put_pt _ _ _ _ hd']
    exact tail_read cx l s2 H hC hK rem _ hB n E hn _ ρ S w _ (m.step hkl hk3 (Ev.refl _ _ _ _)) hev (by rw [put_defers]; exact hdf) hs hr2
   rcases wantK_spec hq hr with ⟨hw, s', h', hr'⟩ | ⟨hw, s', h', hr'⟩
   ·by_cases hld : (∃ T x, o.op = .load T x) ∨ ∃ T x i, o.op = .indexAddr T x i
    ·have h2 : ∃ x, ReadC P C o s' (fun av => putK s' o.dst av fun s2 => execR P C kn ops l s2 H K) x := by
      have h3 := h'
      unfold stepR at h3
      rcases hld with ⟨T, y, hop⟩ | ⟨T, y, i, hop⟩
      ·simp only [hop] at h3
       exact h3
      ·simp only [hop] at h3
       exact h3
     obtain ⟨x, rc⟩ := h2
     obtain ⟨s2, hK2, hput⟩ := putK_spec rc.next
     refine finR x s2 (.inl ⟨hw, fun w' hw' => ?_⟩) hK2 (hput ρ a x hr' rfl)
     rw [execOp_congr o rc.sel (ρ' := plainEv s') fun y hy => allPlain_eval hr' _ rc.plain y (Array.mem_toList_iff.2 hy)]
     exact rc.run w' hw'
    ·have h2 : blindK P o s' fun av => putK s' o.dst av fun s2 => execR P C kn ops l s2 H K := by
      have h3 := h'
      unfold stepR at h3
      simp only at h3
      split at h3
      ·rename_i T x hop
       exact absurd (.inl ⟨T, x, hop⟩) hld
      ·rename_i T x i hop
       exact absurd (.inr ⟨T, x, i, hop⟩) hld
      ·exact h3
     obtain ⟨av, v, hK, hrel, hrun⟩ := blind_sound (K := fun av => putK s' o.dst av fun s2 => execR P C kn ops l s2 H K) h2 hr'
     obtain ⟨s2, hK2, hput⟩ := putK_spec hK
     exact fin v s2 (.inl ⟨hw, hrun⟩) hK2 (hput ρ a v hr' hrel)
   ·obtain ⟨s2, hK2, hput⟩ := putK_spec h'
    exact fin undef s2 (.inr ⟨hw, rfl⟩) hK2 (hput ρ a undef hr' rfl)
  | q + 2 =>
   have hB0 := hB
   simp only [tlB, Bool.and_eq_true, decide_eq_true_eq, List.contains_iff_mem] at hB
   obtain ⟨⟨hk1, hk2⟩, hB⟩ := hB
   have hk1 : k ∈ rem := by simpa using hk1
   have hrl2 := rem_le _ _ _ hB (m.ndr.erase k)
   have hle := List.length_erase_of_mem hk1
   have hpos : 0 < rem.length := List.length_pos_of_mem hk1
   obtain ⟨o', d, D, ho', hmk, hg, hdst, haft⟩ := floatB_spec (cx.op k (m.rf k hk1).1)
   have hok := mkD_ok hmk
   obtain rfl : o' = o := Option.some.inj (ho'.symm.trans ho)
   have hst : ∀ b : Nat, ∃ en s2, MkK D b en ∧ (∀ w, Facts (H ++ [en]) w → C w) ∧ execR P C kn ops l s2 (H ++ [en]) K ∧ ∀ (ρ : List Loc) (a : Act), ρ[H.length]? = some ⟨b, D.cap⟩ → RelS ρ s a.tmps.toList → RelS ρ s2 (a.put o'.dst (D.val b)).tmps.toList := fun b => by
    have h2 := hq
    unfold wantK at h2
    rw [hg] at h2
    unfold stepR at h2
    simp only [hmk] at h2
    split at h2
    ·unfold ownD at h2
     rw [snocK_eq, Nat.zero_add] at h2
     obtain ⟨s2, hK2, hput⟩ := putK_spec h2.next
     exact ⟨D.ent, s2, hok.mk1 b, h2.ok, hK2, fun ρ a hl hr => hput ρ a (D.val b) hr (hok.rel _ _ b hl)⟩
    ·unfold knwD at h2
     split at h2
     rename_i val cells T cap ent av heq
     split at h2
     ·rename_i e sz n cs
      split at h2
      ·rename_i xs hx
       have h3 := h2 b
       rw [snocK_eq] at h3
       obtain ⟨s2, hK2, hput⟩ := putK_spec h3.next
       exact ⟨_, s2, hok.mk2 b rfl hx, h3.ok, hK2, fun ρ a hl hr => hput ρ a _ hr rfl⟩
      ·exact h2.elim
     ·exact h2.elim
   have mid2 : ∀ (E' : List Fl) (ls' : Array Bool) (ρ1 : List Loc) (S1 : Nat → Prop) (H1 : List Ent) (w1 : World), Lst ops (lc.setIfInBounds k true) E' ls' → (∀ e ∈ E', e ∈ E) → (E'.map Fl.i).Nodup → (E'.map Fl.d).Nodup → (E'.map Fl.b).Nodup → (∀ e ∈ E', e.i ≠ k) → (∀ e ∈ E', Hid P ops ρ1 S1 H1 w1 w0.heap.size e) →
     Mid P ops pre tl (rem.erase k) w0 (lc.setIfInBounds k true) E' ls' ρ1 S1 H1 w1 := fun E' ls' ρ1 S1 H1 w1 hl hsub h1 h2 h3b hne hh =>
    ⟨hl, fun j hj => getD_set_true (m.pre j hj), fun e he => (List.mem_erase_of_ne (hne e he)).2 (m.sub e (hsub e he)), h1, h2, h3b, fun i hi => by
     have h3 : i ∈ rem := List.mem_of_mem_erase hi
     have hne' : k ≠ i := fun h => by subst h; exact (List.Nodup.not_mem_erase m.ndr) hi
     exact ⟨(m.rf i h3).1, by rw [getD_set_ne false hne']; exact (m.rf i h3).2⟩, m.ndr.erase k, hh⟩
   by_cases hkE : k ∈ E.map Fl.i
   ·obtain ⟨e, he, hei⟩ := List.mem_map.1 hkE
    obtain ⟨E', hE'⟩ : ∃ E', E.Perm (e :: E') := by
     obtain ⟨l1, l2, rfl⟩ := List.append_of_mem he
     exact ⟨l1 ++ l2, List.perm_middle⟩
    have hh := m.hid e he
    obtain ⟨oe, De, hoe, hmke, _, hde, hptr, hheap⟩ := hh.op
    rw [hei, ho] at hoe
    obtain rfl := Option.some.inj hoe
    rw [hmk] at hmke; cases hmke
    obtain ⟨en, s2, hmk2, hC2, hK2, hput⟩ := hst e.b
    have hkn := known2 hs hev hh hmk2 hheap
    have hEmem : ∀ e' ∈ E', e' ∈ E := fun e' he' => hE'.mem_iff.2 (by simp [he'])
    have hndi := (hE'.map Fl.i).nodup_iff.1 m.ndi
    have hndd := (hE'.map Fl.d).nodup_iff.1 m.ndd
    have hndb := (hE'.map Fl.b).nodup_iff.1 m.ndb
    have hbne : ∀ e' ∈ E', ¬ mb (ρ ++ [⟨e.b, D.cap⟩]) (H ++ [en]) e'.b := fun e' he' ⟨j, f, hf, hfb⟩ => by
     by_cases hj : j < H.length
     ·rw [List.getElem?_append_left hj] at hf
      rw [entB_pre _ (by rw [hs.len]; exact hj)] at hfb
      exact (m.hid e' (hEmem e' he')).m ⟨j, f, hf, hfb⟩
     ·have hj2 : j = H.length := by
       have := (List.getElem?_eq_some_iff.1 hf).1
       simp at this; omega
      subst hj2
      simp at hf
      subst hf
      rw [hmk2.entb _ _ (by rw [← hs.len]; simp)] at hfb
      exact (List.nodup_cons.1 hndb).1 (List.mem_map.2 ⟨e', he', (Option.some.inj hfb).symm⟩)
    have hlen : E.length = E'.length + 1 := by rw [hE'.length_eq]; rfl
    rw [show ((k, q + 2) :: l).length - E.length = l.length - E'.length by simp; omega]
    rw [pt_perm a hE' m.ndd, pt, put_pt _ _ _ _ (fun e' he' heq => (List.nodup_cons.1 hndd).1 (List.mem_map.2 ⟨e', he', (Option.some.inj heq).symm⟩))]
    have := tail_read cx l s2 _ hC2 hK2 (rem.erase k) _ hB n E' (by omega) ls _ S w (a.put (some e.d) e.ptr) (mid2 E' ls _ S _ w (by rw [← hei]; exact m.lst.take hE' (by rw [hei]; exact hkl)) hEmem (List.nodup_cons.1 hndi).2 (List.nodup_cons.1 hndd).2 (List.nodup_cons.1 hndb).2 (fun e' he' h => (List.nodup_cons.1 hndi).1 (by rw [hei, ← h]; exact List.mem_map.2 ⟨e', he', rfl⟩)) fun e' he' => by
      have h1 := m.hid e' (hEmem e' he')
      exact ⟨h1.op, h1.s, hbne e' he', h1.lo⟩) hkn.2 (by rw [put_defers]; exact hdf) hkn.1 (by
      have h1 := hput (ρ ++ [⟨e.b, D.cap⟩]) a (by rw [← hs.len]; simp) (RelS_pre _ hr)
      rw [hde, ← hptr] at h1
      exact h1)
    exact this
   ·have hEk : ∀ e ∈ E, e.i ∈ rem.erase k := fun e he => (List.mem_erase_of_ne (fun h => hkE (List.mem_map.2 ⟨e, he, h⟩))).2 (m.sub e he)
    have hEl3 : E.length + 1 ≤ rem.length := by
     have := nodup_len (b := rem.erase k) m.ndi fun x hx => by obtain ⟨e, he, rfl⟩ := List.mem_map.1 hx; exact hEk e he
     simp at this; omega
    rw [show ((k, q + 2) :: l).length - E.length = (l.length - E.length) + 1 by simp; omega]
    have hkc : k ∈ Region.ready .any ops lc := mem_ready.2 ⟨getD_in (by rw [m.lst.s2]; exact hkl) (m.rf k hk1).2, o', ho, fun e he hb => by rw [haft e he] at hb; cases hb⟩
    refine ⟨fun _ => hC w hs.facts, fun h1 => absurd (m.lst.own hkc hkE) (by rw [h1]; simp), fun i hi => ?_⟩
    have hrd := m.lst.ready hEk hi
    have hir : i ∈ rem := by
     rcases hrd.1 with h1 | h1
     ·rw [hk2] at h1; simp at h1; rw [h1]; exact hk1
     ·exact List.mem_of_mem_erase h1
    refine m.others cx hs hev hir hrd.2.1 fun e w1 he hs1 hev1 hm1 => ?_
    have := tail_read cx ((k, q + 2) :: l) s H hC h0 rem lc hB0 (n - 1) (e :: E) (by simp; omega) _ ρ S w1 a hm1 (hev.trans hev1) hdf hs1 hr
    rw [show ((k, q + 2) :: l).length - (e :: E).length = l.length - E.length by simp] at this
    exact this
termination_by l _ _ _ _ _ _ _ n => (l.length, n)
decreasing_by all_goals (simp_wf; first | omega | (right; omega) | (left; omega))
end
theorem planR_sound {P : Program} {C : World → Prop} {kn : List Nat} {ops : Array Oper} (hm : P.follows .mixedOrders = true) {id : Nat} {s : List AV} {H : List Ent} {K : Ex → List AV → List Ent → Prop} {pre : List Nat} {tl : List (Nat × Nat)} (hB : planRB P .any ops pre tl = true) (hC : ∀ w, Facts H w → C w)
  (next : execB P ops pre s fun s1 => execR P C kn ops tl s1 H K) {ρ : List Loc} {S : Nat → Prop} {w : World} {a : Act} (hs : Sat ρ S H w) (hr : RelS ρ s a.tmps.toList) :
  (Code.region id ops true).wp P (Post ρ S H w a.defers K) a w := by
 simp only [planRB, Bool.and_eq_true, decide_eq_true_eq] at hB
 obtain ⟨⟨⟨⟨⟨⟨⟨⟨⟨hsel, hlen⟩, hcov⟩, hpt⟩, hwf⟩, hnd⟩, hfl⟩, hfree⟩, hpre⟩, htl⟩ := hB
 have hcov' : ∀ j, j < ops.size → j ∈ pre ∨ j ∈ ([] : List Nat) ∨ j ∈ floats tl ∨ j ∈ wraps tl := fun j hj => by
  have := List.all_eq_true.1 hcov j (List.mem_range.2 hj)
  simp only [Bool.or_eq_true, List.contains_iff_mem] at this
  rcases this with h | h
  ·exact .inl h
  ·exact .inr (.inr ((tl_split tl j).1 h))
 have hpt' := disj_spec hpt
 have inW : ∀ {j}, j ∈ wraps tl → j ∈ tl.map Prod.fst := fun h => (tl_split tl _).2 (.inr h)
 have inF : ∀ {j}, j ∈ floats tl → j ∈ tl.map Prod.fst := fun h => (tl_split tl _).2 (.inl h)
 have inv0 : PInv .any ops [] (wraps tl) (Array.replicate ops.size false) :=
  ⟨by simp, fun j oj _ hl => (by rw [getD_replicate_false] at hl; cases hl), fun t _ => getD_replicate_false _ _, fun k hk => by cases hk⟩
 have hin : ∀ (l : List Nat) (ls : Array Bool), preB .any ops l ls = true → ∀ k ∈ l, k < ops.size := by
  intro l
  induction l with
  | nil => intro ls _ k hk; cases hk
  | cons x l ih =>
   intro ls h k hk
   simp only [preB, Bool.and_eq_true] at h
   cases hk with
   | head =>
    have hr : x ∈ Region.ready .any ops ls := by simpa using h.1.1
    obtain ⟨_, o, ho, _⟩ := mem_ready.1 hr
    exact (Array.getElem?_eq_some_iff.1 ho).1
   | tail _ hk => exact ih _ h.2 k hk
 have inv1 := preB_inv (pre0 := pre) pre [] _ inv0 hpre (fun k hk h => hpt' k hk (inW h)) (hin _ _ hpre)
 rw [List.nil_append] at inv1
 have hs1 : (setAll (Array.replicate ops.size false) pre).size = ops.size := by rw [setAll_size]; simp
 have un1 : ∀ j, j < ops.size → j ∉ pre → (setAll (Array.replicate ops.size false) pre).getD j false = false := fun j hj hn => by
  rw [setAll_get _ _ _ (by simpa using hj), getD_replicate_false]
  simpa using hn
 have cx : Ctx P ops pre [] [] tl := by
  refine ⟨hsel, hcov', (fun j hj h => by cases hj), fun j hj h => disj_spec hwf j h hj, (fun j hj h => by cases hj), fun j hj h => hpt' j hj (inF h), fun i hi => List.all_eq_true.1 hfl i hi, fun i hi oi hoi k ok hk hne hnp hno => ?_, .inl rfl⟩
  have hkl : k < ops.size := (Array.getElem?_eq_some_iff.1 hk).1
  exact Region.free_spec hoi (List.all_eq_true.1 hfree i hi) k ok hk hne (getD_in (by rw [hs1]; exact hkl) (un1 k hkl hnp)) hno
 refine wp_region_any hm ?_
 have hsz : ops.size = pre.length + tl.length := by omega
 rw [hsz]
 have e0 : Array.replicate (pre.length + tl.length) false = Array.replicate ops.size false := by rw [hsz]
 rw [e0]
 refine execB_sound hsel (fun c a d v w h => h.put) (dfs := a.defers) (ρ := ρ) (fun s1 a1 h1 hr1 hd1 => ?_) pre s _ a next hpre rfl hr rfl
 have hfl0 : ∀ i ∈ floats tl, i < ops.size := fun i hi => by
  obtain ⟨o, _, _, ho, _⟩ := floatB_spec (List.all_eq_true.1 hfl i hi)
  exact (Array.getElem?_eq_some_iff.1 ho).1
 have hmid : Mid P ops pre tl (floats tl) w (setAll (Array.replicate ops.size false) pre) [] (setAll (Array.replicate ops.size false) pre) ρ S H { w with drawn := w.drawn + 1 } :=
  ⟨⟨hs1, hs1, fun j => by simp⟩, inv1.pre, fun e he => absurd he (by simp), List.nodup_nil, List.nodup_nil, List.nodup_nil, fun i hi => ⟨hi, un1 i (hfl0 i hi) fun h => hpt' i h (inF hi)⟩, hnd, fun e he => absurd he (by simp)⟩
 exact AnyC.any _ _ _ _ (tail_read cx tl s1 H hC h1 _ _ htl (floats tl).length [] (by simp) _ ρ S _ a1 hmid (Ev.drew ρ S H w) hd1 (hs.heap rfl) hr1)
theorem DrawN.planR {P : Program} {ops : Array Oper} {s : List AV} {H : List Ent} {K : Ex → List AV → List Ent → Prop} (hm : P.follows .mixedOrders = true) (C : World → Prop) (pre : List Nat) (tl : List (Nat × Nat)) (ok : planRB P .any ops pre tl = true) (now : ∀ w, Facts H w → C w)
  (next : execB P ops pre s fun s1 => execR P C [] ops tl s1 H K) : DrawN P ops s H K :=
 .sem fun _ _ _ _ _ hs hr => planR_sound hm ok now next hs hr
theorem DrawN.planK {P : Program} {ops : Array Oper} {s : List AV} {H : List Ent} {K : Ex → List AV → List Ent → Prop} (hm : P.follows .mixedOrders = true) (C : World → Prop) (kn pre : List Nat) (tl : List (Nat × Nat)) (ok : planRB P .any ops pre tl = true) (now : ∀ w, Facts H w → C w)
  (next : execB P ops pre s fun s1 => execR P C kn ops tl s1 H K) : DrawN P ops s H K :=
 .sem fun _ _ _ _ _ hs hr => planR_sound hm ok now next hs hr
theorem ReadC.idxA {P : Program} {C : World → Prop} {o : Oper} {s : List AV} {K : AV → Prop} {T e : TypeId} {inf : TypeInfo} {x i : Operand} {a : Option Addr} {n cap sz : Nat} {kk : IntKind} (k : Nat) (ho : o.op = .indexAddr T x i) (hu : P.underlying T = some (.slice e)) (hi : P.info? e = some inf) (hsz : inf.size = sz)
  (hx : opv s x = .c (.v (.slice a n cap))) (hy : opv s i = .c (.v (.int kk (k : Int)))) (ha : a.isSome = true) (hk : k < n) (next : K (.c (.v (.pointer (some (elemAddr a (k * sz))))))) : ∃ x, ReadC P C o s K x := by
 cases a with
 | none => cases ha
 | some p =>
  refine ⟨.pointer (some (elemAddr (some p) (k * sz))), fun cs b e => (by rw [ho] at e; cases e), by rw [ho]; show allPlain s [x, i] = true; simp [allPlain, hx, hy], fun w _ => ?_, next⟩
  have hx2 : plainEv s x = .slice (some p) n cap := by unfold plainEv; rw [hx]
  have hy2 : plainEv s i = .int kk (k : Int) := by unfold plainEv; rw [hy]
  have h := run_indexAt (P := P) hu hi w p n cap kk (k : Int) ⟨by omega, by omega⟩
  rw [Int.toNat_natCast, hsz] at h
  exact execOp_indexAddr ho (by rw [hx2, hy2]; exact h)
end Go.AX
namespace Go.AX
theorem setEK_self : ∀ {H : List Ent} {i : Nat} {e : Ent} {K : List Ent → Prop}, nthE H i = some e → setEK H i e K → K H
 | [], _, _, _, h, _ => by cases h
 | x :: H, 0, e, K, h, hk => by
  have : x = e := Option.some.inj h
  subst this
  exact hk
 | x :: H, i + 1, e, K, h, hk => setEK_self (H := H) (i := i) (K := fun ys => K (x :: ys)) h hk
theorem app_any {H : List Ent} {e : TypeId} {inf : TypeInfo} {n cap b0 m : Nat} {sa : Option Addr} {K : AV → List Ent → Prop} (i : Nat) (xs ys : List Value) (he : nthE H i = some (.app e inf.size xs (some ⟨b0, 0, none⟩) n cap)) (hn : n ≤ cap) (hsa : 0 < m → sa.isSome = true)
  (hlen : ys.length = m * inf.size) (hone : ∀ u ∈ ys, oneV u = true) (hok : ∀ w, Facts H w → ∀ j v, ys[j]? = some v → w.cell? ((sa.getD default).add j) = some v) (hroom : room n m inf.bytes ∧ inf.size ≠ 0)
  (next : ∀ b cap' : Nat, n + m ≤ cap' → setEK H i (.app e inf.size (xs ++ ys) (some ⟨b, 0, none⟩) (n + m) cap') fun H' => K (.c (.v (.slice (some ⟨b, 0, none⟩) (n + m) cap'))) H') :
  brd (Nat.beq m 0) (appendZ H (.c (.v (.slice (some ⟨b0, 0, none⟩) n cap))) (forceA (.c (.v (.slice (some ⟨b0, 0, none⟩) n cap))) fun x => K x H)) (Nd (sa.isSome = true) (ApN H (sa.getD default) m inf.size fun news => appendTo e inf H (.c (.v (.slice (some ⟨b0, 0, none⟩) n cap))) m news K)) := by
 cases m with
 | zero =>
  have h0 : ys = [] := List.eq_nil_of_length_eq_zero (by omega)
  subst h0
  have := next b0 cap (by omega)
  rw [List.append_nil, Nat.add_zero] at this
  exact ⟨hn, setEK_self he this⟩
 | succ m =>
  refine ⟨hsa (by omega), ⟨ys, hlen, hone, hok, ?_⟩⟩
  exact AppN.grow i xs ys he (plains_vs _) ⟨by omega, hroom⟩ fun b c h _ => next b c h
end Go.AX
namespace Go.AX
open Go.ChangeShapes Go.WideShapes Go.ChangeAt Go.RowKit
section
variable {H : Type} {enc : TypeId × Value → H} {P : Program} {w : World}
variable {fn : Func} {base : Nat} {args : Array Value} {ds : List (DataW H)} {p : List MemPlace}
end
end Go.AX
namespace Go.AX
def restL : List Ent → List Ent → List Ent
 | [], _ => []
 | h :: H, [] => h :: restL H []
 | h :: H, .fact _ :: G => h :: restL H G
 | h :: H, .dead :: G => h :: restL H G
 | .fact F :: H, _ :: G => .fact F :: restL H G
 | _ :: H, _ :: G => .dead :: restL H G
theorem restL_len : ∀ H G : List Ent, (restL H G).length = H.length
 | [], _ => rfl
 | _ :: H, [] => by simp [restL, restL_len H []]
 | h :: H, g :: G => by cases g <;> cases h <;> simp [restL, restL_len H G]
theorem restL_get : ∀ (H G : List Ent) (i : Nat) (e : Ent), (restL H G)[i]? = some e → H[i]? = some e ∨ e = .dead
 | [], _, _, _, h => by cases h
 | h :: H, [], 0, e, he => .inl he
 | h :: H, [], i + 1, e, he => restL_get H [] i e he
 | h :: H, g :: G, 0, e, he => by cases g <;> cases h <;> first | exact .inl he | exact .inr (Option.some.inj he).symm
 | h :: H, g :: G, i + 1, e, he => restL_get H G i e (by cases g <;> cases h <;> exact he)
theorem restL_app : ∀ (H G : List Ent) (i : Nat) (e f : Ent), e.isApp = true → f.isApp = true → G[i]? = some e → (restL H G)[i]? = some f → False
 | [], _, _, _, _, _, _, _, h => by cases h
 | h :: H, [], _, _, _, _, _, h1, _ => by cases h1
 | h :: H, g :: G, 0, e, f, he, hf, h1, h2 => by
  obtain rfl := Option.some.inj h1
  cases g <;> cases he <;> cases h <;> (obtain rfl := Option.some.inj h2; cases hf)
 | h :: H, g :: G, i + 1, e, f, he, hf, h1, h2 => restL_app H G i e f he hf h1 (by cases g <;> cases h <;> exact h2)
def SealOk (H G : List Ent) : Prop := G.length ≤ H.length ∧ ∀ (i : Nat) (e : Ent), G[i]? = some e → e = .dead ∨ (∃ T sz xs a n cap, e = .app T sz xs a n cap ∧ H[i]? = some e) ∨ ∃ Γ, e = .fact Γ ∧ ∀ w, Facts (restL H G) w → Γ w
theorem appB_get {H : List Ent} {b : Nat} (h : appB H b) : ∃ (i : Nat) (e : Ent), H[i]? = some e ∧ e.isApp = true ∧ ∀ ρ j, entB ρ j e b := by
 rcases h with ⟨T, sz, xs, a, n, cap, h1, h2⟩ | ⟨es, c, h1⟩ | ⟨B, F, h1, h2⟩
 ·obtain ⟨i, hi⟩ := List.getElem?_of_mem h1
  exact ⟨i, _, hi, rfl, fun _ _ => h2⟩
 ·obtain ⟨i, hi⟩ := List.getElem?_of_mem h1
  exact ⟨i, _, hi, rfl, fun _ _ => rfl⟩
 ·obtain ⟨i, hi⟩ := List.getElem?_of_mem h1
  exact ⟨i, _, hi, rfl, fun _ _ => h2⟩
theorem Sat.dull {ρ : List Loc} {S : Nat → Prop} {H G : List Ent} {w : World} (h : Sat ρ S H w) (hl : G.length = H.length) (hg : ∀ (i : Nat) (e : Ent), G[i]? = some e → H[i]? = some e ∨ e = .dead) : Sat ρ S G w := by
 have hb : ∀ (i : Nat) (e : Ent) (b : Nat), G[i]? = some e → entB ρ i e b → H[i]? = some e := fun i e b he hb => by
  rcases hg i e he with h1 | rfl
  ·exact h1
  ·cases hb
 refine ⟨by rw [h.len, hl], fun i e he => ?_, fun i j e f b he hf h1 h2 => h.inj i j e f b (hb i e b he h1) (hb j f b hf h2) h1 h2, fun b ⟨i, e, he, h1⟩ => h.out b ⟨i, e, hb i e b he h1, h1⟩, h.low⟩
 rcases hg i e he with h1 | rfl
 ·exact h.ent i e h1
 ·trivial
theorem Sat.sealP {ρ : List Loc} {S : Nat → Prop} {H G : List Ent} {w : World} (h : Sat ρ S H w) (hG : SealOk H G) :
  Sat (ρ.take G.length) (fun b => S b ∨ appB (restL H G) b) G w ∧ (∀ ρ' b, mb ρ' G b → mb ρ H b) := by
 obtain ⟨hl, hG⟩ := hG
 have h1 := h.dull (restL_len H G) (restL_get H G)
 have hno : ∀ (ρ' : List Loc) (i : Nat) (e : Ent) (b : Nat), G[i]? = some e → entB ρ' i e b → H[i]? = some e ∧ entB ρ i e b ∧ ∃ T sz xs a n cap, e = .app T sz xs a n cap := fun ρ' i e b he hb => by
  rcases hG i e he with rfl | ⟨T, sz, xs, a, n, cap, rfl, h2⟩ | ⟨Γ, rfl, _⟩
  ·cases hb
  ·exact ⟨h2, hb, T, sz, xs, a, n, cap, rfl⟩
  ·cases hb
 refine ⟨⟨by rw [List.length_take, h.len]; omega, fun i e he => ?_, fun i j e f b he hf hb hc => ?_, fun b ⟨i, e, he, hb⟩ hS => ?_, fun b hb => ?_⟩, fun ρ' b ⟨i, e, he, hb⟩ => ?_⟩
 ·rcases hG i e he with rfl | ⟨T, sz, xs, a, n, cap, rfl, h2⟩ | ⟨Γ, rfl, hΓ⟩
  ·trivial
  ·exact h.ent i _ h2
  ·exact h1.imm.mono hΓ
 ·obtain ⟨a1, a2, _⟩ := hno _ i e b he hb
  obtain ⟨b1, b2, _⟩ := hno _ j f b hf hc
  exact h.inj i j e f b a1 b1 a2 b2
 ·obtain ⟨a1, a2, T, sz, xs, a, n, cap, rfl⟩ := hno _ i e b he hb
  rcases hS with hS | hS
  ·exact h.out b ⟨i, _, a1, a2⟩ hS
  ·obtain ⟨j, f, hf, hfa, hfb⟩ := appB_get hS
   rcases restL_get H G j f hf with hH | rfl
   ·obtain rfl := h.inj i j _ f b a1 hH a2 (hfb ρ j)
    exact restL_app H G i _ f rfl hfa he hf
   ·cases hfa
 ·rcases hb with hb | hb
  ·exact h.low b hb
  ·obtain ⟨i, e, he, heb⟩ := appB_mb (ρ := ρ) hb
   exact h1.blk_lt he heb
 ·obtain ⟨a1, a2, _⟩ := hno _ i e b he hb
  exact ⟨i, e, a1, a2⟩
theorem SpecH.sealP {P : Program} {f : FuncId} {args : List AV} {H : List Ent} {K : Out → List Ent → Prop} (h : SpecH P f args H fun out H' => ∃ G, H.length ≤ G.length ∧ SealOk H' G ∧ (∃ v, out = .val (.c (.v v))) ∧ K out G) : SpecH P f args H K := by
 refine ⟨h.ok, fun ρ S w vs hs hr => (h.run ρ S w vs hs hr).mono fun e w' ⟨ρ', S', H', out, hs', hev, hout, G, hl, hG, ⟨v, hx⟩, hK⟩ => ?_⟩
 subst hx
 obtain ⟨h1, h2⟩ := hs'.sealP hG
 refine ⟨ρ'.take G.length, _, G, .val (.c (.v v)), h1, ⟨?_, hev.os, hev.tape, hev.output, hev.size, hev.keep, fun b hb => ?_, fun b hb => hev.own b (h2 _ b hb)⟩, hout, hK⟩
 ·obtain ⟨t, ht⟩ := hev.pre
  refine ⟨t.take (G.length - ρ.length), ?_⟩
  rw [ht, List.take_append, List.take_of_length_le (by rw [hs.len]; exact hl)]
 ·rcases hb with hb | hb
  ·exact hev.imm b hb
  ·obtain ⟨j, f, hf, hfa, hfb⟩ := appB_get hb
   rcases restL_get H' G j f hf with hH | rfl
   ·rcases hev.own b ⟨j, f, hH, hfb _ _⟩ with h3 | h3
    ·exact .inr (.inl h3)
    ·exact .inr (.inr h3)
   ·cases hfa
end Go.AX
namespace Go.AX
end Go.AX
namespace Go.AX
end Go.AX
namespace Go.AX
theorem made_row (z : Value) (n : Nat) : (madeCells #[z] n).toList = List.replicate n z := by
 apply List.ext_getElem?
 intro i
 rw [madeCells, Array.toList_map, List.getElem?_map, Array.toList_range]
 by_cases h : i < n
 ·rw [List.getElem?_range h, List.getElem?_replicate, if_pos h]
  simp [Nat.mod_one]
 ·rw [List.getElem?_eq_none (by simpa using h), List.getElem?_eq_none (by simpa using h)]
  rfl
theorem EffW.mkRow {P : Program} {o : Oper} {s : List AV} {H : List Ent} {K : AV → List Ent → Prop} {t e : TypeId} {x y : Operand} {inf : TypeInfo} {z : Value} (n : Nat) (xs : List Value) (ho : o.op = .makeSlice t x y) (ht : P.underlying t = some (.slice e)) (hi : P.info? e = some inf) (hz : inf.zero = some z) (h1 : inf.size = 1) (hc : z.cells = #[z])
  (hx : opv s x = .c (.v (.int .i64 (n : Int)))) (hy : opv s y = .c (.v (.int .i64 (n : Int)))) (hn : n ≤ 1000000 ∧ inf.bytes ≤ 1000) (hxs : List.replicate n z = xs)
  (next : ∀ b, K (.c (.v (.slice (some ⟨b, 0, none⟩) n n))) (H ++ [.app e 1 xs (some ⟨b, 0, none⟩) n n])) : EffW P o s H K := by
 subst hxs
 intro ρ S w a hs hr
 have hxr := opv_rel hr x
 have hyr := opv_rel hr y
 rw [hx] at hxr; rw [hy] at hyr
 have hxe : a.eval x = .int .i64 (n : Int) := hxr
 have hye : a.eval y = .int .i64 (n : Int) := hyr
 have hm2 : inf.bytes * n ≤ 1000 * n := Nat.mul_le_mul_right _ hn.2
 have hrun := run_makeSlice (P := P) (w := w) t e inf z ht hi hz .i64 .i64 (n : Int) (n : Int) (by omega) (Int.le_refl _) (by rw [h1]; omega) (by rw [← Int.natCast_mul]; omega) (by omega)
 simp only [Int.toNat_natCast, h1, Nat.mul_one, hc] at hrun
 have hrow : RowF e 1 n (List.replicate n z) w.heap.size n (w.alloc (.cells (madeCells #[z] n) e)) :=
  ⟨_, (0, 0), ⟨heap_alloc_new w _, .inl rfl⟩, by simp, Nat.le_refl _, by simp only [maxLen]; omega, by rw [size_madeCells, Nat.mul_one], by rw [made_row, Nat.mul_one, List.take_of_length_le (by simp)]⟩
 have hS := hs.newApp (w' := w.alloc (.cells (madeCells #[z] n) e)) rfl rfl rfl rfl hrow
 refine ⟨_, _, next w.heap.size, _, _, _, _, ?_, .inl rfl, hS.1, hS.2, rfl⟩
 unfold execOp
 simp only [ho, hxe, hye, Sem.run_bind, Sem.run_pure, hrun, Result.andThen_ok]
theorem BlindW.len {P : Program} {o : Oper} {s : List AV} {K : AV → Prop} {x : Operand} {T e : TypeId} {args : Array Operand} {ts : Array TypeId} {p : Option Addr} {n c : Nat} (ho : o.op = .call { callee := .builtin .len, args := args, argTypes := ts }) (ha : args = #[x]) (ht : ts = #[T]) (hu : P.underlying T = some (.slice e))
  (hx : opv s x = .c (.v (.slice p n c))) (hk : K (.c (.v (.int .i64 (n : Int))))) : ∃ x, BlindW P o s K x := by
 subst ha ht
 refine ⟨.int .i64 (n : Int), ?_, fun w => execOp_blt ho fun consts => ?_, hk⟩
 ·rw [ho]
  show allPlain s [x] = true
  simp [allPlain, hx]
 ·have he : plainEv s x = .slice p n c := by unfold plainEv; rw [hx]
  simp [builtin, Builtin.len_, run_underlying hu, he, goInt]
end Go.AX
namespace Go.Core
structure CellP where
 c : Cell
 na : Option Addr
 nc : Nat
 ia : Option Addr
 ic : Nat
end Go.Core
namespace Go.Proofs.YtgogonnnojcioaaGreatDoor
open Go.AX Go.RowKit Go.Core
set_option maxRecDepth 20000
def strC (l : List (List UInt8)) : List Value := l.map fun s => .string (bs s)
def iC (l : List Int) : List Value := l.map fun x => .int .i64 x
theorem strC_get {l : List (List UInt8)} {i : Nat} {s : List UInt8} (h : l[i]? = some s) : (strC l)[i]? = some (.string (bs s)) := by
 unfold strC; rw [List.getElem?_map, h]; rfl
theorem iC_get {l : List Int} {i : Nat} {x : Int} (h : l[i]? = some x) : (iC l)[i]? = some (.int .i64 x) := by
 unfold iC; rw [List.getElem?_map, h]; rfl
def cellC (p : CellP) : List Value := [.int .i64 p.c.kind, .int .i64 p.c.num, .string (bs p.c.text), .slice p.na p.c.names.length p.nc, .slice p.ia p.c.items.length p.ic]
def grC (l : List CellP) : List Value := l.flatMap cellC
theorem grC_get (l : List CellP) (i j : Nat) {p : CellP} (hj : j < 5) (h : l[i]? = some p) : (grC l)[i * 5 + j]? = (cellC p)[j]? := by
 unfold grC
 rw [flat_get (m := 5) (fun _ => rfl) l i j hj, h]
 rfl
structure CellOk (p : CellP) : Prop where
 na : p.na = none → p.c.names = []
 ia : p.ia = none → p.c.items = []
 nl : p.c.names.length ≤ 200000000000000
 il : p.c.items.length ≤ 200000000000000
 nw : ∀ s ∈ p.c.names, s.length ≤ 200000000000000
 tl : p.c.text.length ≤ 200000000000000
 nb : p.c.names.length ≤ p.nc
 ib : p.c.items.length ≤ p.ic
def CellF (p : CellP) (w : World) : Prop := SlAt p.na (p.c.names.length * 1) (strC p.c.names) w ∧ SlAt p.ia (p.c.items.length * 1) (iC p.c.items) w
def GrF (a : Option Addr) (l : List CellP) (w : World) : Prop := SlAt a (l.length * 5) (grC l) w ∧ ∀ p ∈ l, CellF p w
end Go.Proofs.YtgogonnnojcioaaGreatDoor
namespace Go.AX
open Go.ChangeShapes Go.WideShapes Go.ChangeAt Go.RowKit
section
variable {H : Type} {enc : TypeId × Value → H} {P : Program} {w : World}
end
end Go.AX
namespace Go.AX
open Go.ChangeShapes Go.WideShapes Go.ChangeAt Go.RowKit
section
variable {H : Type} {enc : TypeId × Value → H} {P : Program} {w : World}
end
theorem Imm.all {α : Type} {S : Nat → Prop} {w : World} {l : List α} {F : α → World → Prop} (h : ∀ x ∈ l, Imm S w (F x)) : Imm S w fun w => ∀ x ∈ l, F x w :=
 ⟨fun x hx => (h x hx).1, fun w' hw x hx => (h x hx).2 w' hw⟩
end Go.AX
namespace Go.Proofs.YtgogonnnojcioaaGreatDoor
open Go.ChangeShapes Go.WideShapes Go.ChangeAt Go.RowKit Go.AX Go.Core
set_option maxRecDepth 100000
end Go.Proofs.YtgogonnnojcioaaGreatDoor
namespace Go.Proofs.YtgogonnnojcioaaGreatDoor
open Go.ChangeShapes Go.WideShapes Go.ChangeAt Go.RowKit Go.AX Go.Core
set_option maxRecDepth 100000
def laid3 : List (String × DataW Unit) := [("math/bits.deBruijn32tab", Rows.laid_math_bits_deBruijn32tab), ("math/bits.deBruijn64tab", Rows.laid_math_bits_deBruijn64tab), ("internal/strconv.uint64pow10", Rows.laid_internal_strconv_uint64pow10), ("unicode/utf8.acceptRanges", Rows.laid_unicode_utf8_acceptRanges), ("unicode/utf8.first", Rows.laid_unicode_utf8_first)]
theorem door_met (os : Os) (args : Array Value) : laidMetH Tryz.prog laid3 ((World.laidAll Tryz.prog os laid3).forCall (fun _ _ => 0) ⟨#[], args, []⟩).memory := by
 rw [MakeChecks.laidMetH_plain _ _ _ (by kernel_rfl)]; exact laidMet_laidAll _ (by kernel_rfl) (by kernel_rfl)
end Go.Proofs.YtgogonnnojcioaaGreatDoor
namespace Go.Proofs.YtgogonnnojcioaaGreatDoor
open Go.AX Go.RowKit Go.Core
set_option maxRecDepth 20000
def idx {α : Type} (f : α → Bool) : List α → Nat → Int
 | [], _ => -1
 | o :: l, i => if f o then (i : Int) else idx f l (i + 1)
theorem idx_spec {α : Type} (f : α → Bool) : ∀ (l : List α) (i : Nat), (idx f l i = -1 ∧ l.any f = false) ∨ ((i : Int) ≤ idx f l i ∧ idx f l i < i + l.length ∧ l.any f = true)
 | [], _ => .inl ⟨rfl, rfl⟩
 | o :: l, i => by
  unfold idx
  cases h : f o with
  | true => exact .inr ⟨by simp, by simp only [if_true, List.length_cons]; omega, by simp [h]⟩
  | false =>
   rcases idx_spec f l (i + 1) with ⟨h1, h2⟩ | ⟨h1, h2, h3⟩
   ·exact .inl ⟨by simpa using h1, by simp [h, h2]⟩
   ·refine .inr ⟨?_, ?_, by simp [h, h3]⟩
    ·simp only [Bool.false_eq_true, if_false]; omega
    ·simp only [Bool.false_eq_true, if_false, List.length_cons]; omega
theorem idx_drop {α : Type} (f : α → Bool) (l : List α) (i : Nat) {o : α} (h : l[i]? = some o) : idx f (l.drop i) i = if f o then (i : Int) else idx f (l.drop (i + 1)) (i + 1) := by
 obtain ⟨hlt, hx⟩ := List.getElem?_eq_some_iff.1 h
 rw [List.drop_eq_getElem_cons hlt, hx]
 rfl
set_option maxHeartbeats 1000000 in
theorem IndexI_c (f : Int → Bool) (g : Nat) (caps : Array Value) (F : World → Prop) (a : Option Addr) (cap : Nat) (l : List Int) (hf : ∀ p ∈ l, ∀ H, (∀ w, Facts H w → F w) → SpecH Tryz.prog g (pvs [.int .i64 p] ++ pvs caps.toList) H (Ret (.bool (f p)) H)) (ha : a = none → l = []) (hl : l.length ≤ 200000000000000) : ∀ H, (∀ w, Facts H w → SlAt a (l.length * 1) (iC l) w ∧ F w) →
  SpecH Tryz.prog 95 (pvs [.slice a l.length cap, .func (.func g) #[] caps]) H (Ret (.int .i64 (idx f l 0)) H) := by
 refine factC hm Tryz.func95 (by kernel_rfl) rfl rfl ?_
 refine wX ?_
 refine loopS Nat (fun i => i ≤ l.length ∧ idx f l 0 = idx f (l.drop i) i) (fun i => mkS Tryz.f95.ntmps 0 [(0, .c (.v (.slice a l.length cap))), (1, .c (.v (.func (.func g) #[] caps))), (7, .c (.v (.int .i64 (l.length : Int)))), (8, .c (.v (.int .i64 (i : Int))))]) (fun i => l.length - i) rfl (fun _ => rfl) 0 ⟨Nat.zero_le _, rfl⟩ ?_ fun i ⟨hi, he⟩ => ?_
 ·exact wKK
 refine wX ?_
 refine brd_dec (fun h1 => ?_) (fun h1 => ?_)
 ·obtain ⟨p, ho⟩ : ∃ o, l[i]? = some o := ⟨_, List.getElem?_eq_getElem (by omega)⟩
  have hd := idx_drop f l i ho
  have hsa : a.isSome = true := by
   cases a with
   | none => rw [ha rfl] at ho; cases ho
   | some b => rfl
  refine wX ?_
  refine Nd.mk ⟨hsa, by omega, by omega⟩ ?_
  refine wX ?_
  refine LdN.one (.int .i64 p) rfl (fun w hw => hw.1.1) (by rw [Int.toNat_natCast]; show (iC l)[i * 1]? = _; rw [Nat.mul_one]; exact iC_get ho) ?_
  refine wX ?_
  refine call1 (hf p (List.mem_of_getElem? ho) _ (fun w hw => hw.1.2)) ?_
  cases hfo : f p with
  | true =>
   rw [hfo] at hd
   rw [he, hd]
   refine wX ?_
   rfl
  | false =>
   rw [hfo] at hd
   refine wX ?_
   refine ⟨i + 1, ⟨by omega, by rw [he, hd]; rfl⟩, by omega, ?_, wHH⟩
   exact wKK
 ·have hin : i = l.length := by omega
  subst hin
  rw [he, List.drop_of_length_le (Nat.le_refl _)]
  refine wX ?_
  rfl
theorem HasI_c (f : Int → Bool) (g : Nat) (caps : Array Value) (F : World → Prop) (a : Option Addr) (cap : Nat) (l : List Int) (hf : ∀ p ∈ l, ∀ H, (∀ w, Facts H w → F w) → SpecH Tryz.prog g (pvs [.int .i64 p] ++ pvs caps.toList) H (Ret (.bool (f p)) H)) (ha : a = none → l = []) (hl : l.length ≤ 200000000000000) : ∀ H, (∀ w, Facts H w → SlAt a (l.length * 1) (iC l) w ∧ F w) →
  SpecH Tryz.prog 79 (pvs [.slice a l.length cap, .func (.func g) #[] caps]) H (Ret (.bool (l.any f)) H) := by
 refine factC hm Tryz.func79 (by kernel_rfl) rfl rfl ?_
 refine wX ?_
 refine call1 (IndexI_c f g caps F a cap l hf ha hl _ (fun w hw => hw.1)) ?_
 refine wX ?_
 rcases idx_spec f l 0 with ⟨h1, h2⟩ | ⟨h1, h2, h3⟩
 ·rw [h1, h2]
  rfl
 ·rw [h3]
  exact out_bool (decide_eq_true (by omega))
set_option maxHeartbeats 1000000 in
theorem IndexS_c (f : (List UInt8) → Bool) (g : Nat) (caps : Array Value) (F : World → Prop) (a : Option Addr) (cap : Nat) (l : List (List UInt8)) (hf : ∀ p ∈ l, ∀ H, (∀ w, Facts H w → F w) → SpecH Tryz.prog g (pvs [.string (bs p)] ++ pvs caps.toList) H (Ret (.bool (f p)) H)) (ha : a = none → l = []) (hl : l.length ≤ 200000000000000) : ∀ H, (∀ w, Facts H w → SlAt a (l.length * 1) (strC l) w ∧ F w) →
  SpecH Tryz.prog 136 (pvs [.slice a l.length cap, .func (.func g) #[] caps]) H (Ret (.int .i64 (idx f l 0)) H) := by
 refine factC hm Tryz.func136 (by kernel_rfl) rfl rfl ?_
 refine wX ?_
 refine loopS Nat (fun i => i ≤ l.length ∧ idx f l 0 = idx f (l.drop i) i) (fun i => mkS Tryz.f136.ntmps 0 [(0, .c (.v (.slice a l.length cap))), (1, .c (.v (.func (.func g) #[] caps))), (7, .c (.v (.int .i64 (l.length : Int)))), (8, .c (.v (.int .i64 (i : Int))))]) (fun i => l.length - i) rfl (fun _ => rfl) 0 ⟨Nat.zero_le _, rfl⟩ ?_ fun i ⟨hi, he⟩ => ?_
 ·exact wKK
 refine wX ?_
 refine brd_dec (fun h1 => ?_) (fun h1 => ?_)
 ·obtain ⟨p, ho⟩ : ∃ o, l[i]? = some o := ⟨_, List.getElem?_eq_getElem (by omega)⟩
  have hd := idx_drop f l i ho
  have hsa : a.isSome = true := by
   cases a with
   | none => rw [ha rfl] at ho; cases ho
   | some b => rfl
  refine wX ?_
  refine Nd.mk ⟨hsa, by omega, by omega⟩ ?_
  refine wX ?_
  refine LdN.one (.string (bs p)) rfl (fun w hw => hw.1.1) (by rw [Int.toNat_natCast]; show (strC l)[i * 1]? = _; rw [Nat.mul_one]; exact strC_get ho) ?_
  refine wX ?_
  refine call1 (hf p (List.mem_of_getElem? ho) _ (fun w hw => hw.1.2)) ?_
  cases hfo : f p with
  | true =>
   rw [hfo] at hd
   rw [he, hd]
   refine wX ?_
   rfl
  | false =>
   rw [hfo] at hd
   refine wX ?_
   refine ⟨i + 1, ⟨by omega, by rw [he, hd]; rfl⟩, by omega, ?_, wHH⟩
   exact wKK
 ·have hin : i = l.length := by omega
  subst hin
  rw [he, List.drop_of_length_le (Nat.le_refl _)]
  refine wX ?_
  rfl
theorem HasS_c (f : (List UInt8) → Bool) (g : Nat) (caps : Array Value) (F : World → Prop) (a : Option Addr) (cap : Nat) (l : List (List UInt8)) (hf : ∀ p ∈ l, ∀ H, (∀ w, Facts H w → F w) → SpecH Tryz.prog g (pvs [.string (bs p)] ++ pvs caps.toList) H (Ret (.bool (f p)) H)) (ha : a = none → l = []) (hl : l.length ≤ 200000000000000) : ∀ H, (∀ w, Facts H w → SlAt a (l.length * 1) (strC l) w ∧ F w) →
  SpecH Tryz.prog 113 (pvs [.slice a l.length cap, .func (.func g) #[] caps]) H (Ret (.bool (l.any f)) H) := by
 refine factC hm Tryz.func113 (by kernel_rfl) rfl rfl ?_
 refine wX ?_
 refine call1 (IndexS_c f g caps F a cap l hf ha hl _ (fun w hw => hw.1)) ?_
 refine wX ?_
 rcases idx_spec f l 0 with ⟨h1, h2⟩ | ⟨h1, h2, h3⟩
 ·rw [h1, h2]
  rfl
 ·rw [h3]
  exact out_bool (decide_eq_true (by omega))
end Go.Proofs.YtgogonnnojcioaaGreatDoor
namespace Go.Core
def oneKeyB (x y : Cell) : Bool := isLeaf x && x.kind == y.kind && x.num == y.num && x.text == y.text
end Go.Core
namespace Go.Proofs.YtgogonnnojcioaaGreatDoor
open Go.AX Go.RowKit Go.Core
set_option maxRecDepth 20000
theorem isLeaf_c (k : Int) : ∀ H, SpecH Tryz.prog 109 (pvs [.int .i64 k]) H (Ret (.bool (decide (k ≤ 5))) H) := by
 refine pureC hm Tryz.func109 (by kernel_rfl) rfl rfl ?_
 exact wZ
def cellV (p : CellP) : Value := .agg #[.int .i64 p.c.kind, .int .i64 p.c.num, .string (bs p.c.text), .slice p.na p.c.names.length p.nc, .slice p.ia p.c.items.length p.ic]
theorem leaf_c (p : CellP) : ∀ H, SpecH Tryz.prog 75 (pvs [cellV p]) H (Ret (.bool (isLeaf p.c)) H) := by
 refine pureC hm Tryz.func75 (by kernel_rfl) rfl rfl ?_
 refine wX ?_
 rfl
theorem txt_eq (a b : List UInt8) : ((bs a).data.toList == (bs b).data.toList) = (a == b) := by rw [bs_list, bs_list]
set_option maxHeartbeats 1000000 in
theorem oneKey_c (a : Option Addr) (c : Nat) (l : List CellP) (i j : Nat) (p q : CellP) (hp : l[i]? = some p) (hq : l[j]? = some q) (ha : a = none → l = []) (hl : l.length ≤ 200000000000000) : ∀ H, (∀ w, Facts H w → GrF a l w) → SpecH Tryz.prog 116 (pvs [.slice a l.length c, .int .i64 (i : Int), .int .i64 (j : Int)]) H (Ret (.bool (decide ((i : Int) = j) || oneKeyB p.c q.c)) H) := by
 refine factC hm Tryz.func116 (by kernel_rfl) rfl rfl ?_
 have hil := (List.getElem?_eq_some_iff.1 hp).1
 have hjl := (List.getElem?_eq_some_iff.1 hq).1
 have hsa : a.isSome = true := by
  cases a with
  | none => rw [ha rfl] at hp; cases hp
  | some b => rfl
 refine wX ?_
 refine DrawN.planR hm (fun w => SlAt a (l.length * 5) (grC l) w) [0, 1, 4, 5] [(2, 1), (3, 1), (6, 1), (7, 1), (8, 2), (9, 2), (10, 0), (11, 0)] (by decide +kernel) (fun w hw => hw.1.1) ?_
 ((conv => whnf); (repeat ((first | refine Nd.mk (fun w hw => hw.1.1) ?_ | refine VrN.norm (wrap_i64 (by omega)) ?_ | refine VrN.keep ?_ | refine DrawN.calm (by decide +kernel) ?_ | refine Nd.mk (by decide +kernel) ?_ | refine Nd.mk (by omega) ?_ | refine RdN.intro _ rfl (by rfl) ?_); (conv => whnf))))
 refine ReadC.idxA (e := 57) (sz := 5) i rfl Tryz.underlying23 rfl rfl rfl rfl hsa hil ?_
 ((conv => whnf); (repeat ((first | refine Nd.mk (fun w hw => hw.1.1) ?_ | refine VrN.norm (wrap_i64 (by omega)) ?_ | refine VrN.keep ?_ | refine DrawN.calm (by decide +kernel) ?_ | refine Nd.mk (by decide +kernel) ?_ | refine Nd.mk (by omega) ?_ | refine RdN.intro _ rfl (by rfl) ?_); (conv => whnf))))
 refine ReadC.agg (cellC p) rfl rfl rfl (fun w hw => hw) rfl (fun k hk => grC_get l i k hk hp) ?_
 ((conv => whnf); (repeat ((first | refine Nd.mk (fun w hw => hw.1.1) ?_ | refine VrN.norm (wrap_i64 (by omega)) ?_ | refine VrN.keep ?_ | refine DrawN.calm (by decide +kernel) ?_ | refine Nd.mk (by decide +kernel) ?_ | refine Nd.mk (by omega) ?_ | refine RdN.intro _ rfl (by rfl) ?_); (conv => whnf))))
 refine ReadC.idxA (e := 57) (sz := 5) j rfl Tryz.underlying23 rfl rfl rfl rfl hsa hjl ?_
 ((conv => whnf); (repeat ((first | refine Nd.mk (fun w hw => hw.1.1) ?_ | refine VrN.norm (wrap_i64 (by omega)) ?_ | refine VrN.keep ?_ | refine DrawN.calm (by decide +kernel) ?_ | refine Nd.mk (by decide +kernel) ?_ | refine Nd.mk (by omega) ?_ | refine RdN.intro _ rfl (by rfl) ?_); (conv => whnf))))
 refine ReadC.agg (cellC q) rfl rfl rfl (fun w hw => hw) rfl (fun k hk => grC_get l j k hk hq) ?_
 ((conv => whnf); (repeat ((first | refine Nd.mk (fun w hw => hw.1.1) ?_ | refine VrN.norm (wrap_i64 (by omega)) ?_ | refine VrN.keep ?_ | refine DrawN.calm (by decide +kernel) ?_ | refine Nd.mk (by decide +kernel) ?_ | refine Nd.mk (by omega) ?_ | refine RdN.intro _ rfl (by rfl) ?_); (conv => whnf))))
 refine brd_eq (fun hab => ?_) (fun hab => ?_)
 ·refine wX ?_
  exact out_bool (by simp [hab])
 ·refine wX ?_
  refine call1 (isLeaf_c p.c.kind _) ?_
  rw [show decide (p.c.kind ≤ 5) = isLeaf p.c from rfl]
  cases hl : isLeaf p.c with
  | false =>
   refine wX ?_
   exact out_bool (by unfold oneKeyB; rw [hl]; simp [hab])
  | true =>
   refine wX ?_
   refine brd_eq (fun h1 => ?_) (fun h1 => ?_)
   ·refine wX ?_
    refine brd_eq (fun h2 => ?_) (fun h2 => ?_)
    ·refine wX ?_
     exact out_bool (by unfold oneKeyB; rw [hl, txt_eq]; simp [hab, h1, h2])
    ·refine wX ?_
     exact out_bool (by unfold oneKeyB; rw [hl]; simp [hab, h1, h2])
   ·refine wX ?_
    exact out_bool (by unfold oneKeyB; rw [hl]; simp [hab, h1])
theorem okey_c (a : Option Addr) (c : Nat) (l : List CellP) (i j : Nat) (p q : CellP) (hp : l[i]? = some p) (hq : l[j]? = some q) (ha : a = none → l = []) (hl : l.length ≤ 200000000000000) : ∀ H, (∀ w, Facts H w → GrF a l w) → SpecH Tryz.prog 52 (pvs [.slice a l.length c, .int .i64 (i : Int), .int .i64 (j : Int)]) H (Ret (.bool (decide ((i : Int) = j) || oneKeyB p.c q.c)) H) := by
 refine factC hm Tryz.func52 (by kernel_rfl) rfl rfl ?_
 have hil := (List.getElem?_eq_some_iff.1 hp).1
 have hjl := (List.getElem?_eq_some_iff.1 hq).1
 have hsa : a.isSome = true := by
  cases a with
  | none => rw [ha rfl] at hp; cases hp
  | some b => rfl
 refine wX ?_
 refine Nd.mk ⟨hsa, by omega, by omega⟩ ?_
 refine wX ?_
 refine LdN.agg (cellC p) rfl (fun w hw => hw.1.1) rfl (fun k hk => by rw [Int.toNat_natCast]; exact grC_get l i k hk hp) ?_
 refine wX ?_
 refine Nd.mk ⟨hsa, by omega, by omega⟩ ?_
 refine wX ?_
 refine LdN.agg (cellC q) rfl (fun w hw => hw.1.1) rfl (fun k hk => by rw [Int.toNat_natCast]; exact grC_get l j k hk hq) ?_
 refine wX ?_
 refine brd_eq (fun hab => ?_) (fun hab => ?_)
 ·refine wX ?_
  exact out_bool (by simp [hab])
 ·refine wX ?_
  refine call1 (leaf_c p _) ?_
  cases hl : isLeaf p.c with
  | false =>
   refine wX ?_
   exact out_bool (by unfold oneKeyB; rw [hl]; simp [hab])
  | true =>
   refine wX ?_
   refine brd_eq (fun h1 => ?_) (fun h1 => ?_)
   ·refine wX ?_
    refine brd_eq (fun h2 => ?_) (fun h2 => ?_)
    ·refine wX ?_
     exact out_bool (by unfold oneKeyB; rw [hl, txt_eq]; simp [hab, h1, h2])
    ·refine wX ?_
     exact out_bool (by unfold oneKeyB; rw [hl]; simp [hab, h1, h2])
   ·refine wX ?_
    exact out_bool (by unfold oneKeyB; rw [hl]; simp [hab, h1])
end Go.Proofs.YtgogonnnojcioaaGreatDoor
namespace Go.Proofs.YtgogonnnojcioaaGreatDoor
open Go.AX Go.RowKit Go.Core
set_option maxRecDepth 20000
theorem alike_no {x y : Cell} (h : ¬ (x.kind = y.kind ∧ x.num = y.num ∧ x.text = y.text ∧ x.names = y.names ∧ x.items.length = y.items.length)) : alikeB x y = false := by
 cases hb : alikeB x y with
 | false => rfl
 | true => exact absurd (alike_to hb) h
theorem names_at {l m : List (List UInt8)} {i : Nat} (h : l.take i = m.take i) {s t : List UInt8} (hs : l[i]? = some s) (ht : m[i]? = some t) (e : s = t) : l.take (i + 1) = m.take (i + 1) := by
 rw [List.take_add_one, List.take_add_one, h, hs, ht, e]
set_option maxHeartbeats 1000000 in
theorem alike_c (p q : CellP) (hp : CellOk p) (hq : CellOk q) : ∀ H, (∀ w, Facts H w → CellF p w ∧ CellF q w) → SpecH Tryz.prog 48 (pvs [cellV p, cellV q]) H (Ret (.bool (alikeB p.c q.c)) H) := by
 refine factC hm Tryz.func48 (by kernel_rfl) rfl rfl ?_
 have hnl := hp.nl
 have hnl2 := hq.nl
 refine wX ?_
 refine brd_ne (fun h1 => ?_) (fun h1 => ?_)
 ·refine wX ?_
  exact out_bool (alike_no (fun h => h1 h.1)).symm
 refine wX ?_
 refine brd_ne (fun h2 => ?_) (fun h2 => ?_)
 ·refine wX ?_
  exact out_bool (alike_no (fun h => h2 h.2.1)).symm
 refine wX ?_
 rw [bne, txt_eq]
 cases h3 : p.c.text == q.c.text with
 | false =>
  refine wX ?_
  exact out_bool (alike_no (fun h => by rw [h.2.2.1] at h3; simp at h3)).symm
 | true =>
  have h3' : p.c.text = q.c.text := eq_of_beq h3
  refine wX ?_
  refine brd_ne (fun h4 => ?_) (fun h4 => ?_)
  ·refine wX ?_
   exact out_bool (alike_no (fun h => h4 (by rw [h.2.2.2.2]))).symm
  refine wX ?_
  refine brd_ne (fun h5 => ?_) (fun h5 => ?_)
  ·refine wX ?_
   exact out_bool (alike_no (fun h => h5 (by rw [h.2.2.2.1]))).symm
  have hlen : p.c.names.length = q.c.names.length := by omega
  refine wX ?_
  refine loopS Nat (fun i => i ≤ p.c.names.length ∧ p.c.names.take i = q.c.names.take i) (fun i => mkS Tryz.f48.ntmps 0 [(2, .c (.lp 1 0)), (3, .c (.lp 2 0)), (5, .c (.v (.int .i64 (i : Int))))]) (fun i => p.c.names.length - i) rfl (fun _ => rfl) 0 ⟨Nat.zero_le _, rfl⟩ ?_ ?_
  ·exact wKK
  intro i ⟨hi, he⟩
  refine wX ?_
  refine brd_dec (fun h6 => ?_) (fun h6 => ?_)
  ·obtain ⟨s, hs⟩ : ∃ s, p.c.names[i]? = some s := ⟨_, List.getElem?_eq_getElem (by omega)⟩
   obtain ⟨t, ht⟩ : ∃ t, q.c.names[i]? = some t := ⟨_, List.getElem?_eq_getElem (by omega)⟩
   have hsa : p.na.isSome = true := by
    cases hna : p.na with
    | none => rw [hp.na hna] at hs; cases hs
    | some b => rfl
   have hsb : q.na.isSome = true := by
    cases hna : q.na with
    | none => rw [hq.na hna] at ht; cases ht
    | some b => rfl
   refine wX ?_
   refine Nd.mk ⟨hsa, by omega, by omega⟩ ?_
   refine wX ?_
   refine LdN.one (.string (bs s)) rfl (fun w hw => hw.1.1.1) (by rw [Int.toNat_natCast]; show (strC p.c.names)[i * 1]? = _; rw [Nat.mul_one]; exact strC_get hs) ?_
   refine wX ?_
   refine Nd.mk ⟨hsb, by omega, by omega⟩ ?_
   refine wX ?_
   refine LdN.one (.string (bs t)) rfl (fun w hw => hw.1.2.1) (by rw [Int.toNat_natCast]; show (strC q.c.names)[i * 1]? = _; rw [Nat.mul_one]; exact strC_get ht) ?_
   refine wX ?_
   first | rw [bne, txt_eq] | rw [txt_eq] | (trace_state; rw [bne])
   cases hst : s == t with
   | false =>
    refine wX ?_
    exact out_bool (alike_no (fun h => by
     rw [h.2.2.2.1, ht] at hs
     rw [Option.some.inj hs] at hst
     simp at hst)).symm
   | true =>
    refine wX ?_
    refine ⟨i + 1, ⟨by omega, names_at he hs ht (eq_of_beq hst)⟩, by omega, ?_, wHH⟩
    exact wKK
  ·have hin : i = p.c.names.length := by omega
   subst hin
   rw [List.take_length, hlen, List.take_length] at he
   refine wX ?_
   exact out_bool (alike_of h1 h2 h3' he (by omega)).symm
end Go.Proofs.YtgogonnnojcioaaGreatDoor
namespace Go.Proofs.YtgogonnnojcioaaGreatDoor
open Go.AX Go.RowKit Go.Core
set_option maxRecDepth 20000
end Go.Proofs.YtgogonnnojcioaaGreatDoor
namespace Go.Proofs.YtgogonnnojcioaaGreatDoor
open Go.AX Go.RowKit Go.Scan
set_option maxRecDepth 20000
theorem isWords_c (s : List UInt8) (hs : s.length ≤ 200000000000000) : ∀ H, SpecH Tryz.prog 131 (pvs [.string (bs s)]) H (Ret (.bool (iwB s)) H) := by
 refine pureC hm Tryz.func131 (by kernel_rfl) rfl rfl ?_
 have hz := bs_size s
 refine wX ?_
 rw [hz]
 refine loopS Nat (fun i => i ≤ s.length ∧ (s.take i).all wrd = true) (fun i => mkS Tryz.f131.ntmps 0 [(0, .c (.v (.string (bs s)))), (5, .c (.v (.int .i64 (s.length : Int)))), (6, .c (.v (.int .i64 (i : Int))))]) (fun i => s.length - i) rfl (fun _ => rfl) 0 ⟨Nat.zero_le _, rfl⟩ ?_ ?_
 ·exact wKK
 intro i ⟨hi, hall⟩
 refine wX ?_
 refine brd_dec (fun h1 => ?_) (fun h1 => ?_)
 ·obtain ⟨c, hc⟩ : ∃ c, s[i]? = some c := ⟨_, List.getElem?_eq_getElem (by omega)⟩
  refine wX ?_
  try refine Nd.mk ⟨by omega, by rw [hz]; exact h1⟩ ?_
  refine wX ?_
  rw [Int.toNat_natCast, byteAt_get hc]
  refine call1 (wrd_c c _) ?_
  cases hw : wrd c with
  | true =>
   refine wX ?_
   refine ⟨i + 1, ⟨by omega, ?_⟩, by omega, ?_, wHH⟩
   ·rw [List.take_add_one, hc, List.all_append, hall]
    simp [hw]
   ·exact wKK
  | false =>
   refine wX ?_
   refine ret_b ?_
   have : s.all wrd = false := by
    rw [Bool.eq_false_iff]
    intro h
    have := List.all_eq_true.1 h c (List.mem_of_getElem? hc)
    rw [hw] at this
    cases this
   simp [iwB, this]
 ·have hie : i = s.length := by omega
  subst hie
  rw [List.take_length] at hall
  cases s with
  | nil =>
   refine wX ?_
   exact ret_b (by simp [iwB])
  | cons c r =>
   have hz2 : (bs (c :: r)).size = (c :: r).length := hz
   refine wX ?_
   rw [hz2]
   refine brd_dec (fun h2 => ?_) (fun h2 => ?_)
   ·have hl2 : (c :: r).length ≤ 40 := by omega
    refine wX ?_
    try refine Nd.mk ⟨by omega, by rw [hz2, List.length_cons]; omega⟩ ?_
    refine wX ?_
    rw [show byteAt (bs (c :: r)) (Int.toNat 0) = (c.toNat : Int) from byteAt_get (l := c :: r) (i := 0) rfl]
    refine call1 (dig_c c _) ?_
    refine wX ?_
    refine ret_b ?_
    simp only [iwB, hall, hd, List.headD_cons, List.isEmpty_cons, decide_eq_true hl2]
    simp
   ·have hl2 : ¬ (c :: r).length ≤ 40 := by omega
    refine wX ?_
    refine ret_b ?_
    simp only [iwB, decide_eq_false hl2]
    simp
theorem iw_cons {b : List UInt8} (h : iwB b = true) : ∃ y q, b = y :: q := by
 cases b with
 | nil => simp [iwB] at h
 | cons y q => exact ⟨y, q, rfl⟩
theorem IsConst_c (s : List UInt8) (hs : s.length ≤ 200000000000000) : ∀ H, SpecH Tryz.prog 108 (pvs [.string (bs s)]) H (Ret (.bool (icB s)) H) := by
 refine pureC hm Tryz.func108 (by kernel_rfl) rfl rfl ?_
 refine wX ?_
 refine call1 (isWords_c s hs _) ?_
 cases hi : iwB s with
 | false =>
  refine wX ?_
  exact ret_b (by simp [icB, hi])
 | true =>
  obtain ⟨y, q, rfl⟩ := iw_cons hi
  have hyl : (bs (y :: q)).size = q.length + 1 := by rw [bs_size]; rfl
  refine wX ?_
  try refine Nd.mk ⟨by omega, by rw [hyl]; omega⟩ ?_
  refine wX ?_
  rw [show byteAt (bs (y :: q)) (Int.toNat 0) = (y.toNat : Int) from byteAt_get (l := y :: q) (i := 0) rfl]
  refine call1 (sml_c y _) ?_
  refine wX ?_
  exact ret_b (by simp [icB, hi, hd])
theorem IsIvar_c (s : List UInt8) (hs : s.length ≤ 200000000000000) : ∀ H, SpecH Tryz.prog 115 (pvs [.string (bs s)]) H (Ret (.bool (iiB s)) H) := by
 refine pureC hm Tryz.func115 (by kernel_rfl) rfl rfl ?_
 have hz := bs_size s
 refine wX ?_
 rw [hz]
 refine brd_dec (fun h1 => ?_) (fun h1 => ?_)
 ·match s, hs, hz, h1 with
  | [], _, _, h1 => exact absurd h1 (by decide)
  | [_], _, _, h1 => exact absurd h1 (by simp)
  | c :: d :: r, hs, hz, h1 =>
   have h64 : ((c.toNat : Int) == 64) = (c == 64) := u8_eq (n := 64) (by decide)
   have hl : (c :: d :: r).length = r.length + 2 := rfl
   refine wX ?_
   try refine Nd.mk ⟨by omega, by rw [hz]; omega⟩ ?_
   refine wX ?_
   rw [show byteAt (bs (c :: d :: r)) (Int.toNat 0) = (c.toNat : Int) from byteAt_get (l := c :: d :: r) (i := 0) rfl, h64]
   cases e64 : c == 64 with
   | false =>
    refine wX ?_
    exact ret_b (by simp only [iiB, hd, List.headD_cons, e64]; simp)
   | true =>
    refine wX ?_
    refine ReadW.sl_l 1 rfl Tryz.underlying9 rfl rfl ⟨rfl, by omega⟩ ?_
    refine wX ?_
    refine call1 (isWords_c (d :: r) (by simp at hs ⊢; omega) _) ?_
    cases hi : iwB (d :: r) with
    | false =>
     refine wX ?_
     exact ret_b (by simp only [iiB, List.tail_cons, hi]; simp)
    | true =>
     refine wX ?_
     try refine Nd.mk ⟨by omega, by rw [hz]; omega⟩ ?_
     refine wX ?_
     rw [show byteAt (bs (c :: d :: r)) (Int.toNat 1) = (d.toNat : Int) from byteAt_get (l := c :: d :: r) (i := 1) rfl]
     refine call1 (sml_c d _) ?_
     cases hs2 : sml d with
     | false =>
      refine wX ?_
      exact ret_b (by simp only [iiB, List.tail_cons, hd, List.headD_cons, hs2]; simp)
     | true =>
      refine wX ?_
      rw [hz]
      refine ret_b ?_
      have hdec : decide (1 < (c :: d :: r).length) = true := by simp
      simp only [iiB, hdec, List.tail_cons, hd, List.headD_cons, hs2, e64, hi]
      simp
      omega
 ·have hdec : decide (1 < s.length) = false := decide_eq_false (by omega)
  refine wX ?_
  exact ret_b (by simp only [iiB, hdec]; simp)
end Go.Proofs.YtgogonnnojcioaaGreatDoor
namespace Go.Proofs.YtgogonnnojcioaaGreatDoor
open Go.AX Go.RowKit Go.Core Go.Scan
set_option maxRecDepth 20000
theorem letter_c (c : UInt8) : ∀ H, SpecH Tryz.prog 118 (pvs [.int .u8 (c.toNat : Int)]) H (Ret (.bool (ltr c)) H) := by
 refine pureC hm Tryz.func118 (by kernel_rfl) rfl rfl ?_
 refine wX ?_
 (repeat' (first | (refine brd_dec (fun _ => ?_) (fun _ => ?_)) | (refine brd_eq (fun _ => ?_) (fun _ => ?_))))
 all_goals (first | refine wX ?_ | exact wZ)
 (repeat' (first | (refine brd_dec (fun _ => ?_) (fun _ => ?_)) | (refine brd_eq (fun _ => ?_) (fun _ => ?_))))
 all_goals (first | refine wX ?_ | exact wZ)
 (repeat' (first | (refine brd_dec (fun _ => ?_) (fun _ => ?_)) | (refine brd_eq (fun _ => ?_) (fun _ => ?_))))
 all_goals (first | refine wX ?_ | exact wZ)
 (repeat' (first | (refine brd_dec (fun _ => ?_) (fun _ => ?_)) | (refine brd_eq (fun _ => ?_) (fun _ => ?_))))
 all_goals (first | refine wX ?_ | exact wZ)
 (repeat' (first | (refine brd_dec (fun _ => ?_) (fun _ => ?_)) | (refine brd_eq (fun _ => ?_) (fun _ => ?_))))
 all_goals (first | refine wX ?_ | exact wZ)
 all_goals
  refine ret_b ?_
  simp [ltr, sml, grt]
  try omega
set_option maxHeartbeats 1000000 in
theorem dword_c (s : List UInt8) (great : Bool) (hs : s.length ≤ 200000000000000) : ∀ H, SpecH Tryz.prog 94 (pvs [.string (bs s), .bool great]) H (Ret (.bool (wordD s great)) H) := by
 refine pureC hm Tryz.func94 (by kernel_rfl) rfl rfl ?_
 cases s with
 | nil =>
  refine wX ?_
  exact ret_b (by simp [wordD])
 | cons c r =>
  have hz : (bs (c :: r)).size = r.length + 1 := bs_size (c :: r)
  have h0 : byteAt (bs (c :: r)) (Int.toNat 0) = (c.toNat : Int) := byteAt_get (l := c :: r) (i := 0) rfl
  refine wX ?_
  rw [hz]
  refine brd_dec (fun h1 => ?_) (fun h1 => ?_)
  ·refine wX ?_
   exact ret_b (by unfold wordD; rw [show decide ((c :: r).length ≤ 40) = false from decide_eq_false (by simp only [List.length_cons]; omega)]; simp)
  have hl : decide ((c :: r).length ≤ 40) = true := decide_eq_true (by simp only [List.length_cons]; omega)
  refine wX ?_
  try refine Nd.mk ⟨by omega, by rw [hz]; omega⟩ ?_
  refine wX ?_
  rw [h0]
  refine call1 (letter_c c _) ?_
  cases hlt : ltr c with
  | false =>
   refine wX ?_
   exact ret_b (by unfold wordD; rw [hl]; simp [hd, hlt])
  | true =>
   refine wX ?_
   have hgr : ∀ b : Bool, b = grt c → (b != great) = !(grt c == great) := fun b hb => by rw [hb]; rfl
   refine brd_dec (fun h2 => ?_) (fun h2 => ?_)
   ·refine wX ?_
    try refine Nd.mk ⟨by omega, by rw [hz]; omega⟩ ?_
    refine wX ?_
    rw [h0, show (decide ((c.toNat : Int) ≤ 90) == great) = (grt c == great) by rw [show grt c = decide ((c.toNat : Int) ≤ 90) by unfold grt; rw [decide_eq_true (show 65 ≤ c.toNat by omega), Bool.true_and]; exact decide_eq_decide.2 (by omega)]]
    cases hgg : grt c == great with
    | false =>
     refine wX ?_
     exact ret_b (by unfold wordD; rw [hl]; simp [hd, hlt, hgg])
    | true =>
     refine wX ?_
     refine loopS Nat (fun i => i ≤ r.length ∧ (r.take i).all wrd = true) (fun i => mkS Tryz.f94.ntmps 0 [(0, .c (.v (.string (bs (c :: r))))), (5, .c (.v (.int .i64 ((i + 1 : Nat) : Int))))]) (fun i => r.length - i) rfl (fun _ => rfl) 0 ⟨Nat.zero_le _, rfl⟩ ?_ ?_
     ·exact wKK
     intro i ⟨hi, hall⟩
     refine wX ?_
     rw [hz]
     refine brd_dec (fun h3 => ?_) (fun h3 => ?_)
     ·obtain ⟨d, hd1⟩ : ∃ d, r[i]? = some d := ⟨_, List.getElem?_eq_getElem (by omega)⟩
      have h5 : byteAt (bs (c :: r)) (i + 1) = (d.toNat : Int) := byteAt_get (l := c :: r) (i := i + 1) (by simpa using hd1)
      have hwd : wrd d = (ltr d || dig d) := rfl
      refine wX ?_
      try refine Nd.mk ⟨by omega, by rw [hz]; omega⟩ ?_
      refine wX ?_
      rw [Int.toNat_natCast, h5]
      refine call1 (letter_c d _) ?_
      have hbad : wrd d = false → wordD (c :: r) great = false := fun h => by
       have hra : r.all wrd = false := by
        rw [Bool.eq_false_iff]
        intro h6
        have := List.all_eq_true.1 h6 d (List.mem_of_getElem? hd1)
        rw [h] at this
        cases this
       have hra2 : (r.all fun c => ltr c || dig c) = false := hra
       unfold wordD
       rw [List.tail_cons, hra2, Bool.and_false]
      cases hld : ltr d with
      | true =>
       refine wX ?_
       refine ⟨i + 1, ⟨by omega, ?_⟩, by omega, ?_, wHH⟩
       ·rw [List.take_add_one, hd1, List.all_append, hall]
        simp [hwd, hld]
       ·exact wKK
      | false =>
       refine wX ?_
       try refine Nd.mk ⟨by omega, by rw [hz]; omega⟩ ?_
       refine wX ?_
       rw [Int.toNat_natCast, h5]
       refine brd_dec (fun h6 => ?_) (fun h6 => ?_)
       ·refine wX ?_
        exact ret_b (by rw [hbad (by rw [hwd, hld]; unfold dig; rw [decide_eq_false (show ¬ 48 ≤ d.toNat by omega)]; rfl)])
       ·refine wX ?_
        try refine Nd.mk ⟨by omega, by rw [hz]; omega⟩ ?_
        refine wX ?_
        rw [Int.toNat_natCast, h5]
        refine brd_dec (fun h7 => ?_) (fun h7 => ?_)
        ·refine wX ?_
         exact ret_b (by rw [hbad (by rw [hwd, hld]; unfold dig; rw [decide_eq_false (show ¬ d.toNat ≤ 57 by omega), Bool.and_false]; rfl)])
        ·refine wX ?_
         refine ⟨i + 1, ⟨by omega, ?_⟩, by omega, ?_, wHH⟩
         ·rw [List.take_add_one, hd1, List.all_append, hall]
          simp [hwd, hld, dig]
          omega
         ·exact wKK
     ·have hin : i = r.length := by omega
      subst hin
      rw [List.take_length] at hall
      refine wX ?_
      exact ret_b (by unfold wordD; rw [hl]; simp only [List.isEmpty_cons, Bool.not_false, Bool.true_and, hd, List.headD_cons, hlt, hgg, List.tail_cons]; exact ⟨fun _ => hall, fun _ => trivial⟩)
   ·refine wX ?_
    rw [show (false == great) = (grt c == great) by rw [show grt c = false by unfold grt; rw [decide_eq_false (show ¬ 65 ≤ c.toNat by omega), Bool.false_and]]]
    cases hgg : grt c == great with
    | false =>
     refine wX ?_
     exact ret_b (by unfold wordD; rw [hl]; simp [hd, hlt, hgg])
    | true =>
     refine wX ?_
     refine loopS Nat (fun i => i ≤ r.length ∧ (r.take i).all wrd = true) (fun i => mkS Tryz.f94.ntmps 0 [(0, .c (.v (.string (bs (c :: r))))), (5, .c (.v (.int .i64 ((i + 1 : Nat) : Int))))]) (fun i => r.length - i) rfl (fun _ => rfl) 0 ⟨Nat.zero_le _, rfl⟩ ?_ ?_
     ·exact wKK
     intro i ⟨hi, hall⟩
     refine wX ?_
     rw [hz]
     refine brd_dec (fun h3 => ?_) (fun h3 => ?_)
     ·obtain ⟨d, hd1⟩ : ∃ d, r[i]? = some d := ⟨_, List.getElem?_eq_getElem (by omega)⟩
      have h5 : byteAt (bs (c :: r)) (i + 1) = (d.toNat : Int) := byteAt_get (l := c :: r) (i := i + 1) (by simpa using hd1)
      have hwd : wrd d = (ltr d || dig d) := rfl
      refine wX ?_
      try refine Nd.mk ⟨by omega, by rw [hz]; omega⟩ ?_
      refine wX ?_
      rw [Int.toNat_natCast, h5]
      refine call1 (letter_c d _) ?_
      have hbad : wrd d = false → wordD (c :: r) great = false := fun h => by
       have hra : r.all wrd = false := by
        rw [Bool.eq_false_iff]
        intro h6
        have := List.all_eq_true.1 h6 d (List.mem_of_getElem? hd1)
        rw [h] at this
        cases this
       have hra2 : (r.all fun c => ltr c || dig c) = false := hra
       unfold wordD
       rw [List.tail_cons, hra2, Bool.and_false]
      cases hld : ltr d with
      | true =>
       refine wX ?_
       refine ⟨i + 1, ⟨by omega, ?_⟩, by omega, ?_, wHH⟩
       ·rw [List.take_add_one, hd1, List.all_append, hall]
        simp [hwd, hld]
       ·exact wKK
      | false =>
       refine wX ?_
       try refine Nd.mk ⟨by omega, by rw [hz]; omega⟩ ?_
       refine wX ?_
       rw [Int.toNat_natCast, h5]
       refine brd_dec (fun h6 => ?_) (fun h6 => ?_)
       ·refine wX ?_
        exact ret_b (by rw [hbad (by rw [hwd, hld]; unfold dig; rw [decide_eq_false (show ¬ 48 ≤ d.toNat by omega)]; rfl)])
       ·refine wX ?_
        try refine Nd.mk ⟨by omega, by rw [hz]; omega⟩ ?_
        refine wX ?_
        rw [Int.toNat_natCast, h5]
        refine brd_dec (fun h7 => ?_) (fun h7 => ?_)
        ·refine wX ?_
         exact ret_b (by rw [hbad (by rw [hwd, hld]; unfold dig; rw [decide_eq_false (show ¬ d.toNat ≤ 57 by omega), Bool.and_false]; rfl)])
        ·refine wX ?_
         refine ⟨i + 1, ⟨by omega, ?_⟩, by omega, ?_, wHH⟩
         ·rw [List.take_add_one, hd1, List.all_append, hall]
          simp [hwd, hld, dig]
          omega
         ·exact wKK
     ·have hin : i = r.length := by omega
      subst hin
      rw [List.take_length] at hall
      refine wX ?_
      exact ret_b (by unfold wordD; rw [hl]; simp only [List.isEmpty_cons, Bool.not_false, Bool.true_and, hd, List.headD_cons, hlt, hgg, List.tail_cons]; exact ⟨fun _ => hall, fun _ => trivial⟩)
end Go.Proofs.YtgogonnnojcioaaGreatDoor
namespace Go.Proofs.YtgogonnnojcioaaGreatDoor
open Go.AX Go.RowKit Go.Core Go.Scan
set_option maxRecDepth 20000
theorem dConst_c (s : List UInt8) (hs : s.length ≤ 200000000000000) : ∀ H, SpecH Tryz.prog 76 (pvs [.string (bs s)]) H (Ret (.bool (constD s)) H) := by
 refine pureC hm Tryz.func76 (by kernel_rfl) rfl rfl ?_
 refine wX ?_
 refine call1 (dword_c s true hs _) ?_
 refine wX ?_
 rfl
theorem dIvar_c (s : List UInt8) (hs : s.length ≤ 200000000000000) : ∀ H, SpecH Tryz.prog 77 (pvs [.string (bs s)]) H (Ret (.bool (ivarD s)) H) := by
 refine pureC hm Tryz.func77 (by kernel_rfl) rfl rfl ?_
 have hz := bs_size s
 refine wX ?_
 rw [hz]
 refine brd_dec (fun h1 => ?_) (fun h1 => ?_)
 ·refine wX ?_
  rw [hz]
  refine brd_dec (fun h2 => ?_) (fun h2 => ?_)
  ·cases s with
   | nil => exact absurd h2 (by decide)
   | cons c r =>
    have hz2 : (bs (c :: r)).size = r.length + 1 := hz
    have h64 : ((c.toNat : Int) == 64) = (c == 64) := u8_eq (n := 64) (by decide)
    have e1 : decide ((c :: r).length ≤ 40) = true := decide_eq_true (by omega)
    have e2 : decide (1 < (c :: r).length) = true := decide_eq_true (by omega)
    refine wX ?_
    try refine Nd.mk ⟨by omega, by rw [hz2]; omega⟩ ?_
    refine wX ?_
    rw [show byteAt (bs (c :: r)) (Int.toNat 0) = (c.toNat : Int) from byteAt_get (l := c :: r) (i := 0) rfl, h64]
    cases e64 : c == 64 with
    | false =>
     refine wX ?_
     exact ret_b (by unfold ivarD; rw [e1, e2]; simp only [hd, List.headD_cons, e64]; simp)
    | true =>
     refine wX ?_
     refine ReadW.sl_l 1 rfl Tryz.underlying9 rfl rfl ⟨rfl, by omega⟩ ?_
     refine wX ?_
     refine call1 (dword_c r false (by simp at hs; omega) _) ?_
     refine wX ?_
     exact ret_b (by unfold ivarD; rw [e1, e2]; simp only [hd, List.headD_cons, e64, List.tail_cons, Bool.true_and])
  ·refine wX ?_
   exact ret_b (by unfold ivarD; rw [decide_eq_false (show ¬ 1 < s.length by omega)]; simp)
 ·refine wX ?_
  exact ret_b (by unfold ivarD; rw [decide_eq_false (show ¬ s.length ≤ 40 by omega)]; simp)
theorem dHas_c (a : Option Addr) (c : Nat) (l : List (List UInt8)) (x : List UInt8) (ha : a = none → l = []) (hl : l.length ≤ 200000000000000) : ∀ H, (∀ w, Facts H w → SlAt a (l.length * 1) (strC l) w) → SpecH Tryz.prog 78 (pvs [.slice a l.length c, .string (bs x)]) H (Ret (.bool (decide (x ∈ l))) H) := by
 refine factC hm Tryz.func78 (by kernel_rfl) rfl rfl ?_
 refine wX ?_
 refine loopS Nat (fun i => i ≤ l.length ∧ x ∉ l.take i) (fun i => mkS Tryz.f78.ntmps 0 [(0, .c (.v (.slice a l.length c))), (1, .c (.v (.string (bs x)))), (5, .c (.v (.int .i64 (i : Int))))]) (fun i => l.length - i) rfl (fun _ => rfl) 0 ⟨Nat.zero_le _, by simp⟩ ?_ ?_
 ·exact wKK
 intro i ⟨hi, hno⟩
 refine wX ?_
 refine brd_dec (fun h1 => ?_) (fun h1 => ?_)
 ·obtain ⟨s, hs⟩ : ∃ s, l[i]? = some s := ⟨_, List.getElem?_eq_getElem (by omega)⟩
  have hsa : a.isSome = true := by
   cases a with
   | none => rw [ha rfl] at hs; cases hs
   | some b => rfl
  refine wX ?_
  refine Nd.mk ⟨hsa, by omega, by omega⟩ ?_
  refine wX ?_
  refine LdN.one (.string (bs s)) rfl (fun w hw => hw.1) (by rw [Int.toNat_natCast]; show (strC l)[i * 1]? = _; rw [Nat.mul_one]; exact strC_get hs) ?_
  refine wX ?_
  rw [txt_eq]
  cases hsx : s == x with
  | true =>
   refine wX ?_
   exact out_bool (decide_eq_true (eq_of_beq hsx ▸ List.mem_of_getElem? hs)).symm
  | false =>
   refine wX ?_
   refine ⟨i + 1, ⟨by omega, ?_⟩, by omega, ?_, wHH⟩
   ·rw [List.take_add_one, hs]
    intro h
    rcases List.mem_append.1 h with h | h
    ·exact hno h
    ·rw [List.mem_singleton.1 (show x ∈ [s] from h)] at hsx
     simp at hsx
   ·exact wKK
 ·have hin : i = l.length := by omega
  subst hin
  rw [List.take_length] at hno
  refine wX ?_
  exact out_bool (decide_eq_false hno).symm
end Go.Proofs.YtgogonnnojcioaaGreatDoor
namespace Go.AX
theorem ReadW.askMap {P : Program} {o : Oper} {s : List AV} {H : List Ent} {K : AV → Prop} {t kt et : TypeId} {m k : Operand} {b c : Nat} {es : Array MapEntry} {κ : IntKind} {n : Int} {inf : TypeInfo} {z : Value} (r : Option (Nat × Value)) (ho : o.op = .lookup t m k true) (ht : P.underlying t = some (.map kt et)) (hkt : P.underlying kt = some (.int κ)) (hi : P.info? et = some inf) (hz : inf.zero = some z)
  (hm : opv s m = .c (.v (.map (some b)))) (hk : opv s k = .c (.v (.int κ n))) (hF : ∀ w, Facts H w → w.heap[b]? = some (.map es c)) (hf : Instr.findNow (.int κ) (.int κ n) es.toList 0 = some r) (h : K (.c (.v (.tuple #[(r.map Prod.snd).getD z, .bool r.isSome])))) : ReadW P o s H K :=
 ReadW.val (.tuple #[(r.map Prod.snd).getD z, .bool r.isSome]) (fun cs b e => by rw [ho] at e; cases e) (by rw [ho]; show allPlain s [m, k] = true; simp [allPlain, hm, hk]) (fun w hw => by
  have hb := hF w hw
  have hc : (Instr.checkKey es.isEmpty 10000 kt (.int κ n)).run P w = .ok () w := MapKept.run_checkKey (k := .int κ n) hkt (by simp [MapKept.IsKey]) es.isEmpty 9999
  have hrun : (Instr.lookup t (.map (some b)) (.int κ n) true).run P w = .ok (.tuple #[(r.map Prod.snd).getD z, .bool r.isSome]) w := by
   cases r with
   | none => simp [Instr.lookup, run_underlying ht, MapKept.run_getObj_map hb, hc, MapKept.run_findKey hkt hf, Result.andThen, run_zeroValue hi hz]
   | some q => simp [Instr.lookup, run_underlying ht, MapKept.run_getObj_map hb, hc, MapKept.run_findKey hkt hf, Result.andThen]
  unfold execOp
  simp only [ho, plainEv_v hm, plainEv_v hk, Sem.run_bind, hrun, Result.andThen_ok, Sem.run_pure]) h
theorem ReadW.slc_hi {P : Program} {o : Oper} {s : List AV} {H : List Ent} {K : AV → Prop} {t : TypeId} {x z : Operand} {a : Option Addr} {n cap : Nat} {k : IntKind} {j : Int} (ho : o.op = .slice t x none (some z) none) (hu : slcB P t = true)
  (hx : opv s x = .c (.v (.slice a n cap))) (hz : opv s z = .c (.v (.int k j))) (hj : 0 ≤ j ∧ j ≤ (cap : Int)) (h : K (.c (.v (.slice a j.toNat cap)))) : ReadW P o s H K := by
 obtain ⟨e, inf, hu, hi⟩ := slcB_spec hu
 refine ReadW.val _ (fun cs b => by rw [ho]; simp) (by rw [ho]; simp [Op.operands, allPlain, hx, hz]) (fun w _ => ?_) h
 have e1 := plainEv_v hx
 have e2 := plainEv_v hz
 have : (Instr.sliceAt t (.slice a n cap) none (some (.int k j)) none).run P w = .ok (.slice a j.toNat cap) w := by
  have ha : a.map (·.add 0) = a := by
   cases a with
   | none => rfl
   | some b => rfl
  simp [Instr.sliceAt, Instr.slice, run_underlying hu, Instr.sliceBounds, Instr.sliceBound, asIntOf, hj, sizeOf, typeInfo, hi, ha]
 refine run_op_slice ho ?_
 rw [e1]
 simpa [e2] using this
def MapIs (κ : IntKind) (es : Array MapEntry) (R : Int → Option Value) : Prop := ∀ k : Int, ∃ i, Instr.findNow (.int κ) (.int κ k) es.toList 0 = some ((R k).map fun v => (i, v))
theorem find_snoc {κ : IntKind} {k k' : Int} {v : Value} {born : Nat} : ∀ (l : List MapEntry) (i : Nat), (∀ q, Instr.findNow (.int κ) (.int κ k) l i = some (some q) → Instr.findNow (.int κ) (.int κ k) (l ++ [{ key := .int κ k', val := v, born := born }]) i = some (some q)) ∧
  (Instr.findNow (.int κ) (.int κ k) l i = some none → Instr.findNow (.int κ) (.int κ k) (l ++ [{ key := .int κ k', val := v, born := born }]) i = some (if k = k' then some (i + l.length, v) else none))
 | [], i => by
  refine ⟨(fun q h => by cases h), fun _ => ?_⟩
  by_cases h : k = k'
  ·subst h
   simp [Instr.findNow, Instr.sameNow]
  ·have hb : (k == k') = false := by simp [h]
   simp [Instr.findNow, Instr.sameNow, hb, h]
 | e :: l, i => by
  obtain ⟨h1, h2⟩ := find_snoc (κ := κ) (k := k) (k' := k') (v := v) (born := born) l (i + 1)
  simp only [List.cons_append, Instr.findNow]
  cases hs : Instr.sameNow (.int κ) (.int κ k) e.key with
  | none => exact ⟨(fun q h => by cases h), (fun h => by cases h)⟩
  | some b =>
   cases b with
   | true => exact ⟨(fun q h => h), (fun h => by cases h)⟩
   | false =>
    refine ⟨fun q h => h1 q h, fun h => ?_⟩
    rw [h2 h]
    simp only [List.length_cons]
    rw [show i + 1 + l.length = i + (l.length + 1) by omega]
theorem MapIs.nil {κ : IntKind} : MapIs κ #[] fun _ => none := fun _ => ⟨0, rfl⟩
theorem MapIs.put {κ : IntKind} {es : Array MapEntry} {R : Int → Option Value} (h : MapIs κ es R) {k' : Int} (hk : R k' = none) (v : Value) (born : Nat) : MapIs κ (es.push { key := .int κ k', val := v, born := born }) fun k => if k = k' then some v else R k := by
 intro k
 obtain ⟨i, hi⟩ := h k
 have hs := find_snoc (κ := κ) (k := k) (k' := k') (v := v) (born := born) es.toList 0
 rw [Array.toList_push]
 by_cases he : k = k'
 ·subst he
  rw [hk] at hi
  refine ⟨0 + es.toList.length, ?_⟩
  rw [hs.2 hi]
  simp
 ·show ∃ i, _ = some (Option.map (fun v => (i, v)) (if k = k' then some v else R k))
  rw [if_neg he]
  cases hr : R k with
  | none =>
   rw [hr] at hi
   exact ⟨0, by rw [hs.2 hi, if_neg he]; rfl⟩
  | some x =>
   rw [hr] at hi
   exact ⟨i, by rw [hs.1 _ hi]; rfl⟩
theorem MapIs.congr {κ : IntKind} {es : Array MapEntry} {R R' : Int → Option Value} (h : MapIs κ es R) (e : ∀ k, R k = R' k) : MapIs κ es R' := fun k => by rw [← e k]; exact h k
theorem MapIs.none {κ : IntKind} {es : Array MapEntry} {R : Int → Option Value} (h : MapIs κ es R) {k : Int} (hk : R k = .none) : Instr.findNow (.int κ) (.int κ k) es.toList 0 = some .none := by
 obtain ⟨i, hi⟩ := h k
 rw [hi, hk]
 rfl
end Go.AX
namespace Go.Proofs.YtgogonnnojcioaaGreatDoor
open Go.AX Go.RowKit Go.Core Go.Scan
set_option maxRecDepth 20000
theorem all_step {α : Type} {Q : α → Prop} {l : List α} {i : Nat} {p : α} (h : ∀ c ∈ l.take i, Q c) (hp : l[i]? = some p) (hq : Q p) : ∀ c ∈ l.take (i + 1), Q c := by
 rw [List.take_add_one, hp]
 intro c hc
 rcases List.mem_append.1 hc with hc | hc
 ·exact h c hc
 ·rw [List.mem_singleton.1 (show c ∈ [p] from hc)]; exact hq
theorem range_no {n : Nat} {c : Cell} {x : Int} (h : x ∈ c.items) (hx : ¬ (0 ≤ x ∧ x < (n : Int))) : cellD n c = false := by
 have : rangeB n c = false := by
  cases hb : rangeB n c with
  | false => rfl
  | true =>
   unfold rangeB at hb
   have := List.all_eq_true.1 hb x h
   simp at this
   exact absurd this hx
 unfold cellD
 rw [this]
 simp
theorem slat_take {a : Option Addr} {l : List (List UInt8)} {w : World} {i : Nat} (h : SlAt a (l.length * 1) (strC l) w) (hi : i ≤ l.length) : SlAt a (i * 1) (strC (l.take i)) w := by
 obtain ⟨h1, h2, h3⟩ := h
 refine ⟨by simp [strC]; omega, fun h => h2 (by omega), fun j hj => ?_⟩
 rw [h3 j (by omega)]
 unfold strC
 rw [List.getElem?_map, List.getElem?_map, List.getElem?_take_of_lt (by omega)]
set_option maxHeartbeats 4000000 in
theorem cell_c0 (a : Option Addr) (ca n : Nat) (hn : n ≤ 200000000000000) (kind num : Int) (text : List UInt8) (names : List (List UInt8)) (items : List Int) (na : Option Addr) (nc : Nat) (ia : Option Addr) (ic : Nat) (hna : na = none → names = []) (hia : ia = none → items = []) (hnl : names.length ≤ 200000000000000) (hil : items.length ≤ 200000000000000) (hnw : ∀ s ∈ names, s.length ≤ 200000000000000) (htl : text.length ≤ 200000000000000) (hnb : names.length ≤ nc) :
  ∀ H, (∀ w, Facts H w → SlAt na (names.length * 1) (strC names) w ∧ SlAt ia (items.length * 1) (iC items) w) → SpecH Tryz.prog 51 (pvs [.slice a n ca, .agg #[.int .i64 kind, .int .i64 num, .string (bs text), .slice na names.length nc, .slice ia items.length ic]]) H (Ret (.bool (cellD n ⟨kind, num, text, names, items⟩)) H) := by
 refine factC hm Tryz.func51 (by kernel_rfl) rfl rfl ?_
 refine wX ?_
 refine loopS Nat (fun i => i ≤ items.length ∧ ∀ x ∈ items.take i, 0 ≤ x ∧ x < (n : Int)) (fun i => mkS Tryz.f51.ntmps 0 [(0, .c (.v (.slice a n ca))), (3, .c (.lp 1 0)), (5, .c (.v (.int .i64 (i : Int))))]) (fun i => items.length - i) rfl (fun _ => rfl) 0 ⟨Nat.zero_le _, by simp⟩ ?_ ?_
 ·exact wKK
 intro i ⟨hi, hr⟩
 refine wX ?_
 refine brd_dec (fun h1 => ?_) (fun h1 => ?_)
 ·obtain ⟨x, hx⟩ : ∃ x, items[i]? = some x := ⟨_, List.getElem?_eq_getElem (by omega)⟩
  have hxm := List.mem_of_getElem? hx
  have hsa : ia.isSome = true := by
   cases ia with
   | none => rw [hia rfl] at hx; cases hx
   | some b => rfl
  refine wX ?_
  refine Nd.mk ⟨hsa, by omega, by omega⟩ ?_
  refine wX ?_
  refine LdN.one (.int .i64 x) rfl (fun w hw => hw.1.2) (by rw [Int.toNat_natCast]; show (iC items)[i * 1]? = _; rw [Nat.mul_one]; exact iC_get hx) ?_
  refine wX ?_
  refine brd_dec (fun h2 => ?_) (fun h2 => ?_)
  ·refine wX ?_
   exact out_bool (range_no (c := ⟨kind, num, text, names, items⟩) hxm (by omega)).symm
  refine wX ?_
  refine Nd.mk ⟨hsa, by omega, by omega⟩ ?_
  refine wX ?_
  refine LdN.one (.int .i64 x) rfl (fun w hw => hw.1.2) (by rw [Int.toNat_natCast]; show (iC items)[i * 1]? = _; rw [Nat.mul_one]; exact iC_get hx) ?_
  refine wX ?_
  refine brd_dec (fun h3 => ?_) (fun h3 => ?_)
  ·refine wX ?_
   exact out_bool (range_no (c := ⟨kind, num, text, names, items⟩) hxm (by omega)).symm
  refine wX ?_
  refine ⟨i + 1, ⟨by omega, all_step hr hx (by omega)⟩, by omega, ?_, wHH⟩
  exact wKK
 have hin : i = items.length := by omega
 subst hin
 rw [List.take_length] at hr
 have hrB : rangeB n ⟨kind, num, text, names, items⟩ = true := List.all_eq_true.2 fun x hx => by have := hr x hx; simp; omega
 clear h1 hi
 refine wX ?_
 refine brd_dec (fun hk0 => ?_) (fun hk0 => ?_)
 ·refine wX ?_
  exact out_bool (by unfold cellD; simp [hk0])
 refine wX ?_
 have hkk : 8 < kind ∨ kind = 0 ∨ kind = 1 ∨ kind = 2 ∨ kind = 3 ∨ kind = 4 ∨ kind = 5 ∨ kind = 6 ∨ kind = 7 ∨ kind = 8 := by omega
 rcases hkk with hk | rfl | rfl | rfl | rfl | rfl | rfl | rfl | rfl | rfl
 ·refine brd_dec (fun _ => ?_) (fun h => absurd hk h)
  refine wX ?_
  exact out_bool (by unfold cellD; simp [hk])
 ·-- 0: the kind
  refine wX ?_
  refine call1 (leaf_c ⟨⟨0, num, text, names, items⟩, na, nc, ia, ic⟩ _) ?_
  refine wX ?_
  refine brd_dec (fun hi => ?_) (fun hi => ?_)
  ·refine wX ?_
   exact out_bool (by
    have h0 : items ≠ [] := fun e => by rw [e] at hi; simp at hi
    unfold cellD
    rw [hrB]
    simp [h0])
  have hi0 : items = [] := List.eq_nil_of_length_eq_zero (by omega)
  refine wX ?_
  refine brd_dec (fun hi => ?_) (fun hi => ?_)
  ·refine wX ?_
   exact out_bool (by
    have h0 : names ≠ [] := fun e => by rw [e] at hi; simp at hi
    unfold cellD
    rw [hrB]
    simp [h0])
  have hn0 : names = [] := List.eq_nil_of_length_eq_zero (by omega)
  refine wX ?_
  refine brd_ne (fun hu => ?_) (fun hu => ?_)
  ·refine wX ?_
   exact out_bool (by
    unfold cellD
    rw [hrB]
    simp [hu])
  refine wX ?_
  exact out_bool (by
   rw [bs_list, Bool.eq_iff_iff]
   unfold cellD
   rw [hrB]
   simp [hi0, hn0, hu])
 ·-- 1: the kind
  refine wX ?_
  refine call1 (leaf_c ⟨⟨1, num, text, names, items⟩, na, nc, ia, ic⟩ _) ?_
  refine wX ?_
  refine brd_dec (fun hi => ?_) (fun hi => ?_)
  ·refine wX ?_
   exact out_bool (by
    have h0 : items ≠ [] := fun e => by rw [e] at hi; simp at hi
    unfold cellD
    rw [hrB]
    simp [h0])
  have hi0 : items = [] := List.eq_nil_of_length_eq_zero (by omega)
  refine wX ?_
  refine brd_dec (fun hi => ?_) (fun hi => ?_)
  ·refine wX ?_
   exact out_bool (by
    have h0 : names ≠ [] := fun e => by rw [e] at hi; simp at hi
    unfold cellD
    rw [hrB]
    simp [h0])
  have hn0 : names = [] := List.eq_nil_of_length_eq_zero (by omega)
  refine wX ?_
  refine brd_ne (fun hu => ?_) (fun hu => ?_)
  ·refine wX ?_
   exact out_bool (by
    unfold cellD
    rw [hrB]
    simp [hu])
  refine wX ?_
  exact out_bool (by
   rw [bs_list, Bool.eq_iff_iff]
   unfold cellD
   rw [hrB]
   simp [hi0, hn0, hu])
 ·-- 2: the kind
  refine wX ?_
  refine call1 (leaf_c ⟨⟨2, num, text, names, items⟩, na, nc, ia, ic⟩ _) ?_
  refine wX ?_
  refine brd_dec (fun hi => ?_) (fun hi => ?_)
  ·refine wX ?_
   exact out_bool (by
    have h0 : items ≠ [] := fun e => by rw [e] at hi; simp at hi
    unfold cellD
    rw [hrB]
    simp [h0])
  have hi0 : items = [] := List.eq_nil_of_length_eq_zero (by omega)
  refine wX ?_
  refine brd_dec (fun hi => ?_) (fun hi => ?_)
  ·refine wX ?_
   exact out_bool (by
    have h0 : names ≠ [] := fun e => by rw [e] at hi; simp at hi
    unfold cellD
    rw [hrB]
    simp [h0])
  have hn0 : names = [] := List.eq_nil_of_length_eq_zero (by omega)
  refine wX ?_
  refine brd_ne (fun hu => ?_) (fun hu => ?_)
  ·refine wX ?_
   exact out_bool (by
    unfold cellD
    rw [hrB]
    simp [hu])
  refine wX ?_
  exact out_bool (by
   rw [bs_list, Bool.eq_iff_iff]
   unfold cellD
   rw [hrB]
   simp [hi0, hn0, hu])
 ·-- 3: the kind
  refine wX ?_
  refine call1 (leaf_c ⟨⟨3, num, text, names, items⟩, na, nc, ia, ic⟩ _) ?_
  refine wX ?_
  refine brd_dec (fun hi => ?_) (fun hi => ?_)
  ·refine wX ?_
   exact out_bool (by
    have h0 : items ≠ [] := fun e => by rw [e] at hi; simp at hi
    unfold cellD
    rw [hrB]
    simp [h0])
  have hi0 : items = [] := List.eq_nil_of_length_eq_zero (by omega)
  refine wX ?_
  refine brd_dec (fun hi => ?_) (fun hi => ?_)
  ·refine wX ?_
   exact out_bool (by
    have h0 : names ≠ [] := fun e => by rw [e] at hi; simp at hi
    unfold cellD
    rw [hrB]
    simp [h0])
  have hn0 : names = [] := List.eq_nil_of_length_eq_zero (by omega)
  refine wX ?_
  rw [bs_list]
  cases ht : text == ([] : List UInt8) with
  | false =>
   have ht0 : text ≠ [] := fun e => by rw [e] at ht; cases ht
   refine wX ?_
   exact out_bool (by
    unfold cellD
    rw [hrB]
    simp [ht0])
  | true =>
  have ht0 : text = [] := eq_of_beq ht
  refine wX ?_
  refine brd_dec (fun hm1 => ?_) (fun hm1 => ?_)
  ·refine wX ?_
   exact out_bool (by
    rw [Bool.eq_iff_iff]
    unfold cellD
    rw [hrB]
    have hmm : -Go.Core.maxI ≤ num := hm1
    simp [hi0, hn0, ht0, hmm]
    exact Iff.rfl)
  ·refine wX ?_
   exact out_bool (by
    have : ¬ (-Go.Core.maxI ≤ num) := hm1
    unfold cellD
    rw [hrB]
    simp [this])
 ·-- 4: the kind
  refine wX ?_
  refine call1 (leaf_c ⟨⟨4, num, text, names, items⟩, na, nc, ia, ic⟩ _) ?_
  refine wX ?_
  refine brd_dec (fun hi => ?_) (fun hi => ?_)
  ·refine wX ?_
   exact out_bool (by
    have h0 : items ≠ [] := fun e => by rw [e] at hi; simp at hi
    unfold cellD
    rw [hrB]
    simp [h0])
  have hi0 : items = [] := List.eq_nil_of_length_eq_zero (by omega)
  refine wX ?_
  refine brd_dec (fun hi => ?_) (fun hi => ?_)
  ·refine wX ?_
   exact out_bool (by
    have h0 : names ≠ [] := fun e => by rw [e] at hi; simp at hi
    unfold cellD
    rw [hrB]
    simp [h0])
  have hn0 : names = [] := List.eq_nil_of_length_eq_zero (by omega)
  refine wX ?_
  refine brd_ne (fun hu => ?_) (fun hu => ?_)
  ·refine wX ?_
   exact out_bool (by
    unfold cellD
    rw [hrB]
    simp [hu])
  refine wX ?_
  exact out_bool (by
   rw [bs_size, Bool.eq_iff_iff]
   unfold cellD
   rw [hrB]
   simp [hi0, hn0, hu]
   try omega)
 ·-- 5: the kind
  refine wX ?_
  refine call1 (leaf_c ⟨⟨5, num, text, names, items⟩, na, nc, ia, ic⟩ _) ?_
  refine wX ?_
  refine brd_dec (fun hi => ?_) (fun hi => ?_)
  ·refine wX ?_
   exact out_bool (by
    have h0 : items ≠ [] := fun e => by rw [e] at hi; simp at hi
    unfold cellD
    rw [hrB]
    simp [h0])
  have hi0 : items = [] := List.eq_nil_of_length_eq_zero (by omega)
  refine wX ?_
  refine brd_dec (fun hi => ?_) (fun hi => ?_)
  ·refine wX ?_
   exact out_bool (by
    have h0 : names ≠ [] := fun e => by rw [e] at hi; simp at hi
    unfold cellD
    rw [hrB]
    simp [h0])
  have hn0 : names = [] := List.eq_nil_of_length_eq_zero (by omega)
  refine wX ?_
  refine brd_ne (fun hu => ?_) (fun hu => ?_)
  ·refine wX ?_
   exact out_bool (by
    unfold cellD
    rw [hrB]
    simp [hu])
  refine wX ?_
  exact out_bool (by
   rw [bs_size, Bool.eq_iff_iff]
   unfold cellD
   rw [hrB]
   simp [hi0, hn0, hu]
   try omega)
 ·-- 6: the kind
  refine wX ?_
  refine call1 (leaf_c ⟨⟨6, num, text, names, items⟩, na, nc, ia, ic⟩ _) ?_
  refine wX ?_
  refine brd_dec (fun hi => ?_) (fun hi => ?_)
  ·refine wX ?_
   exact out_bool (by
    have h0 : names ≠ [] := fun e => by rw [e] at hi; simp at hi
    unfold cellD
    rw [hrB]
    simp [h0])
  have hn0 : names = [] := List.eq_nil_of_length_eq_zero (by omega)
  refine wX ?_
  refine brd_ne (fun hu => ?_) (fun hu => ?_)
  ·refine wX ?_
   exact out_bool (by
    unfold cellD
    rw [hrB]
    simp [hu])
  refine wX ?_
  exact out_bool (by
   rw [bs_list, Bool.eq_iff_iff]
   unfold cellD
   rw [hrB]
   simp [hn0, hu])
 ·-- 7: the kind
  refine wX ?_
  refine call1 (leaf_c ⟨⟨7, num, text, names, items⟩, na, nc, ia, ic⟩ _) ?_
  refine wX ?_
  refine brd_dec (fun hi => ?_) (fun hi => ?_)
  ·refine wX ?_
   exact out_bool (by
    have h0 : names ≠ [] := fun e => by rw [e] at hi; simp at hi
    unfold cellD
    rw [hrB]
    simp [h0])
  have hn0 : names = [] := List.eq_nil_of_length_eq_zero (by omega)
  refine wX ?_
  refine brd_ne (fun hu => ?_) (fun hu => ?_)
  ·refine wX ?_
   exact out_bool (by
    unfold cellD
    rw [hrB]
    simp [hu])
  refine wX ?_
  rw [bs_list]
  cases ht : text == ([] : List UInt8) with
  | false =>
   have ht0 : text ≠ [] := fun e => by rw [e] at ht; cases ht
   refine wX ?_
   exact out_bool (by
    unfold cellD
    rw [hrB]
    simp [ht0])
  | true =>
  have ht0 : text = [] := eq_of_beq ht
  refine wX ?_
  exact out_bool (by
   rw [Bool.eq_iff_iff]
   unfold cellD
   rw [hrB]
   simp [hn0, hu, ht0]
   rw [Int.tmod_eq_emod_of_nonneg (by omega)]
   omega)
 ·-- 8: the kind
  refine wX ?_
  refine call1 (leaf_c ⟨⟨8, num, text, names, items⟩, na, nc, ia, ic⟩ _) ?_
  refine wX ?_
  refine brd_ne (fun hu => ?_) (fun hu => ?_)
  ·refine wX ?_
   exact out_bool (by
    unfold cellD
    rw [hrB]
    simp [hu])
  refine wX ?_
  refine call1 (dConst_c text htl _) ?_
  cases hcn : constD text with
  | false =>
   refine wX ?_
   exact out_bool (by
    unfold cellD
    rw [hrB, hcn]
    simp)
  | true =>
  refine wX ?_
  refine brd_ne (fun hln => ?_) (fun hln => ?_)
  ·refine wX ?_
   exact out_bool (by
    have : ¬ names.length = items.length := by omega
    unfold cellD
    rw [hrB, hcn]
    simp [this])
  refine wX ?_
  refine loopS Nat (fun i => i ≤ names.length ∧ ∀ j, j < i → (ivarD (names.getD j []) && !decide (names.getD j [] ∈ names.take j)) = true) (fun i => mkS Tryz.f51.ntmps 0 [(0, .c (.v (.slice a n ca))), (3, .c (.lp 1 0)), (6, .c (.v (.int .i64 (i : Int))))]) (fun i => names.length - i) rfl (fun _ => rfl) 0 ⟨Nat.zero_le _, fun _ h => by omega⟩ ?_ ?_
  ·exact wKK
  intro i ⟨hi, hj⟩
  refine wX ?_
  refine brd_dec (fun h1 => ?_) (fun h1 => ?_)
  ·obtain ⟨x, hx⟩ : ∃ x, names[i]? = some x := ⟨_, List.getElem?_eq_getElem (by omega)⟩
   have hxm := List.mem_of_getElem? hx
   have hsa : na.isSome = true := by
    cases na with
    | none => rw [hna rfl] at hx; cases hx
    | some b => rfl
   have hxd : names.getD i [] = x := by rw [List.getD_eq_getElem?_getD, hx]; rfl
   have hbad : (ivarD x && !decide (x ∈ names.take i)) = false → false = cellD n ⟨8, num, text, names, items⟩ := fun h => by
    cases hcd : cellD n ⟨8, num, text, names, items⟩ with
    | false => rfl
    | true =>
     unfold cellD at hcd
     simp only [show ¬ (8 : Int) = 3 by decide, show ¬ (8 : Int) = 4 by decide, show ¬ (8 : Int) = 5 by decide, show ¬ (8 : Int) = 7 by decide, if_false, if_true, Bool.and_eq_true] at hcd
     have := List.all_eq_true.1 hcd.2.2 i (List.mem_range.2 (by omega))
     rw [hxd, h] at this
     cases this
   refine wX ?_
   refine Nd.mk ⟨hsa, by omega, by omega⟩ ?_
   refine wX ?_
   refine LdN.one (.string (bs x)) rfl (fun w hw => hw.1.1) (by rw [Int.toNat_natCast]; show (strC names)[i * 1]? = _; rw [Nat.mul_one]; exact strC_get hx) ?_
   refine wX ?_
   refine callQ (dIvar_c x (hnw x hxm) _) ?_
   cases hiv : ivarD x with
   | false =>
    refine wX ?_
    exact out_bool (hbad (by rw [hiv]; rfl))
   | true =>
   refine wX ?_
   refine ReadW.slc_hi rfl (by kernel_rfl) rfl rfl (by omega) ?_
   rw [Int.toNat_natCast]
   refine wX ?_
   refine Nd.mk ⟨hsa, by omega, by omega⟩ ?_
   refine wX ?_
   refine LdN.one (.string (bs x)) rfl (fun w hw => hw.1.1) (by rw [Int.toNat_natCast]; show (strC names)[i * 1]? = _; rw [Nat.mul_one]; exact strC_get hx) ?_
   refine wX ?_
   have htk : (names.take i).length = i := by rw [List.length_take]; omega
   have hh := dHas_c na nc (names.take i) x (fun h => by rw [hna h]; simp) (by omega)
   rw [htk] at hh
   refine callQ (hh _ ?_) ?_
   ·exact fun w hw => slat_take hw.1.1 (by omega)
   cases hmm : decide (x ∈ names.take i) with
   | true =>
    refine wX ?_
    exact out_bool (hbad (by rw [hmm]; simp))
   | false =>
    refine wX ?_
    refine ⟨i + 1, ⟨by omega, fun j hj2 => ?_⟩, by omega, ?_, wHH⟩
    ·by_cases e : j = i
     ·subst e; rw [hxd, hiv, hmm]; rfl
     ·exact hj j (by omega)
    ·exact wKK
  ·have hin : i = names.length := by omega
   subst hin
   refine wX ?_
   refine out_bool ?_
   unfold cellD
   rw [hrB, hcn, List.all_eq_true.2 fun j hj2 => hj j (List.mem_range.1 hj2)]
   simp [hu]
   omega
theorem cell_c (a : Option Addr) (ca n : Nat) (hn : n ≤ 200000000000000) (p : CellP) (hp : CellOk p) : ∀ H, (∀ w, Facts H w → CellF p w) → SpecH Tryz.prog 51 (pvs [.slice a n ca, cellV p]) H (Ret (.bool (cellD n p.c)) H) := by
 obtain ⟨⟨kind, num, text, names, items⟩, na, nc, ia, ic⟩ := p
 exact cell_c0 a ca n hn kind num text names items na nc ia ic hp.na hp.ia hp.nl hp.il hp.nw hp.tl hp.nb
end Go.Proofs.YtgogonnnojcioaaGreatDoor
namespace Go.Core
def keyB (g : List Cell) (a b : Int) : Bool := decide (a = b) || oneKeyB (at_ g a) (at_ g b)
def Twice (g : List Cell) (it : List Int) : Prop := ∃ i k : Nat, k < i ∧ i < it.length ∧ i % 2 = 0 ∧ k % 2 = 0 ∧ keyB g (it.getD i 0) (it.getD k 0) = true
end Go.Core
namespace Go.Proofs.YtgogonnnojcioaaGreatDoor
open Go.AX Go.RowKit Go.Core
set_option maxRecDepth 20000
theorem at_map {l : List CellP} {i : Nat} {p : CellP} (h : l[i]? = some p) : at_ (l.map (·.c)) (i : Int) = p.c := by
 unfold at_
 rw [Int.toNat_natCast, List.getD_eq_getElem?_getD, List.getElem?_map, h]
 rfl
set_option maxHeartbeats 1000000 in
theorem twice_c (a : Option Addr) (c : Nat) (l : List CellP) (p : CellP) (ha : a = none → l = []) (hl : l.length ≤ 200000000000000) (hp : CellOk p) (hin : ∀ x ∈ p.c.items, 0 ≤ x ∧ x < (l.length : Int)) :
  ∀ H, (∀ w, Facts H w → GrF a l w ∧ CellF p w) → ∃ b : Bool, (b = true ↔ Twice (l.map (·.c)) p.c.items) ∧ SpecH Tryz.prog 92 (pvs [.slice a l.length c, cellV p]) H (Ret (.bool b) H) := by
 intro H hH
 obtain ⟨b, hb⟩ : ∃ b : Bool, b = true ↔ Twice (l.map (·.c)) p.c.items := by
  by_cases h : Twice (l.map (·.c)) p.c.items
  ·exact ⟨true, fun _ => h, fun _ => rfl⟩
  ·exact ⟨false, (fun h => by cases h), fun h2 => absurd h2 h⟩
 refine ⟨b, hb, ?_⟩
 have hil := hp.il
 refine factC hm Tryz.func92 (by kernel_rfl) rfl rfl ?_ H hH
 refine wX ?_
 refine loopS Nat (fun i => i ≤ p.c.items.length + 1 ∧ i % 2 = 0 ∧ ∀ i' k, k < i' → i' < i → i' < p.c.items.length → i' % 2 = 0 → k % 2 = 0 → keyB (l.map (·.c)) (p.c.items.getD i' 0) (p.c.items.getD k 0) = false) (fun i => mkS Tryz.f92.ntmps 0 [(0, .c (.v (.slice a l.length c))), (3, .c (.lp 1 0)), (5, .c (.v (.int .i64 (i : Int))))]) (fun i => p.c.items.length + 2 - i) rfl (fun _ => rfl) 0 ⟨Nat.zero_le _, rfl, fun _ _ _ h => by omega⟩ ?_ ?_
 ·exact wKK
 intro i ⟨hi, hi2, hno⟩
 refine wX ?_
 refine brd_dec (fun h1 => ?_) (fun h1 => ?_)
 ·obtain ⟨x, hx⟩ : ∃ x, p.c.items[i]? = some x := ⟨_, List.getElem?_eq_getElem (by omega)⟩
  have hsi : p.ia.isSome = true := by
   cases hna : p.ia with
   | none => rw [hp.ia hna] at hx; cases hx
   | some b => rfl
  refine wX ?_
  refine loopS Nat (fun k => k ≤ i + 1 ∧ k % 2 = 0 ∧ ∀ k', k' < k → k' < i → k' % 2 = 0 → keyB (l.map (·.c)) (p.c.items.getD i 0) (p.c.items.getD k' 0) = false) (fun k => mkS Tryz.f92.ntmps 0 [(0, .c (.v (.slice a l.length c))), (3, .c (.lp 1 0)), (5, .c (.v (.int .i64 (i : Int)))), (6, .c (.v (.int .i64 (k : Int))))]) (fun k => i + 2 - k) rfl (fun _ => rfl) 0 ⟨Nat.zero_le _, rfl, fun _ h => by omega⟩ ?_ ?_
  ·exact wKK
  intro k ⟨hk, hk2, hnk⟩
  refine wX ?_
  refine brd_dec (fun h2 => ?_) (fun h2 => ?_)
  ·obtain ⟨y, hy⟩ : ∃ y, p.c.items[k]? = some y := ⟨_, List.getElem?_eq_getElem (by omega)⟩
   obtain ⟨hx0, hx1⟩ := hin x (List.mem_of_getElem? hx)
   obtain ⟨hy0, hy1⟩ := hin y (List.mem_of_getElem? hy)
   obtain ⟨u, rfl⟩ : ∃ u : Nat, x = (u : Int) := ⟨x.toNat, by omega⟩
   obtain ⟨v, rfl⟩ : ∃ v : Nat, y = (v : Int) := ⟨y.toNat, by omega⟩
   obtain ⟨q, hq⟩ : ∃ q, l[u]? = some q := ⟨_, List.getElem?_eq_getElem (by omega)⟩
   obtain ⟨r, hr⟩ : ∃ r, l[v]? = some r := ⟨_, List.getElem?_eq_getElem (by omega)⟩
   have hke : keyB (l.map (·.c)) (p.c.items.getD i 0) (p.c.items.getD k 0) = (decide ((u : Int) = v) || oneKeyB q.c r.c) := by
    rw [List.getD_eq_getElem?_getD, List.getD_eq_getElem?_getD, hx, hy]
    show keyB _ (u : Int) (v : Int) = _
    unfold keyB
    rw [at_map hq, at_map hr]
   refine wX ?_
   refine Nd.mk ⟨hsi, by omega, by omega⟩ ?_
   refine wX ?_
   refine LdN.one (.int .i64 (u : Int)) rfl (fun w hw => hw.1.2.2) (by rw [Int.toNat_natCast]; show (iC p.c.items)[i * 1]? = _; rw [Nat.mul_one]; exact iC_get hx) ?_
   refine wX ?_
   refine Nd.mk ⟨hsi, by omega, by omega⟩ ?_
   refine wX ?_
   refine LdN.one (.int .i64 (v : Int)) rfl (fun w hw => hw.1.2.2) (by rw [Int.toNat_natCast]; show (iC p.c.items)[k * 1]? = _; rw [Nat.mul_one]; exact iC_get hy) ?_
   refine wX ?_
   have hok := oneKey_c a c l u v q r hq hr ha hl
   rw [← hke] at hok
   refine callQ (hok _ ?_) ?_
   ·exact fun w hw => hw.1.1
   cases hkb : keyB (l.map (·.c)) (p.c.items.getD i 0) (p.c.items.getD k 0) with
   | true =>
    refine wX ?_
    exact out_bool ((hb.2 ⟨i, k, by omega, by omega, hi2, hk2, hkb⟩).symm)
   | false =>
    refine wX ?_
    refine ⟨k + 2, ⟨by omega, by omega, fun k' h3 h4 h5 => ?_⟩, by omega, ?_, wHH⟩
    ·by_cases e : k' = k
     ·subst e; exact hkb
     ·exact hnk k' (by omega) h4 h5
    ·exact wKK
  ·refine wX ?_
   refine ⟨i + 2, ⟨by omega, by omega, fun i' k' h3 h4 h5 h6 h7 => ?_⟩, by omega, ?_, wHH⟩
   ·by_cases e : i' = i
    ·subst e; exact hnk k' (by omega) h3 h7
    ·exact hno i' k' h3 (by omega) h5 h6 h7
   ·exact wKK
 ·refine wX ?_
  refine out_bool ?_
  cases b with
  | false => rfl
  | true =>
   obtain ⟨i', k, h2, h3, h4, h5, h6⟩ := hb.1 rfl
   rw [hno i' k h2 (by omega) h3 h4 h5] at h6
   cases h6
end Go.Proofs.YtgogonnnojcioaaGreatDoor
