/-
  Lemmas (Ax58 MC3 MP3 MP4 MP5 MP6 MP7 MP8 MC4 MP9 MP10 MC5 MC7 MD1 MD2).
-/
import Derived.Test.YtgogonnnojcioaaGreatDoorMde6
set_option linter.unusedVariables false
set_option linter.unusedSimpArgs false
namespace Go.AX
theorem Qzj {a b : List UInt8} (h : bs a = bs b) : a = b := by
 have := congrArg (fun x : ByteArray => x.data.toList) h
 simpa [bs] using this
theorem QA3 (a b : List UInt8) : (bs a == bs b) = decide (a = b) := by
 rw [Zsz, MapKept.bytes_beq, ZBz]
 exact ⟨Qzj, fun h => by rw [h]⟩
theorem Qik (k : List UInt8) : ∀ (es : List MapEntry) (R : List (List UInt8 × Value)) (i : Nat), KeysAre (fun k => .string (bs k)) es R -> Instr.findNow .string (.string (bs k)) es i = some (seek k R i)
 | [], [], _, _ => rfl
 | [], _ :: _, _, h => by cases h
 | _ :: _, [], _, h => by cases h
 | e :: es, (q, x) :: R, i, h => by
  unfold KeysAre at h
  simp only [List.map_cons, List.cons.injEq, Prod.mk.injEq] at h
  have ih := Qik k es R (i + 1) h.2
  unfold seek
  rw [Instr.findNow, h.1.1]
  have hb := QA3 k q
  by_cases hk : k = q
  ·subst hk
   rw [decide_eq_true rfl] at hb
   simp [Instr.sameNow, h.1.2, hb]
  ·rw [decide_eq_false hk] at hb
   simp [Instr.sameNow, hb, hk, ih]
theorem Qyt {P : Program} {kt : TypeId} (h : P.underlying kt = some .string) : KeyT P kt (fun k : List UInt8 => .string (bs k)) where
 check := fun w e k => MapKept.run_checkKey (k := .string (bs k)) h (by simp [MapKept.IsKey]) e 9999
 find := fun w k es R hr => MapKept.run_findKey h (Qik k es R 0 hr)
 stay := fun w k => MapKept.run_keyThatStays (d := .string) (k := .string (bs k)) (by simp [MapKept.IsKey])
section
variable {P : Program} {o : Oper} {s : List AV} {H : List Ent} {t kt et : TypeId} {m k : Operand} {b c : Nat} {es : Array MapEntry} {α : Type} [DecidableEq α] {enc : α -> Value} {p : α}
theorem ReadW.askKey {K : AV -> Prop} {inf : TypeInfo} {z : Value} (R : List (α × Value)) (ho : o.op = .lookup t m k true) (ht : P.underlying t = some (.map kt et)) (hkt : KeyT P kt enc) (hi : P.info? et = some inf) (hz : inf.zero = some z)
  (hm : opv s m = .c (.v (.map (some b)))) (hk : opv s k = .c (.v (enc p))) (hF : ∀ w, Qax H w -> w.heap[b]? = some (.map es c)) (hf : KeysAre enc es.toList R) (h : K (.c (.v (.tuple #[(R.lookup p).getD z, .bool (R.lookup p).isSome])))) : ReadW P o s H K :=
 ReadW.val (.tuple #[(R.lookup p).getD z, .bool (R.lookup p).isSome]) (fun cs b e => by rw [ho] at e; cases e) (by rw [ho]; show Qar s [m, k] = true; simp [Qar, hm, hk]) (fun w hw => by
  have hb := hF w hw
  have hc := hkt.check w es.isEmpty p
  have hj := hkt.find w p es.toList R hf
  have hlk := Qkm p R 0
  have hrun : (Instr.lookup t (.map (some b)) (enc p) true).run P w = .ok (.tuple #[(R.lookup p).getD z, .bool (R.lookup p).isSome]) w := by
   cases hr : seek p R 0 with
   | none => rw [hr] at hj hlk; rw [<- hlk]; simp [Instr.lookup, run_underlying ht, MapKept.run_getObj_map hb, hc, hj, Result.andThen, Qbv hi hz]
   | some q => rw [hr] at hj hlk; rw [<- hlk]; simp [Instr.lookup, run_underlying ht, MapKept.run_getObj_map hb, hc, hj, Result.andThen]
  unfold execOp
  simp only [ho, Qbc hm, Qbc hk, Sem.run_bind, hrun, ZCz, Sem.run_pure]) h
theorem ReadW.mapLen {K : AV -> Prop} {x : Operand} {args : Array Operand} {ts : Array TypeId} (n : Nat) (ho : o.op = .call { callee := .builtin .len, args := args, argTypes := ts }) (ha : args = #[x]) (hts : ts = #[t]) (ht : P.underlying t = some (.map kt et))
  (hm : opv s x = .c (.v (.map (some b)))) (hF : ∀ w, Qax H w -> w.heap[b]? = some (.map es c)) (hn : es.size = n) (h : K (.c (.v (.int .i64 (n : Int))))) : ReadW P o s H K := by
 subst ha hts
 refine ReadW.val (.int .i64 (n : Int)) (fun cs b e => by rw [ho] at e; cases e) (by rw [ho]; show Qar s [x] = true; simp [Qar, hm]) (fun w hw => Qcd ho fun consts => ?_) h
 have hb := hF w hw
 have e1 : Qat s x = .map (some b) := Qbc hm
 simp [builtin, Builtin.len_, run_underlying ht, e1, MapKept.run_getObj_map hb, goInt, hn, Result.andThen]
end
theorem KeysAre.len {α : Type} {enc : α -> Value} {es : List MapEntry} {R : List (α × Value)} (h : KeysAre enc es R) : es.length = R.length := by
 have := congrArg List.length h
 simpa using this
end Go.AX
namespace Go.Proofs.YtgogonnnojcioaaGreatDoor
open Go.AX Go.RowKit Go.Core Go.Marshal
set_option maxRecDepth 20000
def bM (u : Bool) : CV := match u with | true => .lp 0 1 | false => .v (.pointer none)
structure MapP where
 ce : Array MapEntry
 cc : Nat
 se : Array MapEntry
 sc : Nat
def wM (gv : Value) (F : World -> Prop) (u : Bool) (out : List UInt8) (i : BSt) (mb sb : Nat) (q : MapP) : List Ent :=
 [.blk 69 [.v gv, bM u, .v (.slice (at0 i.ob) out.length i.cap), .v (.map (some mb)), .v (.map (some sb))], .app 5 1 (u8s out) (at0 i.ob) out.length i.cap, .mp mb q.ce q.cc, .mp sb q.se q.sc, .fact F]
theorem Qhw (gv : Value) (F : World -> Prop) (u : Bool) (out : List UInt8) (i : BSt) (mb sb : Nat) (q : MapP) : okH (wM gv F u out i mb sb q).length (wM gv F u out i mb sb q) := by cases u <;> exact Qan rfl
variable (gv : Value) (F : World -> Prop) (mb sb : Nat) (q : MapP)
theorem Qf5 (u : Bool) (out : List UInt8) (i : BSt) : SpecH Tryz.prog 55 [.c (.lp 0 1)] (wM gv F u out i mb sb q) (RetG (ι := Unit) (fun _ => True) (fun _ => .tuple #[]) fun _ => wM gv F true out i mb sb q) := by
 refine ownC hm Tryz.func55 (by kernel_rfl) rfl rfl (fun _ _ => Qhw _ _ _ _ _ _ _ _) (fun _ _ => Zcz _) ?_
 cases u with
 | false =>
  refine wX ?_
  refine ReadW.toUnsafe 67 rfl (by kernel_rfl) (by kernel_rfl) (by kernel_rfl) rfl rfl (Nat.succ_lt_succ (Nat.zero_lt_succ _)) ?_
  refine wX ?_
  refine EffW.ext (e := Extern.AbiNoEscape.same) rfl Tryz.func82 (by kernel_rfl) (by kernel_rfl) (by kernel_rfl) (by kernel_rfl) (.c (.lp 0 1)) ?_ ?_
  ·refine wX ?_
   refine ReadW.fromUnsafe 67 rfl (by kernel_rfl) (by kernel_rfl) (by kernel_rfl) rfl rfl (by show liesAt _ _ _ (5 / _) _ _ _ = true; kernel_rfl) ?_
   refine wX ?_
   exact ⟨(), trivial, rfl, Qag _⟩
  ·intro ρ vs hr
   match vs, hr with
   | [v], hr => exact ⟨v, hr.1, fun w => rfl⟩
   | [], hr => exact hr.elim
   | _ :: _ :: _, hr => exact hr.2.elim
 | true =>
  refine wX ?_
  refine ReadW.lp_nil rfl (by kernel_rfl) rfl rfl false (.inl ⟨rfl, rfl⟩) ?_
  refine wX ?_
  refine ReadW.lp_same rfl (by kernel_rfl) rfl rfl false (.inr ⟨rfl, rfl⟩) ?_
  refine wX ?_
  exact ⟨(), trivial, rfl, Qag _⟩
theorem Qa3 (u : Bool) (l x : List UInt8) (i0 : BSt) (ok : i0.ok l.length) (room : l.length + x.length <= 140737488355328) : SpecH Tryz.prog 34 [.c (.lp 0 1), .c (.v (.string (bs x)))] (wM gv F u l i0 mb sb q)
  (RetG (ι := BSt) (fun i => i.ok (l ++ x).length) (fun _ => .tuple #[.int .i64 x.length, .nilIface]) fun i => wM gv F true (l ++ x) i mb sb q) := by
 refine ownC hm Tryz.func34 (by kernel_rfl) rfl rfl (fun _ _ => Qhw _ _ _ _ _ _ _ _) (fun _ _ => Zcz _) ?_
 cases u with
 | false =>
  refine wX ?_
  refine Qai (Qf5 gv F mb sb q false l i0) [0, 1, 2, 3, 4] rfl ⟨rfl, rfl, rfl, rfl, rfl, trivial⟩ rfl fun _ _ => ?_
  refine wX ?_
  refine EffW.appStr 1 rfl rfl rfl (by kernel_rfl) (by kernel_rfl) (by kernel_rfl) rfl rfl rfl (by rw [Qal]; exact room) fun ob' cap' h1 h2 h3 => ?_
  rw [Qal, Qbx] at *
  refine wX ?_
  refine ⟨⟨ob', cap'⟩, ⟨by simpa using h1, by simpa using h2, fun h => ?_⟩, by rw [Qal], ?_⟩
  ·obtain ⟨h4, h5⟩ := h3 h
   have := ok.2.2 h4
   rw [this] at h5
   cases ob' with
   | none => rfl
   | some _ => cases h5
  ·exact Qoa (by simp [wM, u8s, bM, rnC, rnCs, rnI, rnE])
 | true =>
  refine wX ?_
  refine Qai (Qf5 gv F mb sb q true l i0) [0, 1, 2, 3, 4] rfl ⟨rfl, rfl, rfl, rfl, rfl, trivial⟩ rfl fun _ _ => ?_
  refine wX ?_
  refine EffW.appStr 1 rfl rfl rfl (by kernel_rfl) (by kernel_rfl) (by kernel_rfl) rfl rfl rfl (by rw [Qal]; exact room) fun ob' cap' h1 h2 h3 => ?_
  rw [Qal, Qbx] at *
  refine wX ?_
  refine ⟨⟨ob', cap'⟩, ⟨by simpa using h1, by simpa using h2, fun h => ?_⟩, by rw [Qal], ?_⟩
  ·obtain ⟨h4, h5⟩ := h3 h
   have := ok.2.2 h4
   rw [this] at h5
   cases ob' with
   | none => rfl
   | some _ => cases h5
  ·exact Qoa (by simp [wM, u8s, bM, rnC, rnCs, rnI, rnE])
theorem Qxj (u : Bool) (l : List UInt8) (i0 : BSt) (ok : i0.ok l.length) : SpecH Tryz.prog 36 [.c (.lp 0 1)] (wM gv F u l i0 mb sb q)
  (RetG (ι := Unit) (fun _ => True) (fun _ => .string (bs l)) fun _ => [.dead, .dead, .dead, .dead, .fact F]) := by
 refine ownC hm Tryz.func36 (by kernel_rfl) rfl rfl (fun _ _ => ⟨trivial, trivial, trivial, trivial, trivial, trivial⟩) (fun _ _ => Zcz _) ?_
 refine wX ?_
 refine DrawN.plan [0, 5] [(1, 1), (2, 1), (3, 1), (4, 1), (6, 1), (7, 1), (8, 1), (9, 1)] [(10, 0), (11, 0)] (by decide +kernel) ?_
 refine wX ?_
 refine ReadW.sliceData rfl rfl rfl (fun h h2 => h (ok.2.2 h2)) ?_
 refine wX ?_
 refine EffW.usStr 1 l rfl rfl rfl rfl (by kernel_rfl) (by kernel_rfl) rfl rfl rfl ?_
 refine wX ?_
 exact ⟨(), trivial, rfl, trivial, trivial, trivial, trivial, fun _ h => h, trivial⟩
theorem Qhu (u : Bool) (l : List UInt8) (x : UInt8) (i0 : BSt) (room : l.length + 1 <= 140737488355328) : SpecH Tryz.prog 56 [.c (.lp 0 1), .c (.v (.int .u8 (x.toNat : Int)))] (wM gv F u l i0 mb sb q)
  (RetG (ι := BSt) (fun i => i.ok (l ++ [x]).length) (fun _ => .nilIface) fun i => wM gv F true (l ++ [x]) i mb sb q) := by
 refine ownC hm Tryz.func56 (by kernel_rfl) rfl rfl (fun _ _ => Qhw _ _ _ _ _ _ _ _) (fun _ _ => Zcz _) ?_
 cases u with
 | false =>
  refine wX ?_
  refine Qai (Qf5 gv F mb sb q false l i0) [0, 1, 2, 3, 4] rfl ⟨rfl, rfl, rfl, rfl, rfl, trivial⟩ rfl fun _ _ => ?_
  refine wX ?_
  refine Nd.mk ⟨by omega, rfl, rfl⟩ ?_
  (conv => whnf)
  refine AppN.grow 1 (u8s l) _ rfl rfl ⟨by omega, ⟨by show (_ + 1) * 1 <= _; omega, by omega⟩, by decide⟩ fun b' cap' h1 h2 => ?_
  refine wX ?_
  have e1 : u8s l ++ [.int .u8 (x.toNat : Int)] = u8s (l ++ [x]) := by simp [u8s]
  have e2 : l.length + 1 = (l ++ [x]).length := by simp
  rw [e1, e2]
  exact ⟨⟨some b', cap'⟩, ⟨(fun h => by cases h), by simpa using h1, fun h => by have h : cap' = 0 := h; omega⟩, rfl, Qaa _, Qaa _, Qaa _, Qaa _, Qaa _, trivial⟩
 | true =>
  refine wX ?_
  refine Qai (Qf5 gv F mb sb q true l i0) [0, 1, 2, 3, 4] rfl ⟨rfl, rfl, rfl, rfl, rfl, trivial⟩ rfl fun _ _ => ?_
  refine wX ?_
  refine Nd.mk ⟨by omega, rfl, rfl⟩ ?_
  (conv => whnf)
  refine AppN.grow 1 (u8s l) _ rfl rfl ⟨by omega, ⟨by show (_ + 1) * 1 <= _; omega, by omega⟩, by decide⟩ fun b' cap' h1 h2 => ?_
  refine wX ?_
  have e1 : u8s l ++ [.int .u8 (x.toNat : Int)] = u8s (l ++ [x]) := by simp [u8s]
  have e2 : l.length + 1 = (l ++ [x]).length := by simp
  rw [e1, e2]
  exact ⟨⟨some b', cap'⟩, ⟨(fun h => by cases h), by simpa using h1, fun h => by have h : cap' = 0 := h; omega⟩, rfl, Qaa _, Qaa _, Qaa _, Qaa _, Qaa _, trivial⟩
end Go.Proofs.YtgogonnnojcioaaGreatDoor
namespace Go.Marshal
open Go.Core
def cutS (st : St) (t : B) : St := { st with s := t }
def LocS {α : Type} (F : St -> Except Int (α × St)) : Prop := ∀ st a st', F st = .ok (a, st') -> ∃ u, st.s = u ++ st'.s /\ (∀ t, F (cutS st (u ++ t)) = .ok (a, cutS st' t)) /\ ∀ v w, u = v ++ w -> w ≠ [] -> F (cutS st v) = .error 14
theorem LocS.ret {α : Type} (a : α) : LocS fun st => .ok (a, st) := fun st a' st' h => by
 cases h
 exact ⟨[], rfl, fun _ => rfl, fun v w e hw => absurd (List.append_eq_nil_iff.1 e.symm).2 hw⟩
theorem LocS.err {α : Type} (e : Int) : LocS (fun _ => (.error e : Except Int (α × St))) := fun st a' st' h => by cases h
theorem LocS.bnd {α β : Type} {F : St -> Except Int (α × St)} {G : α -> St -> Except Int (β × St)} (hF : LocS F) (hG : ∀ a, LocS (G a)) : LocS fun st => bnd (F st) G := by
 intro st b st2 h
 cases hf : F st with
 | error e => simp only [hf] at h; cases h
 | ok p =>
  obtain ⟨a, st1⟩ := p
  simp only [hf] at h
  obtain ⟨u, e1, e2, e3⟩ := hF st a st1 hf
  obtain ⟨v, f1, f2, f3⟩ := hG a st1 b st2 h
  refine ⟨u ++ v, by rw [e1, f1, Zuz], fun t => ?_, fun x w e hw => ?_⟩
  ·show Marshal.bnd (F _) G = _
   rw [Zuz, e2]
   exact f2 t
  ·rcases Qv3 e with ⟨z, hz, hz2⟩ | ⟨z, hz, hz2⟩
   ·show Marshal.bnd (F _) G = _
    rw [e3 x z hz hz2]
    rfl
   ·show Marshal.bnd (F _) G = _
    rw [hz, e2]
    exact f3 z w hz2 hw
theorem LocS.next : LocS Qc2 := by
 intro st a st' h
 unfold Qc2 at h
 split at h
 ·cases h
 ·rename_i x s hs
  cases h
  refine ⟨[a], hs, fun _ => rfl, fun v w e hw => ?_⟩
  cases v with
  | nil => rfl
  | cons y v =>
   injection e with _ e
   exact absurd (List.append_eq_nil_iff.1 e.symm).2 hw
theorem LocS.num (most : Nat) : LocS (numS most) := by
 intro st a st' h
 unfold numS at h
 split at h
 ·cases h
 ·rename_i n r hr
  cases h
  obtain ⟨u, e1, e2, e3⟩ := Qul most _ _ _ hr
  refine ⟨u, e1, fun t => ?_, fun v w e hw => ?_⟩
  ·unfold numS cutS
   simp only [e2]
  ·unfold numS cutS
   simp only [e3 v w e hw]
theorem LocS.text (most : Nat) : LocS (Qe4 most) := by
 intro st a st' h
 unfold Qe4 at h
 split at h
 ·cases h
 ·rename_i n r hr
  cases h
  obtain ⟨u, e1, e2, e3⟩ := Qum most _ _ _ hr
  refine ⟨u, e1, fun t => ?_, fun v w e hw => ?_⟩
  ·unfold Qe4 cutS
   simp only [e2]
  ·unfold Qe4 cutS
   simp only [e3 v w e hw]
theorem LocS.sym (x : UInt8) : LocS (symS x) := by
 intro st a st' h
 unfold symS at h
 split at h
 ·cases h
 ·rename_i t ss r hr
  cases h
  obtain ⟨u, e1, e2, e3⟩ := Qun x st.ss _ _ _ _ hr
  refine ⟨u, e1, fun t => ?_, fun v w e hw => ?_⟩
  ·unfold symS cutS
   simp only [e2]
  ·unfold symS cutS
   simp only [e3 v w e hw]
theorem LocS.ite {α : Type} {P : Prop} [Decidable P] {F G : St -> Except Int (α × St)} (hF : LocS F) (hG : LocS G) : LocS fun st => if P then F st else G st := by
 by_cases h : P
 ·simp only [if_pos h]; exact hF
 ·simp only [if_neg h]; exact hG
theorem LocS.items {f : St -> Except Int (Int × St)} (hf : LocS f) : ∀ (n : Nat) (l : List Int), LocS (Qdm f n l)
 | 0, l => LocS.ret l
 | n + 1, l => LocS.bnd hf fun i => LocS.items hf n (l ++ [i])
theorem LocS.attrs {f : St -> Except Int (Int × St)} (hf : LocS f) : ∀ (n : Nat) (ns : List B) (l : List Int), LocS (Qdq f n ns l)
 | 0, ns, l => LocS.ret (ns, l)
 | n + 1, ns, l => LocS.bnd LocS.next fun x => LocS.bnd (LocS.sym x) fun t => LocS.ite (LocS.bnd hf fun i => LocS.attrs hf n (ns ++ [t]) (l ++ [i])) (LocS.err 4)
theorem LocS.inner {f : St -> Except Int (Int × St)} (hf : LocS f) (x : UInt8) : LocS (Qce f x) :=
 LocS.ite (LocS.ret _) <| LocS.ite (LocS.ret _) <| LocS.ite (LocS.ret _) <| LocS.ite (LocS.bnd (LocS.num _) fun _ => LocS.ret _) <| LocS.ite (LocS.bnd (LocS.text _) fun _ => LocS.ret _) <|
  LocS.ite (LocS.bnd (LocS.sym _) fun _ => LocS.ret _) <| LocS.ite (LocS.bnd (LocS.num _) fun n => LocS.bnd (LocS.items hf n []) fun _ => LocS.ret _) <|
  LocS.ite (LocS.bnd (LocS.num _) fun n => LocS.bnd (LocS.items hf (2 * n) []) fun _ => LocS.ret _) <|
  LocS.bnd LocS.next fun y => LocS.bnd (LocS.sym y) fun _ => LocS.ite (LocS.bnd (LocS.num _) fun n => LocS.bnd (LocS.attrs hf n [] []) fun _ => LocS.ret _) (LocS.err 4)
theorem LocS.wrap {α β : Type} {F : St -> Except Int (α × St)} (hF : LocS F) (o : St -> St) (ho : ∀ st t, o (cutS st t) = cutS (o st) t) (hs : ∀ st, (o st).s = st.s)
  (k : St -> α -> β) (hk : ∀ st t a, k (cutS st t) a = k st a) (e : St -> α -> St -> St) (he : ∀ st t a st', e (cutS st t) a st' = e st a st') (hes : ∀ st a st', (e st a st').s = st'.s) (hec : ∀ st a st' t, e st a (cutS st' t) = cutS (e st a st') t) :
  LocS fun st => Marshal.bnd (F (o st)) fun a st' => .ok (k st a, e st a st') := by
 intro st b st2 h
 cases hf : F (o st) with
 | error x => simp only [hf] at h; cases h
 | ok p =>
  obtain ⟨a, st1⟩ := p
  simp only [hf] at h
  cases h
  obtain ⟨u, e1, e2, e3⟩ := hF _ a st1 hf
  refine ⟨u, by rw [<- hs st, e1, hes], fun t => ?_, fun v w ee hw => ?_⟩
  ·show Marshal.bnd (F (o (cutS st (u ++ t)))) _ = _
   rw [ho, e2]
   show Except.ok _ = _
   rw [hk, he, hec]
  ·show Marshal.bnd (F (o (cutS st v))) _ = _
   rw [ho, e3 v w ee hw]
   rfl
theorem LocS.form : ∀ n : Nat, LocS (Qek n)
 | 0 => LocS.err 99
 | n + 1 => by
  refine LocS.bnd LocS.next fun x => LocS.ite (LocS.bnd (LocS.num _) fun k => ?_) ?_
  ·intro st a st' h
   simp only at h
   split at h
   ·rename_i c hc
    cases h
    exact ⟨[], rfl, fun t => by simp only [cutS, hc]; rfl, fun v w e hw => absurd (List.append_eq_nil_iff.1 e.symm).2 hw⟩
   ·cases h
  ·have h1 : LocS fun st => Marshal.bnd (Qce (Qek n) x (Qb1 x st)) fun c st' => .ok ((st.g.length : Int), setS st.g.length c st') :=
    LocS.wrap (LocS.inner (LocS.form n) x) (Qb1 x) (fun _ _ => rfl) (fun _ => rfl) (fun st _ => (st.g.length : Int)) (fun _ _ _ => rfl) (fun st c st' => setS st.g.length c st') (fun _ _ _ _ => rfl) (fun _ _ _ => rfl) (fun _ _ _ _ => rfl)
   intro st a st' h
   simp only at h
   split at h
   ·cases h
   ·rename_i hc
    obtain ⟨u, e1, e2, e3⟩ := h1 st a st' h
    refine ⟨u, e1, fun t => ?_, fun v w e hw => ?_⟩
    ·have := e2 t
     show (if 500 <= st.g.length \/ x ∉ Qbl then _ else _) = _
     rw [if_neg hc]
     exact this
    ·have := e3 v w e hw
     show (if 500 <= st.g.length \/ x ∉ Qbl then _ else _) = _
     rw [if_neg hc]
     exact this
theorem LocS.le {α : Type} {F : St -> Except Int (α × St)} (h : LocS F) {st st' : St} {a : α} (e : F st = .ok (a, st')) : st'.s.length <= st.s.length := by
 obtain ⟨u, e1, _⟩ := h st a st' e
 rw [e1, Zhz]; omega
theorem bnd_congr {α β : Type} {x : Except Int (α × St)} {G H : α -> St -> Except Int (β × St)} (h : ∀ a st, x = .ok (a, st) -> G a st = H a st) : bnd x G = bnd x H := by
 cases x with
 | error e => rfl
 | ok p => obtain ⟨a, st⟩ := p; exact h a st rfl
theorem Qhp {f h : St -> Except Int (Int × St)} (hf : LocS f) {m : Nat} (e : ∀ st, st.s.length <= m -> f st = h st) : ∀ (n : Nat) (l : List Int) (st : St), st.s.length <= m -> Qdm f n l st = Qdm h n l st
 | 0, _, _, _ => rfl
 | n + 1, l, st, hs => by
  unfold Qdm
  rw [<- e st hs]
  exact bnd_congr fun i st1 h1 => Qhp hf e n _ st1 (Zwz (hf.le h1) hs)
theorem Qlr {f h : St -> Except Int (Int × St)} (hf : LocS f) {m : Nat} (e : ∀ st, st.s.length <= m -> f st = h st) : ∀ (n : Nat) (ns : List B) (l : List Int) (st : St), st.s.length <= m -> Qdq f n ns l st = Qdq h n ns l st
 | 0, _, _, _, _ => rfl
 | n + 1, ns, l, st, hs => by
  unfold Qdq
  refine bnd_congr fun x st1 h1 => bnd_congr fun t st2 h2 => ?_
  have l1 := LocS.next.le h1
  have l2 := (LocS.sym x).le h2
  split
  ·rw [<- e st2 (by omega)]
   exact bnd_congr fun i st3 h3 => Qlr hf e n _ _ st3 (by have := hf.le h3; omega)
  ·rfl
theorem Qk7 {f h : St -> Except Int (Int × St)} (hf : LocS f) {m : Nat} (e : ∀ st, st.s.length <= m -> f st = h st) (x : UInt8) (st : St) (hs : st.s.length <= m) : Qce f x st = Qce h x st := by
 unfold Qce
 split
 ·rfl
 split
 ·rfl
 split
 ·rfl
 split
 ·rfl
 split
 ·rfl
 split
 ·rfl
 split
 ·refine bnd_congr fun n st1 h1 => ?_
  rw [Qhp hf e n [] st1 (by have := (LocS.num _).le h1; omega)]
 split
 ·refine bnd_congr fun n st1 h1 => ?_
  rw [Qhp hf e (2 * n) [] st1 (by have := (LocS.num _).le h1; omega)]
 refine bnd_congr fun y st1 h1 => bnd_congr fun t st2 h2 => ?_
 have l1 := LocS.next.le h1
 have l2 := (LocS.sym y).le h2
 split
 ·refine bnd_congr fun n st3 h3 => ?_
  rw [Qlr hf e n [] [] st3 (by have := (LocS.num _).le h3; omega)]
 ·rfl
theorem Qih : ∀ (n m : Nat) (st : St), st.s.length < n -> st.s.length < m -> Qek n st = Qek m st
 | 0, _, _, h, _ => by omega
 | _ + 1, 0, _, _, h => by omega
 | n + 1, m + 1, st, h1, h2 => by
  unfold Qek
  refine bnd_congr fun x st1 h3 => ?_
  have hl : st1.s.length + 1 = st.s.length := by
   unfold Qc2 at h3
   split at h3
   ·cases h3
   ·rename_i y s hs
    cases h3
    rw [hs]; rfl
  split
  ·rfl
  split
  ·rfl
  rw [Qk7 (h := Qek m) (LocS.form n) (m := st1.s.length) (fun st2 h4 => Qih n m st2 (by omega) (by omega)) x (Qb1 x st1) (Zcz _)]
noncomputable def Qgt (st : St) : Except Int (Int × St) := Qek (st.s.length + 1) st
theorem Qw7 {n : Nat} {st : St} (h : st.s.length < n) : Qgt st = Qek n st := Qih _ _ _ (Nat.lt_succ_self _) h
end Go.Marshal
namespace Go.Marshal
open Go.Core
def Gone (w w' : Wr) : Prop := ∃ b cs ts, w' = ⟨w.out ++ b, w.cells ++ cs, w.ss ++ ts⟩
theorem Gone.refl (w : Wr) : Gone w w := ⟨[], [], [], by simp⟩
theorem Gone.trans {a b c : Wr} (h : Gone a b) (k : Gone b c) : Gone a c := by
 obtain ⟨x, y, z, rfl⟩ := h
 obtain ⟨p, q, r, rfl⟩ := k
 exact ⟨x ++ p, y ++ q, z ++ r, by simp⟩
theorem Qcp (w : Wr) (b : B) : Gone w (putW w b) := ⟨b, [], [], by simp [putW]⟩
theorem Qdw (w : Wr) (t : B) : Gone w (symW w t) := by
 unfold symW
 split
 ·exact Qcp w _
 ·exact ⟨58 :: (num t.length ++ t), [], [t], by simp⟩
theorem Qvj (w : Wr) (a : Int) : Gone w { w with cells := w.cells ++ [a] } := ⟨[], [a], [], by simp⟩
theorem Qbm {α : Type} {f : Wr -> α -> Wr} (h : ∀ w x, Gone w (f w x)) : ∀ (l : List α) (w : Wr), Gone w (l.foldl f w)
 | [], w => Gone.refl w
 | x :: l, w => (h w x).trans (Qbm h l (f w x))
theorem Qaw (g : List Cell) : ∀ (n : Nat) (w : Wr) (a : Int), Gone w (Qae g n w a)
 | 0, w, _ => Gone.refl w
 | n + 1, w, a => by
  unfold Qae
  simp only
  split
  ·exact Qcp _ _
  split
  ·exact Qcp _ _
  split
  ·exact Qcp _ _
  split
  ·exact Qcp _ _
  split
  ·exact Qdw _ _
  split
  ·exact Qcp _ _
  refine (Qvj w a).trans ?_
  split
  ·exact Qcp _ _
  split
  ·exact (Qcp _ _).trans (Qbm (Qaw g n) _ _)
  split
  ·exact (Qcp _ _).trans (Qbm (Qaw g n) _ _)
  ·refine (((Qcp _ _).trans (Qdw _ _)).trans (Qcp _ _)).trans (Qbm (fun w p => ?_) _ _)
   exact (Qdw w p.1).trans (Qaw g n _ p.2)
theorem Gone.out {w w' : Wr} (h : Gone w w') : ∃ b, w'.out = w.out ++ b := by obtain ⟨b, _, _, rfl⟩ := h; exact ⟨b, rfl⟩
theorem Gone.sub {w w' : Wr} (h : Gone w w') : ∀ x ∈ w.cells, x ∈ w'.cells := by
 obtain ⟨_, cs, _, rfl⟩ := h
 exact fun x hx => List.mem_append_left _ hx
def wgt (F : Cell -> Nat) (g : List Cell) (cs : List Int) : Nat := (((List.range g.length).filter fun (k : Nat) => !decide ((k : Int) ∈ cs)).map fun (k : Nat) => F (at_ g (k : Int))).sum
theorem Qrd (F : Cell -> Nat) (g : List Cell) (p q : Nat -> Bool) (a : Nat) (hpq : ∀ k, q k = (p k && !decide (k = a))) (hp : p a = true) : ∀ l : List Nat, l.Nodup -> a ∈ l -> ((l.filter q).map fun (k : Nat) => F (at_ g (k : Int))).sum + F (at_ g (a : Int)) = ((l.filter p).map fun (k : Nat) => F (at_ g (k : Int))).sum
 | [], _, h => by cases h
 | x :: l, hn, hm => by
  have hn2 := Zxz.1 hn
  rw [List.filter_cons, List.filter_cons]
  by_cases e : x = a
  ·subst e
   have hq : q x = false := by rw [hpq]; simp
   have hf : l.filter q = l.filter p := List.filter_congr fun k hk => by
    rw [hpq]
    have : k ≠ x := fun h => hn2.1 (h ▸ hk)
    simp [this]
   rw [hp, hq, hf, if_pos rfl, if_neg (by simp)]
   simp only [List.map_cons, List.sum_cons]; omega
  ·have ih := Qrd F g p q a hpq hp l hn2.2 ((List.mem_cons.1 hm).resolve_left (fun h => e h.symm))
   have hq : q x = p x := by rw [hpq]; simp [e]
   rw [hq]
   split
   ·simp only [List.map_cons, List.sum_cons]; omega
   ·exact ih
theorem Qp8 {F : Cell -> Nat} {g : List Cell} {cs : List Int} {a : Int} (ha : InI g a) (hn : a ∉ cs) : wgt F g (cs ++ [a]) + F (at_ g a) = wgt F g cs := by
 have e : ((a.toNat : Nat) : Int) = a := by have := ha.1; omega
 have := Qrd F g (fun (k : Nat) => !decide ((k : Int) ∈ cs)) (fun (k : Nat) => !decide ((k : Int) ∈ cs ++ [a])) a.toNat (fun k => by
  have : (k = a.toNat) ↔ ((k : Int) = a) := by have := ha.1; omega
  rw [decide_eq_decide.2 this, <- Bool.not_or, <- Bool.decide_or]
  simp only [Zmz, Zgz]) (by simp only [e]; simp [hn]) (List.range g.length) List.nodup_range (List.mem_range.2 (by have := ha.1; have := ha.2; omega))
 rw [e] at this
 exact this
theorem Qrc {F : Cell -> Nat} {g : List Cell} {m : Nat} (h : ∀ i, InI g i -> F (at_ g i) <= m) (cs : List Int) : wgt F g cs <= g.length * m := by
 have key : ∀ l : List Nat, (∀ k ∈ l, F (at_ g (k : Int)) <= m) -> (l.map fun (k : Nat) => F (at_ g (k : Int))).sum <= l.length * m := by
  intro l
  induction l with
  | nil => exact fun _ => Zkz _
  | cons x l ih =>
   intro hl
   have h1 := hl x (by simp)
   have h2 := ih fun k hk => hl k (by simp [hk])
   rw [List.map_cons, List.sum_cons, Znz, Nat.succ_mul]
   omega
 refine Zwz (key _ fun k hk => h _ ?_) (Nat.mul_le_mul_right m ?_)
 ·have := List.mem_range.1 (List.mem_filter.1 hk).1
  exact ⟨by omega, by omega⟩
 ·refine Zwz (List.length_filter_le _ _) ?_
  rw [List.length_range]
  exact Zcz _
structure Qp5 (K : Nat) (c : Cell) : Prop where
 kind : 0 <= c.kind /\ c.kind <= 8
 num : c.kind = 3 -> -(maxN : Int) <= c.num /\ c.num <= (maxN : Int)
 num0 : c.kind ≠ 3 -> c.num = 0
 text : c.text.length <= 2000 /\ c.text.length + 30 <= K
 sym : c.kind = 5 -> c.text.length <= 40
 cls : c.kind = 8 -> Go.Scan.icB c.text = true /\ c.text.length <= 40
 text0 : c.kind ≠ 4 -> c.kind ≠ 5 -> c.kind ≠ 8 -> c.text = []
 leaf : c.kind <= 5 -> c.items = [] /\ c.names = []
 nam0 : c.kind ≠ 8 -> c.names = []
 even : c.kind = 7 -> c.items.length % 2 = 0
 lens : c.kind = 8 -> c.names.length = c.items.length
 dup : c.names.Nodup
 nam : ∀ t ∈ c.names, Go.Scan.iiB t = true /\ t.length <= 40
 len : c.items.length <= 2000
theorem Qeo (w : Wr) (b : B) : (putW w b).out.length = w.out.length + b.length := by unfold putW; simp
theorem Qqb (w : Wr) (t : B) (ht : t.length <= 2000) (hs : w.ss.length <= maxN) : (symW w t).out.length <= w.out.length + (t.length + 10) := by
 have hm : maxN = 1000000000000000 := rfl
 unfold symW
 split
 ·rename_i h
  have := List.idxOf_lt_length_iff.2 h
  have := Qbd (n := w.ss.idxOf t) (by omega)
  rw [Qeo]
  simp only [Znz]; omega
 ·have := Qbd (n := t.length) (by omega)
  simp only [Zhz, Znz]; omega
def Few (w : Wr) : Prop := w.ss.length <= maxN /\ w.cells.length <= maxN
theorem Gone.few {w w' : Wr} (h : Gone w w') (k : Few w') : Few w := by
 obtain ⟨_, cs, ts, rfl⟩ := h
 have h1 := k.1
 have h2 := k.2
 simp only [Zhz] at h1 h2
 exact ⟨by omega, by omega⟩
theorem Qj0 {α : Type} {f : Wr -> α -> Wr} {Φ : Wr -> Nat} {c : Nat} (hf : ∀ w x, Gone w (f w x)) : ∀ (l : List α) (w : Wr), (∀ w, ∀ x ∈ l, Few (f w x) -> (f w x).out.length + Φ (f w x) <= w.out.length + Φ w + c) -> Few (l.foldl f w) -> (l.foldl f w).out.length + Φ (l.foldl f w) <= w.out.length + Φ w + c * l.length
 | [], w, _, _ => by simp
 | x :: l, w, h, hM => by
  rw [List.foldl_cons] at hM ⊢
  have h0 := (Qbm hf l (f w x)).few hM
  have h1 := h w x (by simp) h0
  have h2 := Qj0 hf l (f w x) (fun w y hy => h w y (by simp [hy])) hM
  rw [Znz, Nat.mul_add]; omega
def iN (c : Cell) : Nat := c.items.length + c.names.length
theorem Qa1 (w : Wr) (b : B) : (putW w b).cells = w.cells := rfl
theorem Qbg (w : Wr) (t : B) : (symW w t).cells = w.cells := by
 unfold symW
 split <;> rfl
theorem Qka {g : List Cell} {K : Nat} (hg : InG g) (hc : ∀ i, InI g i -> Qp5 K (at_ g i)) (hK : 60 <= K) : ∀ (n : Nat) (w : Wr) (a : Int), InI g a -> Few (Qae g n w a) ->
  (Qae g n w a).out.length + K * wgt iN g (Qae g n w a).cells <= w.out.length + K * wgt iN g w.cells + K
 | 0, w, a, _, _ => by unfold Qae; omega
 | n + 1, w, a, ha, hF => by
  have hm : maxN = 1000000000000000 := rfl
  have c := hc a ha
  have hFw := (Qaw g (n + 1) w a).few hF
  have ht := c.text
  unfold Qae at hF ⊢
  simp only at hF ⊢
  split
  ·rw [Qa1, Qeo]; simp only [Znz, List.length_nil]; omega
  split
  ·rw [Qa1, Qeo]; simp only [Znz, List.length_nil]; omega
  split
  ·rw [Qa1, Qeo]; simp only [Znz, List.length_nil]; omega
  split
  ·rename_i h3
   have h4 := c.num h3
   have := Qbd (n := sgn (at_ g a).num) (by unfold sgn; split <;> omega)
   rw [Qa1, Qeo]; simp only [Znz]; omega
  split
  ·have := Qqb w (at_ g a).text ht.1 hFw.1
   rw [Qbg]; omega
  split
  ·rename_i h6
   have := List.idxOf_lt_length_iff.2 h6
   have := Qbd (n := w.cells.idxOf a) (by have := hFw.2; omega)
   rw [Qa1, Qeo]; simp only [Znz]; omega
  rename_i k0 k1 k2 k3 k5 hm2
  rw [if_neg k0, if_neg k1, if_neg k2, if_neg k3, if_neg k5, if_neg hm2] at hF
  have hw := Qp8 (F := iN) ha hm2
  have hw2 : K * wgt iN g (w.cells ++ [a]) + K * iN (at_ g a) = K * wgt iN g w.cells := by rw [<- Nat.mul_add, hw]
  have hl := c.len
  have hn1 := Qbd (n := (at_ g a).items.length) (by omega)
  have hn2 := Qbd (n := (at_ g a).items.length / 2) (by omega)
  have step : ∀ w, ∀ x ∈ (at_ g a).items, Few (Qae g n w x) -> (Qae g n w x).out.length + K * wgt iN g (Qae g n w x).cells <= w.out.length + K * wgt iN g w.cells + K := fun w x hx => Qka hg hc hK n w x (Qc5 hg ha hx)
  split
  ·have := Qbd (n := (at_ g a).text.length) (by omega)
   rw [Qa1, Qeo]; simp only [Znz, Zhz]
   omega
  rename_i k4
  rw [if_neg k4] at hF
  split
  ·rename_i k6
   rw [if_pos k6] at hF
   have := Qj0 (Φ := fun w => K * wgt iN g w.cells) (c := K) (Qaw g n) (at_ g a).items _ step hF
   refine Zwz this ?_
   rw [Qa1, Qeo]
   simp only [Znz]
   have : K * iN (at_ g a) ≥ K * (at_ g a).items.length := Nat.mul_le_mul_left K (by unfold iN; omega)
   omega
  rename_i k6
  rw [if_neg k6] at hF
  split
  ·rename_i k7
   rw [if_pos k7] at hF
   have := Qj0 (Φ := fun w => K * wgt iN g w.cells) (c := K) (Qaw g n) (at_ g a).items _ step hF
   refine Zwz this ?_
   rw [Qa1, Qeo]
   simp only [Znz]
   have : K * iN (at_ g a) ≥ K * (at_ g a).items.length := Nat.mul_le_mul_left K (by unfold iN; omega)
   omega
  rename_i k7
  rw [if_neg k7] at hF
  have k8 : (at_ g a).kind = 8 := by have := c.kind; omega
  have hgone := Qbm (f := fun w (p : B × Int) => Qae g n (symW w p.1) p.2) (fun w p => (Qdw w p.1).trans (Qaw g n _ p.2)) ((at_ g a).names.zip (at_ g a).items)
  have hFs := (hgone _).few hF
  have hcl := c.cls k8
  have hn3 := Qbd (n := (at_ g a).names.length) (by rw [c.lens k8]; omega)
  have := Qj0 (Φ := fun w => K * wgt iN g w.cells) (c := 2 * K) (f := fun w (p : B × Int) => Qae g n (symW w p.1) p.2) (fun w p => (Qdw w p.1).trans (Qaw g n _ p.2)) ((at_ g a).names.zip (at_ g a).items) _ (fun w p hp hFp => by
   have hz := List.of_mem_zip (a := p.1) (b := p.2) hp
   have h1 := step (symW w p.1) p.2 hz.2 hFp
   have hFw2 := ((Qdw w p.1).trans (Qaw g n _ p.2)).few hFp
   have h2 := Qqb w p.1 (by have := (c.nam p.1 hz.1).2; omega) hFw2.1
   have := (c.nam p.1 hz.1).2
   rw [Qbg] at h1
   omega) hF
  refine Zwz this ?_
  rw [Qa1, Qeo, Qbg, Qa1]
  have hs := Qqb (putW { w with cells := w.cells ++ [a] } [111]) (at_ g a).text ht.1 (by show w.ss.length <= _; exact hFw.1)
  rw [Qeo] at hs
  simp only [Znz, List.length_nil] at hs ⊢
  have hz2 : ((at_ g a).names.zip (at_ g a).items).length = (at_ g a).items.length := by rw [List.length_zip, c.lens k8]; omega
  rw [hz2]
  have : K * iN (at_ g a) = 2 * K * (at_ g a).items.length := by unfold iN; rw [c.lens k8, <- Nat.two_mul, <- Nat.mul_assoc, Nat.mul_comm K 2]
  omega
end Go.Marshal
namespace Go.Marshal
open Go.Core
theorem Qji (st : St) : Qgt st = bnd (Qc2 st) fun x st1 => if x = 64 then bnd (numS maxN st1) (fun k st2 => match st2.cells[k]? with
   | some c => .ok (c, st2)
   | none => .error 4)
  else if 500 <= st1.g.length \/ x ∉ Qbl then .error 4
  else bnd (Qce Qgt x (Qb1 x st1)) fun c st' => .ok ((st1.g.length : Int), setS st1.g.length c st') := by
 show Qek (st.s.length + 1) st = _
 conv => lhs; unfold Qek
 refine bnd_congr fun x st1 h3 => ?_
 have hl : st1.s.length + 1 = st.s.length := by
  unfold Qc2 at h3
  split at h3
  ·cases h3
  ·rename_i y s hs
   cases h3
   rw [hs]; rfl
 split
 ·rfl
 split
 ·rfl
 rw [Qk7 (h := Qgt) (LocS.form st.s.length) (m := st1.s.length) (fun st2 h4 => (Qw7 (by omega)).symm) x (Qb1 x st1) (Zcz _)]
theorem Qs2 {st : St} {s : B} (hs : st.s = 64 :: s) : Qgt st = bnd (numS maxN { st with s := s }) fun k st2 => match st2.cells[k]? with
   | some c => .ok (c, st2)
   | none => .error 4 := by
 rw [Qji]
 unfold Qc2
 rw [hs]
 rfl
theorem Qpg {st : St} {x : UInt8} {s : B} (hs : st.s = x :: s) (h64 : x ≠ 64) (hb : x ∈ Qbl) : Qgt st = if 500 <= st.g.length then .error 4 else bnd (Qce Qgt x (Qb1 x { st with s := s })) fun c st' => .ok ((st.g.length : Int), setS st.g.length c st') := by
 rw [Qji]
 unfold Qc2
 rw [hs]
 show (if x = 64 then _ else if 500 <= st.g.length \/ x ∉ Qbl then _ else _) = _
 rw [if_neg h64]
 by_cases h : 500 <= st.g.length
 ·rw [if_pos h, if_pos (.inl h)]
 ·rw [if_neg h, if_neg (by rintro (h2 | h2); exact h h2; exact h2 hb)]
def lk (org : List Int) (i : Int) : Int := org.getD i.toNat 0
theorem Qo8 {org on : List Int} {i : Int} (h : 0 <= i /\ i < (org.length : Int)) : lk (org ++ on) i = lk org i := by
 unfold lk
 rw [Zlz, Zlz, Zrz (by omega)]
theorem Qva (org : List Int) (a : Int) (on : List Int) : lk (org ++ a :: on) (org.length : Int) = a := by
 unfold lk
 rw [Zdz, Zlz, List.getElem?_append_right (Zcz _), Nat.sub_self]
 rfl
structure Rl (w : Wr) (st : St) (org : List Int) : Prop where
 ss : st.ss = w.ss
 len : org.length = st.g.length
 cells : st.cells.map (lk org) = w.cells
 rng : ∀ i ∈ st.cells, 0 <= i /\ i < (st.g.length : Int)
structure Good (g : List Cell) (org : List Int) (n : Nat) (c : Cell) (x : Int) : Prop where
 cell : at_ g x = Qst (lk org) c
 rng : ∀ y ∈ c.items, 0 <= y /\ y < (n : Int)
 inI : InI g x
def Qdk (c : Cell) : Prop := c.kind = 4 \/ 6 <= c.kind
structure Ex (g : List Cell) (st st' : St) (org org' : List Int) (new : List Cell) (on : List Int) : Prop where
 g_ : st'.g = st.g ++ new
 o_ : org' = org ++ on
 len : on.length = new.length
 good : ∀ (j : Nat) (c : Cell) (x : Int), new[j]? = some c -> on[j]? = some x -> Good g org' st'.g.length c x /\ (Qdk c -> ((st.g.length + j : Nat) : Int) ∈ st'.cells)
 sub : ∀ i ∈ st.cells, i ∈ st'.cells
theorem Good.mono {g : List Cell} {org on : List Int} {n m : Nat} {c : Cell} {x : Int} (h : Good g org n c x) (ho : org.length = n) (hm : n <= m) : Good g (org ++ on) m c x :=
 ⟨by
  rw [h.cell]
  unfold Qst
  congr 1
  exact List.map_congr_left fun y hy => (Qo8 (by rw [ho]; exact h.rng y hy)).symm, fun y hy => by have := h.rng y hy; omega, h.inI⟩
theorem Ex.refl (g : List Cell) (st : St) (org : List Int) (s : B) (ss : List B) : Ex g st { st with s := s, ss := ss } org org [] [] :=
 ⟨by simp, by simp, rfl, fun j c x h => by simp at h, fun _ h => h⟩
theorem Ex.trans {g : List Cell} {st st1 st2 : St} {org org1 org2 : List Int} {n1 n2 : List Cell} {o1 o2 : List Int} (h : Ex g st st1 org org1 n1 o1) (k : Ex g st1 st2 org1 org2 n2 o2) (hl : org.length = st.g.length) : Ex g st st2 org org2 (n1 ++ n2) (o1 ++ o2) := by
 have hl1 : org1.length = st1.g.length := by rw [h.o_, h.g_, Zhz, Zhz, hl, h.len]
 refine ⟨by rw [k.g_, h.g_, Zuz], by rw [k.o_, h.o_, Zuz], by rw [Zhz, Zhz, h.len, k.len], fun j c x hc hx => ?_, fun i hi => k.sub i (h.sub i hi)⟩
 rcases Nat.lt_or_ge j n1.length with hj | hj
 ·rw [Zrz hj] at hc
  rw [Zrz (by rw [h.len]; exact hj)] at hx
  obtain ⟨g1, g2⟩ := h.good j c x hc hx
  rw [k.o_, k.g_]
  refine ⟨g1.mono hl1 (by rw [Zhz]; omega), fun hs => k.sub _ (g2 hs)⟩
 ·rw [List.getElem?_append_right hj] at hc
  rw [List.getElem?_append_right (by rw [h.len]; exact hj), h.len] at hx
  obtain ⟨g1, g2⟩ := k.good _ c x hc hx
  refine ⟨g1, fun hs => ?_⟩
  have := g2 hs
  rw [h.g_, Zhz] at this
  rw [show st.g.length + j = st.g.length + n1.length + (j - n1.length) by omega]
  exact this
theorem Qou {φ : Int -> Int} {c : Cell} (h : c.items = []) : Qst φ c = c := by
 cases c
 simp only at h
 subst h
 rfl
def iT (c : Cell) : Nat := c.items.length
theorem Qm0 {w : Wr} {t : B} (ht : t.length <= 40) (hs : w.ss.length <= maxN) : ∃ x b, (symW w t).out = w.out ++ x :: b /\ (x = 58 \/ x = 59) /\ ∀ tail, Qgk x w.ss (b ++ tail) = .ok (t, (symW w t).ss, tail) := by
 have hm : maxN = 1000000000000000 := rfl
 unfold symW
 by_cases h : t ∈ w.ss
 ·have hi := List.idxOf_lt_length_iff.2 h
  rw [if_pos h]
  refine ⟨59, num (w.ss.idxOf t), rfl, .inr rfl, fun tail => ?_⟩
  unfold Qgk
  rw [if_pos rfl, Qrl (by omega) (by omega)]
  simp only
  rw [Zbz hi, List.getElem_idxOf hi]
  rfl
 ·rw [if_neg h]
  refine ⟨58, num t.length ++ t, rfl, .inl rfl, fun tail => ?_⟩
  unfold Qgk rdT
  rw [if_neg (by decide), if_pos rfl, Zuz, Qrl (by omega) (by omega)]
  simp only
  rw [if_neg (by omega), if_neg (by rw [Zhz]; omega)]
  simp only
  rw [List.take_left, List.drop_left, if_neg h]
def Back (g : List Cell) (w w' : Wr) (a : Int) : Prop := ∃ b, w'.out = w.out ++ b /\ ∀ (tail : B) (st : St) (org : List Int), Rl w st org -> st.s = b ++ tail ->
 (∃ i st' org' new on, Qgt st = .ok (i, st') /\ st'.s = tail /\ Rl w' st' org' /\ Ex g st st' org org' new on /\ (0 <= i /\ i < (st'.g.length : Int)) /\ lk org' i = a /\ (i = (st.g.length : Int) \/ i ∈ st.cells) /\ st'.g.length + wgt iT g w'.cells <= st.g.length + wgt iT g w.cells + 1) \/
 (Qgt st = .error 4 /\ 500 < st.g.length + 1 + wgt iT g w.cells)
theorem Qgw {g : List Cell} {w w' : Wr} {a : Int} {x : UInt8} {b : B} {c : Cell} (ha : InI g a) (hw : w'.out = w.out ++ x :: b) (h64 : x ≠ 64) (hb : x ∈ Qbl) (hn : x ∉ Qi1) (hc : at_ g a = c) (h0 : c.items = []) (hsh : ¬ Qdk c) (hcells : w'.cells = w.cells)
  (hi : ∀ (tail : B) (st : St), st.ss = w.ss -> st.s = b ++ tail -> Qce Qgt x st = .ok (c, { st with s := tail, ss := w'.ss })) : Back g w w' a := by
 refine ⟨x :: b, hw, fun tail st org hR hs => ?_⟩
 have hs2 : st.s = x :: (b ++ tail) := hs
 rw [Qpg hs2 h64 hb]
 by_cases h : 500 <= st.g.length
 ·rw [if_pos h]
  exact .inr ⟨rfl, by omega⟩
 ·rw [if_neg h, hi tail (Qb1 x { st with s := b ++ tail }) hR.ss rfl]
  have hop : (Qb1 x { st with s := b ++ tail }).cells = st.cells := by unfold Qb1; simp only; rw [if_neg hn]
  have hg : (Qb1 x { st with s := b ++ tail }).g = st.g ++ [nilC] := rfl
  refine .inl ⟨(st.g.length : Int), ⟨tail, st.g ++ [c], st.cells, w'.ss⟩, org ++ [a], [c], [a], ?_, rfl, ⟨rfl, by simp [hR.len], ?_, fun i hi => ?_⟩, ⟨rfl, rfl, rfl, fun j d y hd hy => ?_, fun _ h => h⟩, ⟨by omega, by simp; omega⟩, ?_, .inl rfl, ?_⟩
  ·show Except.ok _ = _
   unfold setS
   simp only [hop, hg]
   rw [List.set_append_right _ _ (Zcz _), Nat.sub_self]
   rfl
  ·rw [hcells, <- hR.cells]
   exact List.map_congr_left fun y hy => Qo8 (by rw [hR.len]; exact hR.rng y hy)
  ·have := hR.rng i hi
   simp only [Zhz, Znz, List.length_nil]
   omega
  ·cases j with
   | succ j => simp at hd
   | zero =>
    obtain rfl := Zzz hd
    obtain rfl := Zzz hy
    refine ⟨⟨?_, ?_, ha⟩, fun k => absurd k hsh⟩
    ·rw [hc, Qou h0]
    ·rw [h0]; exact fun _ h => by cases h
  ·rw [<- hR.len]; exact Qva org a []
  ·rw [hcells]
   simp only [Zhz, Znz, List.length_nil]
   omega
end Go.Marshal
namespace Go.Marshal
open Go.Core
theorem Qo2 {most n : Nat} {st : St} {tail : B} (h : n <= most) (hm : most <= 2 * maxN) (hs : st.s = num n ++ tail) : numS most st = .ok (n, { st with s := tail }) := by
 have : maxN = 1000000000000000 := rfl
 unfold numS
 rw [hs, Qrl h (by omega)]
theorem Qis {g : List Cell} {w w' : Wr} {a : Int} {x : UInt8} {b : B} (hw : w'.out = w.out ++ x :: b) (h64 : x ≠ 64) (hb : x ∈ Qbl) (hn : x ∈ Qi1)
  (hi : ∀ (tail : B) (st : St) (org : List Int), Rl { w with cells := w.cells ++ [a] } st org -> st.s = b ++ tail ->
   (∃ c st' org' new on, Qce Qgt x st = .ok (c, st') /\ st'.s = tail /\ Rl w' st' org' /\ Ex g st st' org org' new on /\ Good g org' st'.g.length c a /\ st'.g.length + wgt iT g w'.cells <= st.g.length + wgt iT g w.cells) \/
   (Qce Qgt x st = .error 4 /\ 500 < st.g.length + wgt iT g w.cells)) : Back g w w' a := by
 refine ⟨x :: b, hw, fun tail st org hR hs => ?_⟩
 have hs2 : st.s = x :: (b ++ tail) := hs
 rw [Qpg hs2 h64 hb]
 by_cases h : 500 <= st.g.length
 ·rw [if_pos h]
  exact .inr ⟨rfl, by omega⟩
 ·rw [if_neg h]
  have hoc : (Qb1 x { st with s := b ++ tail }).cells = st.cells ++ [(st.g.length : Int)] := by unfold Qb1; simp only; rw [if_pos hn]
  have hog : (Qb1 x { st with s := b ++ tail }).g = st.g ++ [nilC] := rfl
  have hlr := hR.len
  obtain ⟨o, ho⟩ : ∃ o, o = Qb1 x { st with s := b ++ tail } := ⟨_, rfl⟩
  have hRo : Rl { w with cells := w.cells ++ [a] } o (org ++ [a]) := by
   refine ⟨by rw [ho]; exact hR.ss, by rw [ho, hog]; simp [hlr], ?_, fun i hi => ?_⟩
   ·rw [ho, hoc, List.map_append, <- hR.cells]
    congr 1
    ·exact List.map_congr_left fun y hy => Qo8 (by rw [hlr]; exact hR.rng y hy)
    ·show [lk _ _] = [a]
     rw [<- hlr, Qva org a []]
   ·rw [ho, hoc] at hi
    rw [ho, hog, Zhz]
    rcases Zmz.1 hi with hi | hi
    ·have := hR.rng i hi; simp only [Znz, List.length_nil]; omega
    ·rw [Zgz.1 hi]; simp only [Znz, List.length_nil]; omega
  have hol : o.g.length = st.g.length + 1 := by rw [ho, hog]; simp
  rw [<- ho]
  rcases hi tail o (org ++ [a]) hRo (by rw [ho]; rfl) with ⟨c, st', org', new, on, h1, h2, h3, h4, h5, h6⟩ | ⟨h1, h2⟩
  ·rw [h1]
   have hg' : (setS st.g.length c st').g = st.g ++ c :: new := by
    unfold setS
    simp only
    rw [h4.g_, ho, hog, Zuz, List.set_append_right _ _ (Zcz _), Nat.sub_self]
    rfl
   have hgl : (setS st.g.length c st').g.length = st'.g.length := by unfold setS; simp
   refine .inl ⟨(st.g.length : Int), setS st.g.length c st', org', c :: new, a :: on, rfl, h2, ⟨h3.ss, by rw [hgl]; exact h3.len, h3.cells, fun i hi => by rw [hgl]; exact h3.rng i hi⟩, ⟨hg', by rw [h4.o_, Zuz]; rfl, by simp [h4.len], fun j d y hd hy => ?_, fun i hi => h4.sub i (by rw [ho, hoc]; simp [hi])⟩, ?_, ?_, .inl rfl, ?_⟩
   ·rw [hgl]
    cases j with
    | zero =>
     obtain rfl := Zzz hd
     obtain rfl := Zzz hy
     exact ⟨h5, fun _ => h4.sub _ (by rw [ho, hoc]; simp)⟩
    | succ j =>
     obtain ⟨k1, k2⟩ := h4.good j d y hd hy
     refine ⟨k1, fun hs => ?_⟩
     have := k2 hs
     rw [hol] at this
     rw [show st.g.length + (j + 1) = st.g.length + 1 + j by omega]
     exact this
   ·rw [hg', Zhz]; simp only [Znz]; omega
   ·rw [h4.o_, Zuz, <- hlr]
    exact Qva org a on
   ·rw [hgl]
    omega
  ·rw [h1]
   exact .inr ⟨rfl, by omega⟩
structure Kn (g : List Cell) (w : Wr) : Prop where
 nodup : w.cells.Nodup
 inI : ∀ x ∈ w.cells, InI g x
 sh : ∀ x ∈ w.cells, Qdk (at_ g x)
theorem Kn.put {g : List Cell} {w : Wr} (h : Kn g w) (b : B) : Kn g (putW w b) := ⟨h.nodup, h.inI, h.sh⟩
theorem Kn.sym {g : List Cell} {w : Wr} (h : Kn g w) (t : B) : Kn g (symW w t) :=
 ⟨by rw [Qbg]; exact h.nodup, by rw [Qbg]; exact h.inI, by rw [Qbg]; exact h.sh⟩
theorem Kn.fold {α : Type} {g : List Cell} {f : Wr -> α -> Wr} : ∀ (l : List α) (w : Wr), (∀ w, ∀ x ∈ l, Kn g w -> Kn g (f w x)) -> Kn g w -> Kn g (l.foldl f w)
 | [], _, _, h => h
 | x :: l, w, hf, h => Kn.fold l (f w x) (fun w y hy => hf w y (by simp [hy])) (hf w x (by simp) h)
theorem Kn.write {g : List Cell} {K : Nat} (hg : InG g) (hc : ∀ i, InI g i -> Qp5 K (at_ g i)) : ∀ (n : Nat) (w : Wr) (a : Int), InI g a -> Kn g w -> Kn g (Qae g n w a)
 | 0, _, _, _, h => h
 | n + 1, w, a, ha, h => by
  have c := hc a ha
  unfold Qae
  simp only
  split
  ·exact h.put _
  split
  ·exact h.put _
  split
  ·exact h.put _
  split
  ·exact h.put _
  split
  ·exact h.sym _
  split
  ·exact h.put _
  rename_i k0 k1 k2 k3 k5 hm
  have hk : Kn g { w with cells := w.cells ++ [a] } :=
   ⟨List.nodup_append.2 ⟨h.nodup, by simp, fun x hx y hy => by rw [Zgz.1 hy]; rintro rfl; exact hm hx⟩, fun x hx => (Zmz.1 hx).elim (h.inI x) fun hx => by rw [Zgz.1 hx]; exact ha,
    fun x hx => (Zmz.1 hx).elim (h.sh x) fun hx => by rw [Zgz.1 hx]; unfold Qdk; have := c.kind; omega⟩
  have step : ∀ w, ∀ x ∈ (at_ g a).items, Kn g w -> Kn g (Qae g n w x) := fun w x hx hw => Kn.write hg hc n w x (Qc5 hg ha hx) hw
  split
  ·exact hk.put _
  split
  ·exact Kn.fold _ _ step (hk.put _)
  split
  ·exact Kn.fold _ _ step (hk.put _)
  ·exact Kn.fold _ _ (fun w p hp hw => step _ _ (List.of_mem_zip (a := p.1) (b := p.2) hp).2 (hw.sym _)) ((((hk.put _).sym _).put _))
theorem Qjb {g : List Cell} {n : Nat} (hkw : ∀ w x, InI g x -> Kn g w -> Kn g (Qae g n w x)) (ih : ∀ w x, InI g x -> Kn g w -> Qb3 g w.cells < n -> Few (Qae g n w x) -> Back g w (Qae g n w x) x) : ∀ (l : List Int) (w : Wr), (∀ x ∈ l, InI g x) -> Kn g w -> Qb3 g w.cells < n -> Few (l.foldl (Qae g n) w) ->
  ∃ b, (l.foldl (Qae g n) w).out = w.out ++ b /\ ∀ (tail : B) (st : St) (org acc : List Int), Rl w st org -> st.s = b ++ tail ->
   (∃ js st' org' new on, Qdm Qgt l.length acc st = .ok (acc ++ js, st') /\ st'.s = tail /\ Rl (l.foldl (Qae g n) w) st' org' /\ Ex g st st' org org' new on /\ (∀ i ∈ js, 0 <= i /\ i < (st'.g.length : Int)) /\ js.map (lk org') = l /\ st'.g.length + wgt iT g (l.foldl (Qae g n) w).cells <= st.g.length + wgt iT g w.cells + l.length) \/
   (Qdm Qgt l.length acc st = .error 4 /\ 500 < st.g.length + l.length + wgt iT g w.cells)
 | [], w, _, _, _, _ => ⟨[], by simp, fun tail st org acc hR hs => .inl ⟨[], st, org, [], [], by unfold Qdm; simp, hs, hR, Ex.refl g st org st.s st.ss, (fun _ h => by cases h), rfl, Zcz _⟩⟩
 | x :: l, w, hl, hkn, hn, hF => by
  rw [List.foldl_cons] at hF ⊢
  have hgo := Qbm (Qaw g n) l (Qae g n w x)
  obtain ⟨b1, e1, h1⟩ := ih w x (hl x (by simp)) hkn hn (hgo.few hF)
  obtain ⟨b2, e2, h2⟩ := Qjb hkw ih l (Qae g n w x) (fun y hy => hl y (by simp [hy])) (hkw w x (hl x (by simp)) hkn) (Nat.lt_of_le_of_lt (Qct (Qaw g n w x).sub) hn) hF
  refine ⟨b1 ++ b2, by rw [e2, e1, Zuz], fun tail st org acc hR hs => ?_⟩
  rw [Znz]
  unfold Qdm
  rcases h1 (b2 ++ tail) st org hR (by rw [hs, Zuz]) with ⟨i, st1, org1, n1, o1, a1, a2, a3, a4, a5, a6, _, a8⟩ | ⟨a1, a2⟩
  ·rw [a1]
   simp only [bnd]
   rcases h2 tail st1 org1 (acc ++ [i]) a3 a2 with ⟨js, st2, org2, n2, o2, c1, c2, c3, c4, c5, c6, c7⟩ | ⟨c1, c2⟩
   ·rw [c1]
    have hx := a4.trans c4 hR.len
    refine .inl ⟨i :: js, st2, org2, n1 ++ n2, o1 ++ o2, by simp, c2, c3, hx, fun j hj => ?_, ?_, by omega⟩
    ·rcases List.mem_cons.1 hj with rfl | hj
     ·have := c4.g_
      have : st2.g.length = st1.g.length + n2.length := by rw [this, Zhz]
      omega
     ·exact c5 j hj
    ·rw [List.map_cons, c6, c4.o_, Qo8 (by rw [a3.len]; exact a5), a6]
   ·rw [c1]
    exact .inr ⟨rfl, by omega⟩
  ·rw [a1]
   exact .inr ⟨rfl, by omega⟩
def Qcs (g : List Cell) (n : Nat) (w : Wr) (p : B × Int) : Wr := Qae g n (symW w p.1) p.2
theorem Qc7 (g : List Cell) (n : Nat) (w : Wr) (p : B × Int) : Gone w (Qcs g n w p) := (Qdw w p.1).trans (Qaw g n _ p.2)
theorem Rl.sym {w : Wr} {st : St} {org : List Int} (h : Rl w st org) (t : B) (s : B) : Rl (symW w t) { st with s := s, ss := (symW w t).ss } org :=
 ⟨rfl, h.len, by rw [Qbg]; exact h.cells, h.rng⟩
theorem Ex.pre {g : List Cell} {st st' : St} {org org' : List Int} {new : List Cell} {on : List Int} {s : B} {ss : List B} (h : Ex g { st with s := s, ss := ss } st' org org' new on) : Ex g st st' org org' new on :=
 ⟨h.g_, h.o_, h.len, h.good, h.sub⟩
theorem Qmp {g : List Cell} {n : Nat} (hkw : ∀ w x, InI g x -> Kn g w -> Kn g (Qae g n w x)) (ih : ∀ w x, InI g x -> Kn g w -> Qb3 g w.cells < n -> Few (Qae g n w x) -> Back g w (Qae g n w x) x) : ∀ (l : List (B × Int)) (w : Wr), (∀ p ∈ l, InI g p.2 /\ Go.Scan.iiB p.1 = true /\ p.1.length <= 40) -> Kn g w -> Qb3 g w.cells < n -> Few (l.foldl (Qcs g n) w) ->
  ∃ b, (l.foldl (Qcs g n) w).out = w.out ++ b /\ ∀ (tail : B) (st : St) (org acc : List Int) (ns : List B), Rl w st org -> st.s = b ++ tail -> (ns ++ l.map Prod.fst).Nodup ->
   (∃ js st' org' new on, Qdq Qgt l.length ns acc st = .ok ((ns ++ l.map Prod.fst, acc ++ js), st') /\ st'.s = tail /\ Rl (l.foldl (Qcs g n) w) st' org' /\ Ex g st st' org org' new on /\ (∀ i ∈ js, 0 <= i /\ i < (st'.g.length : Int)) /\ js.map (lk org') = l.map Prod.snd /\ st'.g.length + wgt iT g (l.foldl (Qcs g n) w).cells <= st.g.length + wgt iT g w.cells + l.length) \/
   (Qdq Qgt l.length ns acc st = .error 4 /\ 500 < st.g.length + l.length + wgt iT g w.cells)
 | [], w, _, _, _, _ => ⟨[], by simp, fun tail st org acc ns hR hs _ => .inl ⟨[], st, org, [], [], by unfold Qdq; simp, hs, hR, Ex.refl g st org st.s st.ss, (fun _ h => by cases h), rfl, Zcz _⟩⟩
 | p :: l, w, hl, hkn, hn, hF => by
  obtain ⟨t, x⟩ := p
  rw [List.foldl_cons] at hF ⊢
  have hgo := Qbm (Qc7 g n) l (Qcs g n w (t, x))
  obtain ⟨hx, ht1, ht2⟩ := hl (t, x) (by simp)
  have hF1 := hgo.few hF
  have hF0 := (Qc7 g n w (t, x)).few hF1
  obtain ⟨y, b0, e0, hy, h0⟩ := Qm0 ht2 hF0.1
  obtain ⟨b1, e1, h1⟩ := ih (symW w t) x hx (hkn.sym t) (by rw [Qbg]; exact hn) hF1
  obtain ⟨b2, e2, h2⟩ := Qmp hkw ih l (Qcs g n w (t, x)) (fun y hy => hl y (by simp [hy])) (hkw _ x hx (hkn.sym t)) (Nat.lt_of_le_of_lt (Qct (Qc7 g n w (t, x)).sub) hn) hF
  refine ⟨y :: (b0 ++ (b1 ++ b2)), by rw [e2]; show (Qae g n (symW w t) x).out ++ _ = _; rw [e1, e0]; simp, fun tail st org acc ns hR hs hnd => ?_⟩
  rw [Znz]
  unfold Qdq
  have hs2 : st.s = y :: (b0 ++ (b1 ++ (b2 ++ tail))) := by rw [hs]; simp
  have hnx : Qc2 st = .ok (y, { st with s := b0 ++ (b1 ++ (b2 ++ tail)) }) := by unfold Qc2; rw [hs2]
  have hsy : symS y { st with s := b0 ++ (b1 ++ (b2 ++ tail)) } = .ok (t, { st with s := b1 ++ (b2 ++ tail), ss := (symW w t).ss }) := by
   unfold symS
   simp only
   rw [hR.ss, h0]
  rw [hnx]
  simp only [bnd]
  rw [hsy]
  simp only
  have hfresh : t ∉ ns := fun hm => by
   have := (List.nodup_append.1 hnd).2.2 t hm t (by simp)
   exact this rfl
  rw [if_pos ⟨ht1, hfresh⟩]
  rcases h1 (b2 ++ tail) { st with s := b1 ++ (b2 ++ tail), ss := (symW w t).ss } org (hR.sym t _) rfl with ⟨i, st1, org1, n1, o1, a1, a2, a3, a4, a5, a6, _, a8⟩ | ⟨a1, a2⟩
  ·rw [a1]
   simp only
   rw [Qbg] at a8
   simp only at a8
   rcases h2 tail st1 org1 (acc ++ [i]) (ns ++ [t]) a3 a2 (by simpa using hnd) with ⟨js, st2, org2, n2, o2, c1, c2, c3, c4, c5, c6, c7⟩ | ⟨c1, c2⟩
   ·rw [c1]
    have hx := a4.pre.trans c4 hR.len
    have hcw : (Qcs g n w (t, x)).cells = (Qae g n (symW w t) x).cells := rfl
    rw [hcw] at c7
    refine .inl ⟨i :: js, st2, org2, n1 ++ n2, o1 ++ o2, by simp, c2, c3, hx, fun j hj => ?_, ?_, by omega⟩
    ·rcases List.mem_cons.1 hj with rfl | hj
     ·have := c4.g_
      have : st2.g.length = st1.g.length + n2.length := by rw [this, Zhz]
      omega
     ·exact c5 j hj
    ·rw [List.map_cons, List.map_cons, c6, c4.o_, Qo8 (by rw [a3.len]; exact a5), a6]
   ·rw [c1]
    have hcw : (Qcs g n w (t, x)).cells = (Qae g n (symW w t) x).cells := rfl
    rw [hcw] at c2
    exact .inr ⟨rfl, by omega⟩
  ·rw [a1]
   rw [Qbg] at a2
   simp only at a2
   exact .inr ⟨rfl, by omega⟩
end Go.Marshal
namespace Go.Marshal
open Go.Core
theorem Qf6 {c : Cell} {k n : Int} {t : B} {ns : List B} {l : List Int} (h1 : c.kind = k) (h2 : c.num = n) (h3 : c.text = t) (h4 : c.names = ns) (h5 : c.items = l) : c = ⟨k, n, t, ns, l⟩ := by
 cases c
 simp only at h1 h2 h3 h4 h5
 subst h1 h2 h3 h4 h5
 rfl
theorem Qln {g : List Cell} (h500 : g.length <= 500) {w : Wr} (hN : w.cells.Nodup) (hI : ∀ x ∈ w.cells, InI g x) : w.cells.length <= 500 :=
 Zwz (Qzu (n := g.length) hN hI) h500
theorem Qtn {α β : Type} : ∀ {l : List α} {m : List β}, l.length = m.length -> (l.zip m).map Prod.fst = l
 | [], _, _ => rfl
 | x :: l, [], h => by cases h
 | x :: l, y :: m, h => by rw [List.zip_cons_cons, List.map_cons, Qtn (by simpa using h)]
theorem Qtm {α β : Type} : ∀ {l : List α} {m : List β}, l.length = m.length -> (l.zip m).map Prod.snd = m
 | [], [], _ => rfl
 | [], y :: m, h => by cases h
 | x :: l, [], h => by cases h
 | x :: l, y :: m, h => by rw [List.zip_cons_cons, List.map_cons, Qtm (by simpa using h)]
theorem Qqt {g : List Cell} {org : List Int} {m : Nat} {a k : Int} {t : B} {ns : List B} {js : List Int} (ha : InI g a) (h1 : (at_ g a).kind = k) (h2 : (at_ g a).num = 0) (h3 : (at_ g a).text = t) (h4 : (at_ g a).names = ns) (h5 : js.map (lk org) = (at_ g a).items) (h6 : ∀ i ∈ js, 0 <= i /\ i < (m : Int)) : Good g org m ⟨k, 0, t, ns, js⟩ a :=
 ⟨Qf6 h1 h2 h3 h4 h5.symm, h6, ha⟩
theorem Rl.put {w : Wr} {st : St} {org : List Int} (h : Rl w st org) (b : B) (s : B) : Rl (putW w b) { st with s := s } org := ⟨h.ss, h.len, h.cells, h.rng⟩
theorem Qja {g : List Cell} {K : Nat} (h500 : g.length <= 500) (hg : InG g) (hc : ∀ i, InI g i -> Qp5 K (at_ g i)) : ∀ (n : Nat) (w : Wr) (a : Int), InI g a -> Kn g w -> Qb3 g w.cells < n -> Few (Qae g n w a) -> Back g w (Qae g n w a) a
 | 0, w, a, _, _, h, _ => by omega
 | n + 1, w, a, ha, hkn, hn, hF => by
  have hm : maxN = 1000000000000000 := rfl
  have c := hc a ha
  have hFw := (Qaw g (n + 1) w a).few hF
  have hcl := Qln h500 hkn.nodup hkn.inI
  unfold Qae at hF ⊢
  simp only at hF ⊢
  split
  ·rename_i k
   exact Qgw (x := 48) (b := []) (c := ⟨0, 0, [], [], []⟩) ha rfl (by decide) (by decide) (by decide) (Qf6 k (c.num0 (by omega)) (c.text0 (by omega) (by omega) (by omega)) (c.leaf (by omega)).2 (c.leaf (by omega)).1) rfl (by unfold Qdk; simp) rfl fun tail st h1 h2 => by
    unfold Qce
    rw [if_pos rfl]
    cases st
    simp only at h1 h2
    subst h1 h2
    rfl
  split
  ·rename_i _ k
   exact Qgw (x := 84) (b := []) (c := ⟨1, 0, [], [], []⟩) ha rfl (by decide) (by decide) (by decide) (Qf6 k (c.num0 (by omega)) (c.text0 (by omega) (by omega) (by omega)) (c.leaf (by omega)).2 (c.leaf (by omega)).1) rfl (by unfold Qdk; simp) rfl fun tail st h1 h2 => by
    unfold Qce
    rw [if_neg (by decide), if_pos rfl]
    cases st
    simp only at h1 h2
    subst h1 h2
    rfl
  split
  ·rename_i _ _ k
   exact Qgw (x := 70) (b := []) (c := ⟨2, 0, [], [], []⟩) ha rfl (by decide) (by decide) (by decide) (Qf6 k (c.num0 (by omega)) (c.text0 (by omega) (by omega) (by omega)) (c.leaf (by omega)).2 (c.leaf (by omega)).1) rfl (by unfold Qdk; simp) rfl fun tail st h1 h2 => by
    unfold Qce
    rw [if_neg (by decide), if_neg (by decide), if_pos rfl]
    cases st
    simp only at h1 h2
    subst h1 h2
    rfl
  split
  ·rename_i _ _ _ k
   have hb := c.num k
   have hs : sgn (at_ g a).num <= 2 * maxN := by unfold sgn; split <;> omega
   exact Qgw (x := 105) (b := num (sgn (at_ g a).num)) (c := ⟨3, (at_ g a).num, [], [], []⟩) ha rfl (by decide) (by decide) (by decide) (Qf6 k rfl (c.text0 (by omega) (by omega) (by omega)) (c.leaf (by omega)).2 (c.leaf (by omega)).1) rfl (by unfold Qdk; simp) rfl fun tail st h1 h2 => by
    unfold Qce
    rw [if_neg (by decide), if_neg (by decide), if_neg (by decide), if_pos rfl, Qo2 hs (Zcz _) h2]
    simp only [bnd]
    rw [Qtt]
    cases st
    simp only at h1 h2
    subst h1
    rfl
  split
  ·rename_i _ _ _ _ k
   obtain ⟨x, b, e, hx, hs⟩ := Qm0 (w := w) (c.sym k) hFw.1
   exact Qgw (x := x) (b := b) (c := ⟨5, 0, (at_ g a).text, [], []⟩) ha e (by rcases hx with rfl | rfl <;> decide) (by rcases hx with rfl | rfl <;> decide) (by rcases hx with rfl | rfl <;> decide) (Qf6 k (c.num0 (by omega)) rfl (c.leaf (by omega)).2 (c.leaf (by omega)).1) rfl (by unfold Qdk; simp) (Qbg _ _) fun tail st h1 h2 => by
    unfold Qce
    rw [if_neg (by rcases hx with rfl | rfl <;> decide), if_neg (by rcases hx with rfl | rfl <;> decide), if_neg (by rcases hx with rfl | rfl <;> decide), if_neg (by rcases hx with rfl | rfl <;> decide), if_neg (by rcases hx with rfl | rfl <;> decide), if_pos hx]
    unfold symS
    rw [h1, h2, hs]
    rfl
  split
  ·rename_i k0 k1 k2 k3 k5 hm2
   have hi := List.idxOf_lt_length_iff.2 hm2
   refine ⟨64 :: num (w.cells.idxOf a), rfl, fun tail st org hR hs => ?_⟩
   have hs2 : st.s = 64 :: (num (w.cells.idxOf a) ++ tail) := hs
   rw [Qs2 hs2, Qo2 (n := w.cells.idxOf a) (by omega) (by omega) rfl]
   simp only [bnd]
   have hlc : st.cells.length = w.cells.length := by rw [<- hR.cells, List.length_map]
   obtain ⟨y, hy⟩ : ∃ y, st.cells[w.cells.idxOf a]? = some y := ⟨_, Zbz (by omega)⟩
   rw [hy]
   have hla : lk org y = a := by
    have h1 : w.cells[w.cells.idxOf a]? = some (lk org y) := by rw [<- hR.cells, List.getElem?_map, hR.cells, hy]; rfl
    rw [Zbz hi, List.getElem_idxOf hi] at h1
    exact (Zzz h1).symm
   exact .inl ⟨y, { st with s := tail }, org, [], [], rfl, rfl, ⟨hR.ss, hR.len, hR.cells, hR.rng⟩, Ex.refl g st org tail st.ss, hR.rng y (Ziz hy), hla, .inr (Ziz hy), by simp only [Qa1]; omega⟩
  rename_i k0 k1 k2 k3 k5 hm2
  rw [if_neg k0, if_neg k1, if_neg k2, if_neg k3, if_neg k5, if_neg hm2] at hF
  have hwg : wgt iT g (w.cells ++ [a]) + (at_ g a).items.length = wgt iT g w.cells := Qp8 (F := iT) ha hm2
  have hlt := Qdx ha hm2 (t := w.cells ++ [a]) (fun x hx => by simp [hx]) (by simp)
  have hl := c.len
  have ht := c.text
  have hk2 : Kn g { w with cells := w.cells ++ [a] } :=
   ⟨List.nodup_append.2 ⟨hkn.nodup, by simp, fun x hx y hy => by rw [Zgz.1 hy]; rintro rfl; exact hm2 hx⟩, fun x hx => (Zmz.1 hx).elim (hkn.inI x) fun hx => by rw [Zgz.1 hx]; exact ha,
    fun x hx => (Zmz.1 hx).elim (hkn.sh x) fun hx => by rw [Zgz.1 hx]; unfold Qdk; have := c.kind; omega⟩
  split
  ·rename_i k4
   refine Qis (x := 34) (b := num (at_ g a).text.length ++ (at_ g a).text) rfl (by decide) (by decide) (by decide) fun tail st org hR hs => ?_
   have hit := (c.leaf (by omega)).1
   refine .inl ⟨⟨4, 0, (at_ g a).text, [], []⟩, { st with s := tail }, org, [], [], ?_, rfl, ⟨hR.ss, hR.len, hR.cells, hR.rng⟩, Ex.refl g st org tail st.ss, ⟨?_, fun y hy => (by cases hy), ha⟩, ?_⟩
   ·unfold Qce
    rw [if_neg (by decide), if_neg (by decide), if_neg (by decide), if_neg (by decide), if_pos rfl]
    unfold Qe4 rdT
    rw [hs, Zuz, Qrl (by omega) (by omega)]
    simp only
    rw [if_neg (by omega), if_neg (by rw [Zhz]; omega)]
    simp only [bnd]
    rw [List.take_left, List.drop_left]
   ·rw [Qou rfl]
    exact Qf6 k4 (c.num0 (by omega)) rfl (c.leaf (by omega)).2 hit
   ·rw [Qa1]
    show st.g.length + wgt iT g (w.cells ++ [a]) <= _
    omega
  rename_i k4
  rw [if_neg k4] at hF
  have ih : ∀ w x, InI g x -> Kn g w -> Qb3 g w.cells < n -> Few (Qae g n w x) -> Back g w (Qae g n w x) x := fun w x hx hk h1 h2 => Qja h500 hg hc n w x hx hk h1 h2
  have hkw : ∀ w x, InI g x -> Kn g w -> Kn g (Qae g n w x) := fun w x hx hk => Kn.write hg hc n w x hx hk
  have hits : ∀ x ∈ (at_ g a).items, InI g x := fun x hx => Qc5 hg ha hx
  split
  ·rename_i k6
   rw [if_pos k6] at hF
   obtain ⟨b, e, h⟩ := Qjb hkw ih (at_ g a).items (putW { w with cells := w.cells ++ [a] } (91 :: num (at_ g a).items.length)) hits (hk2.put _) (by rw [Qa1]; show Qb3 g (w.cells ++ [a]) < n; omega) hF
   rw [Qa1] at h
   simp only at h
   refine Qis (x := 91) (b := num (at_ g a).items.length ++ b) (by rw [e]; unfold putW; simp) (by decide) (by decide) (by decide) fun tail st org hR hs => ?_
   unfold Qce
   rw [if_neg (by decide), if_neg (by decide), if_neg (by decide), if_neg (by decide), if_neg (by decide), if_neg (by decide), if_pos rfl, Qo2 (n := (at_ g a).items.length) (tail := b ++ tail) (by omega) (by omega) (by rw [hs, Zuz])]
   simp only [bnd]
   rcases h tail { st with s := b ++ tail } org [] (hR.put _ _) rfl with ⟨js, st', org', new, on, c1, c2, c3, c4, c5, c6, c7⟩ | ⟨c1, c2⟩
   ·rw [c1]
    have hgood := Qqt (m := st'.g.length) ha k6 (c.num0 (by omega)) (c.text0 (by omega) (by omega) (by omega)) (c.nam0 (by omega)) c6 c5
    exact .inl ⟨⟨6, 0, [], [], js⟩, st', org', new, on, rfl, c2, c3, c4.pre, hgood, by simp only at c7; omega⟩
   ·rw [c1]
    exact .inr ⟨rfl, by simp only at c2; omega⟩
  rename_i k6
  rw [if_neg k6] at hF
  split
  ·rename_i k7
   rw [if_pos k7] at hF
   have hev := c.even k7
   obtain ⟨b, e, h⟩ := Qjb hkw ih (at_ g a).items (putW { w with cells := w.cells ++ [a] } (123 :: num ((at_ g a).items.length / 2))) hits (hk2.put _) (by rw [Qa1]; show Qb3 g (w.cells ++ [a]) < n; omega) hF
   rw [Qa1] at h
   simp only at h
   refine Qis (x := 123) (b := num ((at_ g a).items.length / 2) ++ b) (by rw [e]; unfold putW; simp) (by decide) (by decide) (by decide) fun tail st org hR hs => ?_
   unfold Qce
   rw [if_neg (by decide), if_neg (by decide), if_neg (by decide), if_neg (by decide), if_neg (by decide), if_neg (by decide), if_neg (by decide), if_pos rfl, Qo2 (n := (at_ g a).items.length / 2) (tail := b ++ tail) (by omega) (by omega) (by rw [hs, Zuz])]
   simp only [bnd]
   rw [show 2 * ((at_ g a).items.length / 2) = (at_ g a).items.length by omega]
   rcases h tail { st with s := b ++ tail } org [] (hR.put _ _) rfl with ⟨js, st', org', new, on, c1, c2, c3, c4, c5, c6, c7⟩ | ⟨c1, c2⟩
   ·rw [c1]
    have hgood := Qqt (m := st'.g.length) ha k7 (c.num0 (by omega)) (c.text0 (by omega) (by omega) (by omega)) (c.nam0 (by omega)) c6 c5
    exact .inl ⟨⟨7, 0, [], [], js⟩, st', org', new, on, rfl, c2, c3, c4.pre, hgood, by simp only at c7; omega⟩
   ·rw [c1]
    exact .inr ⟨rfl, by simp only at c2; omega⟩
  rename_i k7
  rw [if_neg k7] at hF
  have k8 : (at_ g a).kind = 8 := by have := c.kind; omega
  have hlen := c.lens k8
  have hcls := c.cls k8
  have hzl : ((at_ g a).names.zip (at_ g a).items).length = (at_ g a).items.length := by rw [List.length_zip, hlen]; omega
  have hF2 : Few (symW (putW { w with cells := w.cells ++ [a] } [111]) (at_ g a).text) := (Qcp _ _).few ((Qbm (Qc7 g n) _ _).few hF)
  obtain ⟨x, b1, e1, hx, h1⟩ := Qm0 (w := putW { w with cells := w.cells ++ [a] } [111]) hcls.2 hFw.1
  obtain ⟨b, e, h⟩ := Qmp hkw ih ((at_ g a).names.zip (at_ g a).items) (putW (symW (putW { w with cells := w.cells ++ [a] } [111]) (at_ g a).text) (num (at_ g a).names.length)) (fun p hp => by
   have hz := List.of_mem_zip (a := p.1) (b := p.2) hp
   exact ⟨hits _ hz.2, c.nam _ hz.1⟩) (((hk2.put _).sym _).put _) (by rw [Qa1, Qbg, Qa1]; show Qb3 g (w.cells ++ [a]) < n; omega) hF
  rw [Qa1, Qbg, Qa1] at h
  simp only at h
  show Back g w (((at_ g a).names.zip (at_ g a).items).foldl (Qcs g n) (putW (symW (putW { w with cells := w.cells ++ [a] } [111]) (at_ g a).text) (num (at_ g a).names.length))) a
  refine Qis (x := 111) (b := x :: (b1 ++ (num (at_ g a).names.length ++ b))) (by rw [e]; show (symW _ _).out ++ _ ++ _ = _; rw [e1]; show (w.out ++ [111]) ++ _ ++ _ ++ _ = _; simp) (by decide) (by decide) (by decide) fun tail st org hR hs => ?_
  unfold Qce
  rw [if_neg (by decide), if_neg (by decide), if_neg (by decide), if_neg (by decide), if_neg (by decide), if_neg (by decide), if_neg (by decide), if_neg (by decide)]
  have hs2 : st.s = x :: (b1 ++ (num (at_ g a).names.length ++ (b ++ tail))) := by rw [hs]; simp
  have hnx : Qc2 st = .ok (x, { st with s := b1 ++ (num (at_ g a).names.length ++ (b ++ tail)) }) := by unfold Qc2; rw [hs2]
  have hst : st.ss = (putW { w with cells := w.cells ++ [a] } [111]).ss := hR.ss
  have hsy : symS x { st with s := b1 ++ (num (at_ g a).names.length ++ (b ++ tail)) } = .ok ((at_ g a).text, { st with s := num (at_ g a).names.length ++ (b ++ tail), ss := (symW (putW { w with cells := w.cells ++ [a] } [111]) (at_ g a).text).ss }) := by
   unfold symS
   simp only
   rw [hst, h1]
  rw [hnx]
  simp only [bnd]
  rw [hsy]
  simp only
  rw [if_pos hcls.1, Qo2 (n := (at_ g a).names.length) (tail := b ++ tail) (by omega) (by omega) rfl]
  simp only
  have hR2 : Rl { w with cells := w.cells ++ [a] } st org := hR
  have hR3 := ((hR2.put [111] st.s).sym (at_ g a).text (b ++ tail)).put (num (at_ g a).names.length) (b ++ tail)
  have hfst := Qtn hlen
  have hsnd := Qtm hlen
  rcases h tail _ org [] [] hR3 rfl (by rw [hfst]; exact c.dup) with ⟨js, st', org', new, on, c1, c2, c3, c4, c5, c6, c7⟩ | ⟨c1, c2⟩
  ·rw [hzl, <- hlen] at c1
   rw [hfst] at c1
   rw [c1]
   rw [hsnd] at c6
   rw [hzl] at c7
   have hgood := Qqt (m := st'.g.length) ha k8 (c.num0 (by omega)) rfl rfl c6 c5
   exact .inl ⟨⟨8, 0, (at_ g a).text, (at_ g a).names, js⟩, st', org', new, on, rfl, c2, c3, ⟨c4.g_, c4.o_, c4.len, c4.good, c4.sub⟩, hgood, by simp only at c7; omega⟩
  ·rw [hzl, <- hlen] at c1
   rw [c1]
   rw [hzl] at c2
   exact .inr ⟨rfl, by simp only at c2; omega⟩
end Go.Marshal
namespace Go.Marshal
open Go.Core
theorem Qnv {α : Type} {f : Wr -> α -> Wr} {Q : Wr -> Nat} {c : Nat} : ∀ (l : List α) (w : Wr), (∀ w, ∀ x ∈ l, Q (f w x) <= Q w + c) -> Q (l.foldl f w) <= Q w + c * l.length
 | [], w, _ => by simp
 | x :: l, w, h => by
  rw [List.foldl_cons]
  have h1 := h w x (by simp)
  have h2 := Qnv (Q := Q) l (f w x) fun w y hy => h w y (by simp [hy])
  rw [Znz, Nat.mul_add]; omega
def iS (c : Cell) : Nat := c.items.length + c.names.length + 1
theorem Qty (w : Wr) (t : B) : (symW w t).ss.length <= w.ss.length + 1 := by
 unfold symW
 split
 ·show w.ss.length <= _; omega
 ·show (w.ss ++ [t]).length <= _; simp
theorem Qms {g : List Cell} {K : Nat} (hg : InG g) (hc : ∀ i, InI g i -> Qp5 K (at_ g i)) : ∀ (n : Nat) (w : Wr) (a : Int), InI g a -> (Qae g n w a).ss.length + wgt iS g (Qae g n w a).cells <= w.ss.length + wgt iS g w.cells + 1
 | 0, w, a, _ => by unfold Qae; omega
 | n + 1, w, a, ha => by
  have c := hc a ha
  unfold Qae
  simp only
  split
  ·show w.ss.length + wgt iS g w.cells <= _; omega
  split
  ·show w.ss.length + wgt iS g w.cells <= _; omega
  split
  ·show w.ss.length + wgt iS g w.cells <= _; omega
  split
  ·show w.ss.length + wgt iS g w.cells <= _; omega
  split
  ·rw [Qbg]
   have := Qty w (at_ g a).text
   omega
  split
  ·show w.ss.length + wgt iS g w.cells <= _; omega
  rename_i k0 k1 k2 k3 k5 hm2
  have hw : wgt iS g (w.cells ++ [a]) + ((at_ g a).items.length + (at_ g a).names.length + 1) = wgt iS g w.cells := Qp8 (F := iS) ha hm2
  have step : ∀ w, ∀ x ∈ (at_ g a).items, (Qae g n w x).ss.length + wgt iS g (Qae g n w x).cells <= w.ss.length + wgt iS g w.cells + 1 := fun w x hx => Qms hg hc n w x (Qc5 hg ha hx)
  split
  ·show w.ss.length + wgt iS g (w.cells ++ [a]) <= _; omega
  split
  ·refine Zwz (Qnv (Q := fun w => w.ss.length + wgt iS g w.cells) (c := 1) _ _ step) ?_
   show w.ss.length + wgt iS g (w.cells ++ [a]) + 1 * _ <= _; omega
  split
  ·refine Zwz (Qnv (Q := fun w => w.ss.length + wgt iS g w.cells) (c := 1) _ _ step) ?_
   show w.ss.length + wgt iS g (w.cells ++ [a]) + 1 * _ <= _; omega
  ·have k8 : (at_ g a).kind = 8 := by have := c.kind; omega
   have hl := c.lens k8
   refine Zwz (Qnv (Q := fun w => w.ss.length + wgt iS g w.cells) (c := 2) _ _ fun w p hp => ?_) ?_
   ·have := step (symW w p.1) p.2 (List.of_mem_zip (a := p.1) (b := p.2) hp).2
    rw [Qbg] at this
    have := Qty w p.1
    show (Qae g n (symW w p.1) p.2).ss.length + _ <= _
    omega
   ·have := Qty (putW { w with cells := w.cells ++ [a] } [111]) (at_ g a).text
    rw [Qa1, Qbg, Qa1, List.length_zip, hl, Nat.min_self]
    show (symW _ _).ss.length + wgt iS g (w.cells ++ [a]) + 2 * _ <= _
    have : (putW { w with cells := w.cells ++ [a] } [111]).ss.length = w.ss.length := rfl
    omega
structure WDone (g : List Cell) (R : Int -> Prop) (cs ds : List Int) : Prop where
 sub : ∀ x ∈ cs, x ∈ ds
 new : ∀ x ∈ ds, x ∈ cs \/ R x /\ ∀ k ∈ outs g x, Qdk (at_ g k) -> k ∈ ds
theorem WDone.refl (g : List Cell) (R : Int -> Prop) (cs : List Int) : WDone g R cs cs := ⟨fun _ h => h, fun _ h => .inl h⟩
theorem WDone.trans {g : List Cell} {R : Int -> Prop} {a b c : List Int} (h : WDone g R a b) (k : WDone g R b c) : WDone g R a c :=
 ⟨fun x hx => k.sub x (h.sub x hx), fun x hx => by
  rcases k.new x hx with h1 | h1
  ·rcases h.new x h1 with h2 | h2
   ·exact .inl h2
   ·exact .inr ⟨h2.1, fun y hy hs => k.sub y (h2.2 y hy hs)⟩
  ·exact .inr h1⟩
theorem Qxe {g : List Cell} {K : Nat} (hv : Qbe g) (hs : ∀ c ∈ g, c.items.length <= 2000 /\ c.text.length + 30 <= K) (i : Int) (hi : InI g i) : Qp5 K (at_ g i) := by
 have hm := Qhd hi
 have hd := hv.2.1 _ hm
 have hp : plainS (at_ g i) = true := by
  have := Qlo g.length (at_ g i)
  rw [hd, ZAz] at this
  exact this.1
 obtain ⟨hs1, hs2⟩ := hs _ hm
 have htx := Qmn hd
 have hmx : maxI = (maxN : Int) := rfl
 generalize at_ g i = c at *
 unfold plainS at hp
 simp only [ZAz] at hp
 obtain ⟨⟨⟨⟨hk, ht⟩, hn⟩, hb⟩, hl⟩ := hp
 simp only [ZBz, Bool.or_eq_true] at hk hn hb
 rw [hmx] at hb
 have hic : ∀ s, Go.Scan.icB s = true -> s.length <= 40 := fun s h => by
  unfold Go.Scan.icB Go.Scan.iwB at h
  simp only [ZAz, ZBz] at h
  exact h.1.1.2
 have hii : ∀ s, Go.Scan.iiB s = true -> s.length <= 40 := fun s h => by
  unfold Go.Scan.iiB at h
  simp only [ZAz, ZBz] at h
  exact h.2
 refine ⟨hk, fun _ => hb, fun h => hn.resolve_left h, ⟨htx, hs2⟩, fun h => ?_, fun h => ?_, fun h4 h5 h8 => ?_, fun h => ?_, fun h => ?_, fun h => ?_, fun h => ?_, ?_, ?_, hs1⟩
 ·rw [if_neg (by omega), if_pos h] at ht
  simpa using ht
 ·rw [if_neg (by omega), if_neg (by omega), if_pos h] at ht
  exact ⟨ht, hic _ ht⟩
 ·rw [if_neg h4, if_neg h5, if_neg h8] at ht
  simpa using ht
 ·rw [if_pos h] at hl
  simpa using hl
 ·by_cases h5 : c.kind <= 5
  ·rw [if_pos h5] at hl
   simp only [ZAz, ZBz] at hl
   exact hl.2
  ·rw [if_neg h5, if_pos h] at hl
   simp only [ZAz, ZBz] at hl
   exact hl.1
 ·rw [if_neg (by omega), if_pos (by omega)] at hl
  simp only [ZAz, Bool.or_eq_true, ZBz] at hl
  exact hl.2.resolve_left (by omega)
 ·rw [if_neg (by omega), if_neg (by omega)] at hl
  simp only [ZAz, ZBz] at hl
  exact hl.1.1
 ·by_cases h8 : c.kind = 8
  ·rw [if_neg (by omega), if_neg (by omega)] at hl
   simp only [ZAz, ZBz] at hl
   exact hl.1.2
  ·by_cases h5 : c.kind <= 5
   ·rw [if_pos h5] at hl
    simp only [ZAz, ZBz] at hl
    rw [hl.2]; exact List.nodup_nil
   ·rw [if_neg h5, if_pos h8] at hl
    simp only [ZAz, ZBz] at hl
    rw [hl.1]; exact List.nodup_nil
 ·by_cases h8 : c.kind = 8
  ·rw [if_neg (by omega), if_neg (by omega)] at hl
   simp only [ZAz] at hl
   exact fun t ht => ⟨Zqz.1 hl.2 t ht, hii t (Zqz.1 hl.2 t ht)⟩
  ·by_cases h5 : c.kind <= 5
   ·rw [if_pos h5] at hl
    simp only [ZAz, ZBz] at hl
    rw [hl.2]; exact fun t ht => by cases ht
   ·rw [if_neg h5, if_pos h8] at hl
    simp only [ZAz, ZBz] at hl
    rw [hl.1]; exact fun t ht => by cases ht
end Go.Marshal
namespace Go.Marshal
def idxR {α : Type} (l : List α) : List (α × Value) := l.zipIdx.map fun p => (p.1, .int .i64 (p.2 : Int))
theorem Qxg {α : Type} [DecidableEq α] [B : BEq α] [LawfulBEq α] : B = instBEqOfDecidableEq := by
 have h : ∀ a b, @BEq.beq α B a b = decide (a = b) := fun a b => by rw [Zsz]; simp
 cases B with
 | mk f => exact congrArg BEq.mk (funext fun a => funext fun b => h a b)
theorem Qs0 {α : Type} [DecidableEq α] (l : List α) (x : α) : (idxR l).lookup x = if x ∈ l then some (.int .i64 (l.idxOf x : Int)) else none := by
 unfold idxR
 have key : ∀ (l : List α) (k : Nat), ((l.zipIdx k).map fun p => (p.1, Value.int .i64 (p.2 : Int))).lookup x = if x ∈ l then some (.int .i64 ((l.idxOf x + k : Nat) : Int)) else none := by
  intro l
  induction l with
  | nil => intro k; rfl
  | cons y l ih =>
   intro k
   rw [List.zipIdx_cons, List.map_cons, List.lookup_cons, List.idxOf_cons]
   by_cases h : x = y
   ·subst h
    simp
   ·have h1 : (x == y) = false := by simpa using h
    have h2 : (y == x) = false := by simpa using fun e => h e.symm
    rw [h1, h2, ih (k + 1)]
    simp only [List.mem_cons, h, false_or, cond_false]
    split
    ·congr 2; omega
    ·rfl
 have := key l 0
 simpa using this
theorem Qgp {α : Type} [D : DecidableEq α] [B : BEq α] [LawfulBEq α] (l : List α) (x : α) : @List.lookup α Value (@instBEqOfDecidableEq α D) x (idxR l) = if x ∈ l then some (.int .i64 (@List.idxOf α B x l : Int)) else none := by
 have e := Qxg (B := B)
 subst e
 rw [Qs0]
theorem Qts {α : Type} [DecidableEq α] (x : α) (v : Value) : ∀ R : List (α × Value), (∀ p ∈ R, p.1 ≠ x) -> Go.AX.upd x v R = R ++ [(x, v)]
 | [], _ => rfl
 | (y, u) :: R, h => by
  unfold Go.AX.upd
  rw [if_neg (fun e => h (y, u) (by simp) e.symm), Qts x v R fun p hp => h p (by simp [hp])]
  rfl
theorem Qic {α : Type} [DecidableEq α] {l : List α} {x : α} (h : x ∉ l) : Go.AX.upd x (.int .i64 (l.length : Int)) (idxR l) = idxR (l ++ [x]) := by
 rw [Qts]
 ·unfold idxR
  rw [List.zipIdx_append, List.map_append]
  simp
 ·intro p hp e
  unfold idxR at hp
  obtain ⟨q, hq, rfl⟩ := Zoz.1 hp
  have := List.mem_zipIdx hq
  exact h (by rw [<- e]; simp only [Nat.zero_add, Nat.sub_zero] at this; rw [this.2.2]; exact List.getElem_mem _)
theorem Qid {α : Type} (l : List α) : (idxR l).length = l.length := by unfold idxR; simp
end Go.Marshal
namespace Go.Proofs.YtgogonnnojcioaaGreatDoor
open Go.AX Go.RowKit Go.Core Go.Marshal
set_option maxRecDepth 20000
theorem strT : KeyT Tryz.prog 9 (fun k : List UInt8 => .string (bs k)) := Qyt (by kernel_rfl)
structure WOk (w : Wr) (x : BSt × MapP) : Prop where
 b : x.1.ok w.out.length
 c : KeysAre (fun k : Int => .int .i64 k) x.2.ce.toList (idxR w.cells)
 s : KeysAre (fun k : List UInt8 => .string (bs k)) x.2.se.toList (idxR w.ss)
variable (gv : Value) (F : World -> Prop) (mb sb : Nat)
def wOut (w : Wr) : Out -> List Ent -> Prop := RetG (ι := BSt × MapP) (fun x => WOk w x) (fun _ => .tuple #[]) fun x => wM gv F true w.out x.1 mb sb x.2
theorem Qxt (w : Wr) (t : List UInt8) (i : BSt) (q : MapP) (ho : WOk w (i, q)) (hl : w.out.length <= 200000000000) (ht : t.length <= 100000000000) :
  SpecH Tryz.prog 59 [.c (.lp 0 0), .c (.v (.string (bs t)))] (wM gv F true w.out i mb sb q) (wOut gv F mb sb (putW w (num t.length ++ t))) := by
 refine ownC hm Tryz.func59 (by kernel_rfl) rfl rfl (fun _ _ => Qhw _ _ _ _ _ _ _ _) (fun _ _ => Zcz _) ?_
 refine wXD ?_
 refine DrawN.planQ [0, 3, 6] [1, 2, 4, 5, 7] [(8, 0)] (by decide +kernel) ?_
 refine wXD ?_
 have hnl := Qbd (n := t.length) (by omega)
 rw [Qal]
 refine Qfd (Qgd t.length (by omega) _) ?_
 refine wXD ?_
 refine Nd.mk (by rw [Qal, Qal]; omega) ?_
 rw [Qb4]
 refine wXD ?_
 refine Qai (Qa3 gv F mb sb (q) true (w.out) (num t.length ++ t) i ho.b (by first | omega | (simp; omega))) [0, 1, 2, 3, 4] rfl ⟨rfl, rfl, rfl, rfl, rfl, trivial⟩ rfl fun i2 hi2 => ?_
 refine wXD ?_
 exact ⟨(i2, q), ⟨hi2, ho.c, ho.s⟩, rfl, Qaa _, Qaa _, Qaa _, Qaa _, Qaa _, trivial⟩
theorem Qmz (w : Wr) (t : List UInt8) (i : BSt) (q : MapP) (ho : WOk w (i, q)) (hl : w.out.length <= 100000000000) (ht : t.length <= 100000000000) (hs : w.ss.length <= 100000000000) :
  SpecH Tryz.prog 58 [.c (.lp 0 0), .c (.v (.string (bs t)))] (wM gv F true w.out i mb sb q) (wOut gv F mb sb (symW w t)) := by
 refine ownC hm Tryz.func58 (by kernel_rfl) rfl rfl (fun _ _ => Qhw _ _ _ _ _ _ _ _) (fun _ _ => Zcz _) ?_
 refine wXD ?_
 refine ReadW.askKey (et := 3) (p := t) (idxR w.ss) rfl (by kernel_rfl) strT rfl rfl rfl rfl (fun w hw => hw.2.2.1) ho.s ?_
 rw [Qgp]
 by_cases h : t ∈ w.ss
 ·have hi := List.idxOf_lt_length_iff.2 h
  rw [if_pos h, show symW w t = putW w (59 :: num (w.ss.idxOf t)) by unfold symW; rw [if_pos h]]
  generalize w.ss.idxOf t = k at hi ⊢
  refine wXD ?_
  refine DrawN.planQ [0, 3] [1, 2, 4, 5] [(6, 0)] (by decide +kernel) ?_
  refine wXD ?_
  have hnl := Qbd (n := k) (by omega)
  refine Qfd (Qgd k (by omega) _) ?_
  refine wXD ?_
  refine Nd.mk (by rw [Qal]; show 1 + _ < _; omega) ?_
  rw [show (⟨#[59]⟩ : ByteArray) = bs [59] from rfl, Qb4]
  refine wXD ?_
  refine Qai (Qa3 gv F mb sb (q) true (w.out) ([59] ++ num k) i ho.b (by first | omega | (simp; omega))) [0, 1, 2, 3, 4] rfl ⟨rfl, rfl, rfl, rfl, rfl, trivial⟩ rfl fun i2 hi2 => ?_
  refine wXD ?_
  exact ⟨(i2, q), ⟨hi2, ho.c, ho.s⟩, rfl, Qaa _, Qaa _, Qaa _, Qaa _, Qaa _, trivial⟩
 ·rw [if_neg h, show symW w t = ⟨w.out ++ (58 :: (num t.length ++ t)), w.cells, w.ss ++ [t]⟩ by unfold symW; rw [if_neg h], show (⟨w.out ++ (58 :: (num t.length ++ t)), w.cells, w.ss ++ [t]⟩ : Wr) = putW ⟨w.out ++ [58], w.cells, w.ss ++ [t]⟩ (num t.length ++ t) by unfold putW; simp]
  refine wXD ?_
  refine DrawN.planQ [0, 4, 5] [1, 2, 3, 6, 7, 8, 9] [(10, 0)] (by decide +kernel) ?_
  refine wXD ?_
  refine ReadW.mapLen (kt := 9) (et := 3) w.ss.length rfl rfl rfl (by kernel_rfl) rfl (fun w hw => hw.2.2.1) (by rw [<- Array.length_toList, ho.s.len, Qid]) ?_
  refine wXD ?_
  refine EffW.setMap (et := 3) (p := t) 3 (idxR w.ss) rfl (by kernel_rfl) strT rfl rfl rfl rfl ho.s fun es2 c2 hk2 => ?_
  rw [Qic h] at hk2
  refine wXD ?_
  refine Qai (Qa3 gv F mb sb (⟨q.ce, q.cc, es2, c2⟩) true (w.out) ([58]) i ho.b (by first | omega | (simp; omega))) [0, 1, 2, 3, 4] rfl ⟨rfl, rfl, rfl, rfl, rfl, trivial⟩ rfl fun i2 hi2 => ?_
  refine wXD ?_
  refine Qai (Qxt gv F mb sb ⟨w.out ++ [58], w.cells, w.ss ++ [t]⟩ t i2 ⟨q.ce, q.cc, es2, c2⟩ ⟨hi2, ho.c, hk2⟩ (by show (w.out ++ [58]).length <= _; simp; omega) ht) [0, 1, 2, 3, 4] rfl ⟨rfl, rfl, rfl, rfl, rfl, trivial⟩ rfl fun x hx => ?_
  refine wXD ?_
  exact ⟨x, hx, rfl, Qaa _, Qaa _, Qaa _, Qaa _, Qaa _, trivial⟩
end Go.Proofs.YtgogonnnojcioaaGreatDoor
namespace Go.Marshal
open Go.Core
structure Img (g h : List Cell) (k : Int) (org : List Int) : Prop where
 len : org.length = h.length
 cell : ∀ i, InI h i -> at_ g (lk org i) = Qst (lk org) (at_ h i)
 inI : ∀ i, InI h i -> InI g (lk org i)
 inG : InG h
 root : InI h 0 /\ lk org 0 = k
 inj : ∀ i j, InI h i -> InI h j -> Qdk (at_ h j) -> lk org i = lk org j -> i = j
theorem Qv1 {h : List Cell} {j : Nat} {c : Cell} (hj : h[j]? = some c) : at_ h (j : Int) = c := by
 unfold at_
 rw [Zdz, Zlz, hj]
 rfl
theorem Qy7 {h : List Cell} {i : Int} (hi : InI h i) : ∃ (j : Nat) (c : Cell), i = (j : Int) /\ h[j]? = some c :=
 ⟨i.toNat, _, by have := hi.1; omega, Zbz (by have := hi.1; have := hi.2; omega)⟩
theorem Qo4 {α β : Type} {f : α -> β} : ∀ {l : List α}, (l.map f).Nodup -> ∀ x ∈ l, ∀ y ∈ l, f x = f y -> x = y
 | [], _, _, h => by cases h
 | a :: l, hn, x, hx => by
  rw [List.map_cons] at hn
  have h1 := Zxz.1 hn
  intro y hy e
  rcases List.mem_cons.1 hx with rfl | hx2
  ·rcases List.mem_cons.1 hy with rfl | hy2
   ·rfl
   ·exact absurd (Zoz.2 ⟨y, hy2, e.symm⟩) h1.1
  ·rcases List.mem_cons.1 hy with rfl | hy2
   ·exact absurd (Zoz.2 ⟨x, hx2, e⟩) h1.1
   ·exact Qo4 h1.2 x hx2 y hy2 e
theorem QAf {g : List Cell} {w : Wr} {st : St} {org on : List Int} {new : List Cell} {k : Int} {ss : List B} {s : B} (hR : Rl w st org) (hE : Ex g ⟨s, [], [], ss⟩ st [] org new on) (hkn : Kn g w) (hr : 0 < st.g.length) (hk : lk org 0 = k) :
  Img g st.g k org /\ (∀ i, i ∈ st.cells ↔ InI st.g i /\ Qdk (at_ st.g i)) /\ st.cells.Nodup := by
 have hg : st.g = new := hE.g_
 have ho : org = on := hE.o_
 have key : ∀ i, InI st.g i -> ∃ x, lk org i = x /\ Good g org st.g.length (at_ st.g i) x /\ (Qdk (at_ st.g i) -> i ∈ st.cells) := fun i hi => by
  obtain ⟨j, c, rfl, hj⟩ := Qy7 hi
  have hjl := (Zfz.1 hj).1
  obtain ⟨x, hx⟩ : ∃ x, org[j]? = some x := ⟨_, Zbz (by rw [hR.len]; exact hjl)⟩
  obtain ⟨h1, h2⟩ := hE.good j c x (by rw [<- hg]; exact hj) (by rw [<- ho]; exact hx)
  rw [Qv1 hj]
  have e : lk org (j : Int) = x := by
   unfold lk
   rw [Zdz, Zlz, hx]
   rfl
  refine ⟨x, e, h1, fun hs => ?_⟩
  have := h2 hs
  rw [List.length_nil, Nat.zero_add] at this
  exact this
 have hnd : st.cells.Nodup := by
  have := hkn.nodup
  rw [<- hR.cells] at this
  exact List.Pairwise.imp_of_mem (fun {a b} _ _ hab e => hab (by rw [e])) (List.pairwise_map.1 this)
 have hcs : ∀ i, i ∈ st.cells ↔ InI st.g i /\ Qdk (at_ st.g i) := fun i => by
  refine ⟨fun hi => ?_, fun hi => ?_⟩
  ·have hin : InI st.g i := hR.rng i hi
   obtain ⟨x, e, h1, _⟩ := key i hin
   have hxw : x ∈ w.cells := by rw [<- hR.cells, <- e]; exact Zoz.2 ⟨i, hi, rfl⟩
   have := hkn.sh x hxw
   rw [h1.cell] at this
   exact ⟨hin, this⟩
  ·obtain ⟨x, e, h1, h2⟩ := key i hi.1
   exact h2 hi.2
 refine ⟨⟨hR.len, fun i hi => ?_, fun i hi => ?_, fun c hc i hi => ?_, ⟨⟨Int.le_refl _, by omega⟩, hk⟩, fun i j hi hj hs he => ?_⟩, hcs, hnd⟩
 ·obtain ⟨x, e, h1, _⟩ := key i hi
  rw [e]; exact h1.cell
 ·obtain ⟨x, e, h1, _⟩ := key i hi
  rw [e]; exact h1.inI
 ·obtain ⟨j, hj⟩ := List.getElem?_of_mem hc
  have hjl := (Zfz.1 hj).1
  obtain ⟨x, e, h1, _⟩ := key (j : Int) ⟨by omega, by omega⟩
  rw [Qv1 hj] at h1
  exact h1.rng i hi
 ·obtain ⟨x, e, h1, _⟩ := key i hi
  obtain ⟨y, e2, h3, h4⟩ := key j hj
  have hjm := h4 hs
  have hxy : x = y := by rw [<- e, <- e2, he]
  have hsi : Qdk (at_ st.g i) := by
   have k1 : (at_ g x).kind = (at_ st.g i).kind := by rw [h1.cell]; rfl
   have k2 : (at_ g y).kind = (at_ st.g j).kind := by rw [h3.cell]; rfl
   unfold Qdk at hs ⊢
   rw [<- k1, hxy, k2]
   exact hs
  have hn := hkn.nodup
  rw [<- hR.cells] at hn
  exact Qo4 hn i ((hcs i).2 ⟨hi, hsi⟩) j hjm he
theorem Qoe {g h : List Cell} {k : Int} {org : List Int} (hv : Qbe g) (m : Img g h k org) (hl : h.length <= 500) : Qbe h := by
 have hin := Qds hv
 have hcell : ∀ i, InI h i -> Qbi h.length (at_ h i) = true := fun i hi => by
  have h1 := hv.2.1 _ (Qhd (m.inI i hi))
  rw [m.cell i hi] at h1
  have hr : Qei h.length (at_ h i) = true := by
   unfold Qei
   rw [Zqz]
   intro y hy
   have := m.inG _ (Qhd hi) y hy
   simp [this.1, this.2]
  unfold Qbi at h1 ⊢
  rw [hr, Bool.true_and]
  rw [Bool.and_assoc, ZAz] at h1
  have h2 := h1.2
  unfold Qst at h2
  simp only [List.map_eq_nil_iff, List.length_map] at h2
  exact h2
 have hkey : ∀ x y, InI h x -> InI h y -> keyB h x y = true -> keyB g (lk org x) (lk org y) = true := fun x y hx hy hk => by
  unfold keyB at hk ⊢
  rw [m.cell x hx, m.cell y hy]
  simp only [Bool.or_eq_true, ZBz] at hk ⊢
  rcases hk with hk | hk
  ·exact .inl (by rw [hk])
  ·exact .inr hk
 refine ⟨hl, fun c hc => ?_, fun c hc h7 ht => ?_⟩
 ·obtain ⟨i, hi, rfl⟩ := Qx4 hc
  exact hcell i hi
 ·obtain ⟨i, hi, rfl⟩ := Qx4 hc
  obtain ⟨a, b, h1, h2, h3, h4, h5⟩ := ht
  refine hv.2.2 _ (Qhd (m.inI i hi)) (by rw [m.cell i hi]; exact h7) ⟨a, b, h1, ?_, h3, h4, ?_⟩
  ·rw [m.cell i hi]
   show a < ((at_ h i).items.map _).length
   rw [List.length_map]; exact h2
  ·rw [m.cell i hi]
   show keyB g (((at_ h i).items.map (lk org)).getD a 0) (((at_ h i).items.map (lk org)).getD b 0) = true
   obtain ⟨x, hx⟩ : ∃ x, (at_ h i).items[a]? = some x := ⟨_, Zbz h2⟩
   obtain ⟨y, hy⟩ : ∃ y, (at_ h i).items[b]? = some y := ⟨_, Zbz (by omega)⟩
   rw [Zlz, Zlz, hx, hy] at h5
   rw [Zlz, Zlz, List.getElem?_map, List.getElem?_map, hx, hy]
   exact hkey x y (Qc5 m.inG hi (Ziz hx)) (Qc5 m.inG hi (Ziz hy)) h5
structure Dmp (g : List Cell) (K : Nat) (k : Int) : Prop where
 valid : Qbe g
 small : ∀ c ∈ g, c.items.length <= 2000 /\ c.names.length <= 2000 /\ c.text.length + 30 <= K
 at_ : InI g k
theorem Dmp.cellW {g : List Cell} {K : Nat} {k : Int} (h : Dmp g K k) : ∀ i, InI g i -> Qp5 K (Core.at_ g i) := fun i hi => Qxe h.valid (fun c hc => ⟨(h.small c hc).1, (h.small c hc).2.2⟩) i hi
def Qhs (g : List Cell) (k : Int) : Wr := Qae g (g.length + 1) ⟨headB, [], []⟩ k
theorem Dmp.kn {g : List Cell} {K : Nat} {k : Int} (h : Dmp g K k) : Kn g (Qhs g k) :=
 Kn.write (Qds h.valid) h.cellW _ _ _ h.at_ ⟨List.nodup_nil, (fun _ h => by cases h), fun _ h => by cases h⟩
theorem Dmp.wle {g : List Cell} {K : Nat} {k : Int} (h : Dmp g K k) : wgt iS g [] <= g.length * 4001 := Qrc (fun i hi => by
 have := h.small _ (Qhd hi)
 unfold iS
 omega) []
theorem Dmp.few {g : List Cell} {K : Nat} {k : Int} (h : Dmp g K k) : Few (Qhs g k) := by
 have h500 := h.valid.1
 have h1 := Qms (Qds h.valid) h.cellW (g.length + 1) ⟨headB, [], []⟩ k h.at_
 have h2 := h.wle
 have h3 := Qln h500 h.kn.nodup h.kn.inI
 have hm : maxN = 1000000000000000 := rfl
 refine ⟨?_, by omega⟩
 unfold Qhs
 have h4 : (⟨headB, [], []⟩ : Wr).ss.length = 0 := rfl
 have h5 : (⟨headB, [], []⟩ : Wr).cells = [] := rfl
 rw [h4, h5] at h1
 omega
open Classical in
theorem Qu6 {g : List Cell} {K : Nat} {k : Int} (h : Dmp g K k) : (20000 < (Qdg g k).length /\ Qca (Qdg g k) = .error 2) \/ (500 < 1 + wgt iT g [] /\ Qca (Qdg g k) = .error 4) \/
  ∃ (q : List Cell) (org cs : List Int), Qca (Qdg g k) = (if Qbe q then .ok (q, (Qhs g k).ss) else .error 1) /\ Img g q k org /\ q.length <= 1 + wgt iT g [] /\ (∀ i, i ∈ cs ↔ InI q i /\ Qdk (Core.at_ q i)) /\ cs.Nodup /\ cs.map (lk org) = (Qhs g k).cells := by
 have hin := Qds h.valid
 obtain ⟨b, e, hb⟩ := Qja h.valid.1 hin h.cellW (g.length + 1) ⟨headB, [], []⟩ k h.at_ ⟨List.nodup_nil, (fun _ h => by cases h), fun _ h => by cases h⟩ (Nat.lt_succ_of_le (Qf2 g [])) h.few
 have hd : Qdg g k = headB ++ b := e
 by_cases hl : 20000 < (Qdg g k).length
 ·refine .inl ⟨hl, ?_⟩
  unfold Qca
  rw [if_pos hl]
 ·have hload : Qca (Qdg g k) = match Qgt ⟨b, [], [], []⟩ with
   | .error e => .error e
   | .ok (_, st) => if st.s ≠ [] then .error 4 else if Qbe st.g then .ok (st.g, st.ss) else .error 1 := by
   unfold Qca
   rw [if_neg hl, hd]
   rfl
  rw [hload]
  rcases hb [] ⟨b, [], [], []⟩ [] ⟨rfl, rfl, rfl, fun _ h => by cases h⟩ (by simp) with ⟨i, st', org', new, on, h1, h2, h3, h4, h5, h6, h7, h8⟩ | ⟨h1, h2⟩
  ·rw [h1]
   simp only
   rw [if_neg (by rw [h2]; simp)]
   have h0 : i = 0 := h7.elim id fun h => by cases h
   subst h0
   obtain ⟨m, hcs, hnd⟩ := QAf h3 h4 h.kn (by have := h5.2; omega) h6
   refine .inr (.inr ⟨st'.g, org', st'.cells, ?_, m, ?_, hcs, hnd, h3.cells⟩)
   ·rw [h3.ss]; rfl
   ·have : (⟨b, [], [], []⟩ : St).g.length = 0 := rfl
    have h9 : (⟨headB, [], []⟩ : Wr).cells = [] := rfl
    rw [this, h9] at h8
    omega
  ·rw [h1]
   exact .inr (.inl ⟨by
    have : (⟨b, [], [], []⟩ : St).g.length = 0 := rfl
    have h9 : (⟨headB, [], []⟩ : Wr).cells = [] := rfl
    rw [this, h9] at h2
    omega, rfl⟩)
end Go.Marshal
namespace Go.Marshal
open Go.Core
theorem Qw1 {g h : List Cell} {k : Int} {org : List Int} (m : Img g h k org) {i : Int} (hi : InI h i) : outs g (lk org i) = (outs h i).map (lk org) := by
 show (at_ g _).items = _
 rw [m.cell i hi]
 rfl
theorem Qqo {g h : List Cell} {k : Int} {org : List Int} (m : Img g h k org) : ∀ (n : Nat) (a : Int), InI h a -> (FinH g n (lk org a) ↔ FinH h n a)
 | 0, _, _ => Iff.rfl
 | n + 1, a, ha => by
  show (∀ k ∈ outs g (lk org a), FinH g n k) ↔ ∀ k ∈ outs h a, FinH h n k
  rw [Qw1 m ha]
  constructor
  ·exact fun hh x hx => (Qqo m n x (Qc5 m.inG ha hx)).1 (hh _ (Zoz.2 ⟨x, hx, rfl⟩))
  ·intro hh x hx
   obtain ⟨y, hy, rfl⟩ := Zoz.1 hx
   exact (Qqo m n y (Qc5 m.inG ha hy)).2 (hh y hy)
theorem Qj3 {g : List Cell} (hg : InG g) {n : Nat} (hn : g.length < n) {i : Int} (hi : InI g i) : (Qgc g n [] [] i).1 = false ↔ Fin_ g i := by
 refine ⟨Qxd, fun hf => ?_⟩
 obtain ⟨⟨b, d⟩, hx⟩ : ∃ x, Qgc g n [] [] i = x := ⟨_, rfl⟩
 rw [hx]
 cases b with
 | false => rfl
 | true =>
  obtain ⟨S, h1, h2⟩ := Qlm hg n [] [] i d hi (Nat.lt_of_le_of_lt (Qf2 g []) hn) trivial hx
  exfalso
  obtain ⟨x, hxS⟩ := List.exists_mem_of_ne_nil _ h1.some
  have hto := (h2 x hxS).resolve_left (by simp)
  obtain ⟨q, hq⟩ := hf
  have hfx := QAm hto q hq
  have : ∀ (q : Nat) (x : Int), x ∈ S -> ¬ FinH g q x := by
   intro q
   induction q with
   | zero => exact fun _ _ h => h
   | succ q ih =>
    intro x hx hh
    obtain ⟨y, hy, hyo⟩ := h1.on x hx
    exact ih y hy (hh y hyo)
  exact this q x hxS hfx
theorem Qw2 {g h : List Cell} (hg : InG g) {k : Int} {org : List Int} (m : Img g h k org) {n n2 : Nat} (hn : g.length < n) (hn2 : h.length < n2) : (Qgc g n [] [] k).1 = (Qgc h n2 [] [] 0).1 := by
 have h0 := m.root.1
 have hk := m.inI 0 h0
 rw [m.root.2] at hk
 have e : Fin_ g k ↔ Fin_ h 0 := by
  unfold Fin_
  rw [<- m.root.2]
  exact exists_congr fun q => Qqo m q 0 h0
 cases h1 : (Qgc g n [] [] k).1 with
 | false => exact ((Qj3 m.inG hn2 h0).2 (e.1 ((Qj3 hg hn hk).1 h1))).symm
 | true =>
  cases h2 : (Qgc h n2 [] [] 0).1 with
  | true => rfl
  | false =>
   have := (Qj3 hg hn hk).2 (e.2 ((Qj3 m.inG hn2 h0).1 h2))
   rw [h1] at this
   cases this
structure Tw (g h : List Cell) (org : List Int) (v w : Wr) : Prop where
 out : v.out = w.out
 ss : v.ss = w.ss
 cells : v.cells = w.cells.map (lk org)
 rng : ∀ x ∈ w.cells, InI h x /\ Qdk (at_ h x)
theorem Tw.put {g h : List Cell} {org : List Int} {v w : Wr} (t : Tw g h org v w) (b : B) : Tw g h org (putW v b) (putW w b) :=
 ⟨by show v.out ++ b = w.out ++ b; rw [t.out], t.ss, t.cells, t.rng⟩
def Qdj (f : Wr -> Int -> Wr) (c : Cell) (w : Wr) (a : Int) : Wr :=
  if c.kind = 0 then putW w [48]
  else if c.kind = 1 then putW w [84]
  else if c.kind = 2 then putW w [70]
  else if c.kind = 3 then putW w (105 :: num (sgn c.num))
  else if c.kind = 5 then symW w c.text
  else if a ∈ w.cells then putW w (64 :: num (w.cells.idxOf a))
  else if c.kind = 4 then putW { w with cells := w.cells ++ [a] } (34 :: (num c.text.length ++ c.text))
   else if c.kind = 6 then c.items.foldl f (putW { w with cells := w.cells ++ [a] } (91 :: num c.items.length))
   else if c.kind = 7 then c.items.foldl f (putW { w with cells := w.cells ++ [a] } (123 :: num (c.items.length / 2)))
   else (c.names.zip c.items).foldl (fun w p => f (symW w p.1) p.2) (putW (symW (putW { w with cells := w.cells ++ [a] } [111]) c.text) (num c.names.length))
theorem Qba (g : List Cell) (n : Nat) (w : Wr) (a : Int) : Qae g (n + 1) w a = Qdj (Qae g n) (at_ g a) w a := rfl
end Go.Marshal
namespace Go.Marshal
open Go.Core
structure Lim (w : Wr) : Prop where
 o : w.out.length <= 90000000000
 s : w.ss.length <= 90000000000
 c : w.cells.length <= 90000000000
theorem Gone.lim {w w' : Wr} (h : Gone w w') (k : Lim w') : Lim w := by
 obtain ⟨b, cs, ts, rfl⟩ := h
 have h1 := k.o
 have h2 := k.s
 have h3 := k.c
 simp only [Zhz] at h1 h2 h3
 exact ⟨by omega, by omega, by omega⟩
theorem Qg3 {α : Type} {f : Wr -> α -> Wr} (hf : ∀ w x, Gone w (f w x)) {l : List α} {w : Wr} (h : Lim (l.foldl f w)) (k : Nat) : Lim ((l.take k).foldl f w) := by
 have e : l.foldl f w = (l.drop k).foldl f ((l.take k).foldl f w) := by rw [<- List.foldl_append, List.take_append_drop]
 rw [e] at h
 exact (Qbm hf _ _).lim h
theorem Qdi {f : Wr -> Int -> Wr} {c : Cell} {w : Wr} {a : Int} (hk : c.kind = 4 \/ 6 <= c.kind) (hm : a ∈ w.cells) : Qdj f c w a = putW w (64 :: num (w.cells.idxOf a)) := by
 unfold Qdj
 rw [if_neg (by omega), if_neg (by omega), if_neg (by omega), if_neg (by omega), if_neg (by omega), if_pos hm]
theorem Qdh {f : Wr -> Int -> Wr} {c : Cell} {w : Wr} {a : Int} (hk : c.kind = 4 \/ 6 <= c.kind) (hm : a ∉ w.cells) : Qdj f c w a = if c.kind = 4 then putW { w with cells := w.cells ++ [a] } (34 :: (num c.text.length ++ c.text))
   else if c.kind = 6 then c.items.foldl f (putW { w with cells := w.cells ++ [a] } (91 :: num c.items.length))
   else if c.kind = 7 then c.items.foldl f (putW { w with cells := w.cells ++ [a] } (123 :: num (c.items.length / 2)))
   else (c.names.zip c.items).foldl (fun w p => f (symW w p.1) p.2) (putW (symW (putW { w with cells := w.cells ++ [a] } [111]) c.text) (num c.names.length)) := by
 unfold Qdj
 rw [if_neg (by omega), if_neg (by omega), if_neg (by omega), if_neg (by omega), if_neg (by omega), if_neg hm]
theorem Qkt (w : Wr) (b : B) : (putW w b).out = w.out ++ b := rfl
theorem Qfm {α β : Type} {f : β -> α -> β} {l : List α} {k : Nat} {x : α} {b : β} (h : l[k]? = some x) : (l.take (k + 1)).foldl f b = f ((l.take k).foldl f b) x := by
 rw [List.take_add_one, h, List.foldl_append]
 rfl
end Go.Marshal
namespace Go.Proofs.YtgogonnnojcioaaGreatDoor
open Go.AX Go.RowKit Go.Core Go.Marshal
set_option maxRecDepth 20000
set_option maxHeartbeats 4000000 in
theorem QA1 {a : Option Addr} (ca : Nat) {l : List Qaj} (ha : a = none -> l = []) (hok : ∀ p ∈ l, Qa5 p) (hg : InG (l.map (·.c))) {K : Nat} (hc : ∀ i, InI (l.map (·.c)) i -> Qp5 K (at_ (l.map (·.c)) i)) (hl2 : l.length <= 2000) (mb sb : Nat) :
  ∀ (n : Nat) (w : Wr) (i : BSt) (q : MapP) (u : Nat), u < l.length -> Qb3 (l.map (·.c)) w.cells < n -> WOk w (i, q) -> Lim (Qae (l.map (·.c)) n w (u : Int)) ->
  SpecH Tryz.prog 35 [.c (.lp 0 0), .c (.v (.int .i64 (u : Int)))] (wM (.slice a l.length ca) (GrF a l) true w.out i mb sb q) (wOut (.slice a l.length ca) (GrF a l) mb sb (Qae (l.map (·.c)) n w (u : Int))) := by
 intro n
 induction n with
 | zero => intro w i q u _ h; omega
 | succ n ih =>
  intro w i q u hu hn ho hlim
  obtain ⟨p, hp⟩ : ∃ p, l[u]? = some p := ⟨_, Zbz hu⟩
  have hpm := Ziz hp
  have hpo := hok p hpm
  have hin : InI (l.map (·.c)) (u : Int) := ⟨by omega, by simp; omega⟩
  have hcw := hc (u : Int) hin
  have hat : at_ (l.map (·.c)) (u : Int) = p.c := Qgx hp
  rw [hat] at hcw
  have hlw := (Qaw (l.map (·.c)) (n + 1) w (u : Int)).lim hlim
  have hlo := hlw.o
  have hls := hlw.s
  have hlc := hlw.c
  have hsa : a.isSome = true := by
   cases a with
   | none => rw [ha rfl] at hu; exact absurd hu (Nat.not_lt_zero _)
   | some b => rfl
  have houts : ∀ x ∈ p.c.items, InI (l.map (·.c)) x := fun x hx => Qc5 hg hin (by unfold outs; rw [hat]; exact hx)
  have hkk := hcw.kind
  have htx := hcw.text
  obtain ⟨⟨kind, num0, text, names, items⟩, na, nc, ia, ic⟩ := p
  simp only at hkk htx hat hcw hpo houts
  obtain ⟨gv, hgv⟩ : ∃ gv, gv = Value.slice a l.length ca := ⟨_, rfl⟩
  obtain ⟨F, hF⟩ : ∃ F, F = GrF a l := ⟨_, rfl⟩
  rw [Qba, hat] at hlim
  obtain rfl | rfl | rfl | rfl | rfl | rfl | rfl | rfl | rfl : kind = 0 \/ kind = 1 \/ kind = 2 \/ kind = 3 \/ kind = 4 \/ kind = 5 \/ kind = 6 \/ kind = 7 \/ kind = 8 := by omega
  ·-- 0: the kind, 48: the byte
   rw [Qba, hat]
   refine ownC hm Tryz.func35 (by kernel_rfl) rfl rfl (fun _ _ => Qhw _ _ _ _ _ _ _ _) (fun _ _ => Zcz _) ?_
   refine wXD ?_
   refine Nd.mk ⟨hsa, by omega, by omega⟩ ?_
   refine wXD ?_
   refine LdN.agg [.int .i64 0, .int .i64 num0, .string (bs text), .slice na names.length nc, .slice ia items.length ic] rfl (fun w hw => hw.2.2.2.1.1) rfl (fun k hk => by rw [Zdz]; exact Qau l u k hk hp) ?_
   refine wXD ?_
   refine DrawN.planQ [0, 3] [1, 2, 4, 5] [(6, 0)] (by decide +kernel) ?_
   refine wXD ?_
   refine Qai (Qhu (.slice a l.length ca) (GrF a l) mb sb q true w.out 48 i (by omega)) [0, 1, 2, 3, 4] rfl ⟨rfl, rfl, rfl, rfl, rfl, trivial⟩ rfl fun i2 hi2 => ?_
   refine wXD ?_
   exact ⟨(i2, q), ⟨hi2, ho.c, ho.s⟩, rfl, Qaa _, Qaa _, Qaa _, Qaa _, Qaa _, trivial⟩
  ·-- 1: the kind, 84: the byte
   rw [Qba, hat]
   refine ownC hm Tryz.func35 (by kernel_rfl) rfl rfl (fun _ _ => Qhw _ _ _ _ _ _ _ _) (fun _ _ => Zcz _) ?_
   refine wXD ?_
   refine Nd.mk ⟨hsa, by omega, by omega⟩ ?_
   refine wXD ?_
   refine LdN.agg [.int .i64 1, .int .i64 num0, .string (bs text), .slice na names.length nc, .slice ia items.length ic] rfl (fun w hw => hw.2.2.2.1.1) rfl (fun k hk => by rw [Zdz]; exact Qau l u k hk hp) ?_
   refine wXD ?_
   refine DrawN.planQ [0, 3] [1, 2, 4, 5] [(6, 0)] (by decide +kernel) ?_
   refine wXD ?_
   refine Qai (Qhu (.slice a l.length ca) (GrF a l) mb sb q true w.out 84 i (by omega)) [0, 1, 2, 3, 4] rfl ⟨rfl, rfl, rfl, rfl, rfl, trivial⟩ rfl fun i2 hi2 => ?_
   refine wXD ?_
   exact ⟨(i2, q), ⟨hi2, ho.c, ho.s⟩, rfl, Qaa _, Qaa _, Qaa _, Qaa _, Qaa _, trivial⟩
  ·-- 2: the kind, 70: the byte
   rw [Qba, hat]
   refine ownC hm Tryz.func35 (by kernel_rfl) rfl rfl (fun _ _ => Qhw _ _ _ _ _ _ _ _) (fun _ _ => Zcz _) ?_
   refine wXD ?_
   refine Nd.mk ⟨hsa, by omega, by omega⟩ ?_
   refine wXD ?_
   refine LdN.agg [.int .i64 2, .int .i64 num0, .string (bs text), .slice na names.length nc, .slice ia items.length ic] rfl (fun w hw => hw.2.2.2.1.1) rfl (fun k hk => by rw [Zdz]; exact Qau l u k hk hp) ?_
   refine wXD ?_
   refine DrawN.planQ [0, 3] [1, 2, 4, 5] [(6, 0)] (by decide +kernel) ?_
   refine wXD ?_
   refine Qai (Qhu (.slice a l.length ca) (GrF a l) mb sb q true w.out 70 i (by omega)) [0, 1, 2, 3, 4] rfl ⟨rfl, rfl, rfl, rfl, rfl, trivial⟩ rfl fun i2 hi2 => ?_
   refine wXD ?_
   exact ⟨(i2, q), ⟨hi2, ho.c, ho.s⟩, rfl, Qaa _, Qaa _, Qaa _, Qaa _, Qaa _, trivial⟩
  ·have hnb := hcw.num rfl
   have hmx : maxN = 1000000000000000 := rfl
   simp only at hnb
   rw [Qba, hat]
   refine ownC hm Tryz.func35 (by kernel_rfl) rfl rfl (fun _ _ => Qhw _ _ _ _ _ _ _ _) (fun _ _ => Zcz _) ?_
   refine wXD ?_
   refine Nd.mk ⟨hsa, by omega, by omega⟩ ?_
   refine wXD ?_
   refine LdN.agg [.int .i64 3, .int .i64 num0, .string (bs text), .slice na names.length nc, .slice ia items.length ic] rfl (fun w hw => hw.2.2.2.1.1) rfl (fun k hk => by rw [Zdz]; exact Qau l u k hk hp) ?_
   refine wXD ?_
   refine Qab (fun h => ?_) (fun h => ?_)
   ·have hs : ((Marshal.sgn num0 : Nat) : Int) = -2 * num0 - 1 := by unfold Marshal.sgn; rw [if_pos h]; omega
    have hsl : Marshal.sgn num0 <= 2000000000000000 := by unfold Marshal.sgn; split <;> omega
    refine wXD ?_
    try rw [show IntKind.i64.wrap (IntKind.i64.wrap (-2 * num0) - 1) = ((Marshal.sgn num0 : Nat) : Int) by first | exact hs.symm | (rw [hs, Qaf (x := -2 * num0) (by omega), Qaf (by omega)])]
    generalize hk : Marshal.sgn num0 = k at hs hsl ⊢
    refine DrawN.planQ [0, 3] [1, 2, 4, 5] [(6, 0)] (by decide +kernel) ?_
    refine wXD ?_
    have hnl := Qbd (n := k) (by omega)
    refine Qfd (Qgd (k) (by omega) _) ?_
    refine wXD ?_
    refine Nd.mk (by rw [Qal]; show 1 + _ < _; omega) ?_
    rw [show (⟨#[105]⟩ : ByteArray) = bs [105] from rfl, Qb4]
    refine wXD ?_
    refine Qai (Qa3 (.slice a l.length ca) (GrF a l) mb sb (q) true (w.out) ([105] ++ num k) i ho.b (by first | omega | (simp; omega))) [0, 1, 2, 3, 4] rfl ⟨rfl, rfl, rfl, rfl, rfl, trivial⟩ rfl fun i2 hi2 => ?_
    refine wXD ?_
    have he : Qdj (Qae (l.map (·.c)) n) ⟨3, num0, text, names, items⟩ w (u : Int) = putW w (105 :: num k) := by rw [<- hk]; rfl
    rw [he]
    exact ⟨(i2, q), ⟨hi2, ho.c, ho.s⟩, rfl, Qaa _, Qaa _, Qaa _, Qaa _, Qaa _, trivial⟩
   ·have hs : ((Marshal.sgn num0 : Nat) : Int) = 2 * num0 := by unfold Marshal.sgn; rw [if_neg h]; omega
    have hsl : Marshal.sgn num0 <= 2000000000000000 := by unfold Marshal.sgn; split <;> omega
    refine wXD ?_
    try rw [show 2 * num0 = ((Marshal.sgn num0 : Nat) : Int) by first | exact hs.symm | (rw [hs, Qaf (x := -2 * num0) (by omega), Qaf (by omega)])]
    generalize hk : Marshal.sgn num0 = k at hs hsl ⊢
    refine DrawN.planQ [0, 3] [1, 2, 4, 5] [(6, 0)] (by decide +kernel) ?_
    refine wXD ?_
    have hnl := Qbd (n := k) (by omega)
    refine Qfd (Qgd (k) (by omega) _) ?_
    refine wXD ?_
    refine Nd.mk (by rw [Qal]; show 1 + _ < _; omega) ?_
    rw [show (⟨#[105]⟩ : ByteArray) = bs [105] from rfl, Qb4]
    refine wXD ?_
    refine Qai (Qa3 (.slice a l.length ca) (GrF a l) mb sb (q) true (w.out) ([105] ++ num k) i ho.b (by first | omega | (simp; omega))) [0, 1, 2, 3, 4] rfl ⟨rfl, rfl, rfl, rfl, rfl, trivial⟩ rfl fun i2 hi2 => ?_
    refine wXD ?_
    have he : Qdj (Qae (l.map (·.c)) n) ⟨3, num0, text, names, items⟩ w (u : Int) = putW w (105 :: num k) := by rw [<- hk]; rfl
    rw [he]
    exact ⟨(i2, q), ⟨hi2, ho.c, ho.s⟩, rfl, Qaa _, Qaa _, Qaa _, Qaa _, Qaa _, trivial⟩
  ·-- 4: the kind
   rw [Qba, hat]
   refine ownC hm Tryz.func35 (by kernel_rfl) rfl rfl (fun _ _ => Qhw _ _ _ _ _ _ _ _) (fun _ _ => Zcz _) ?_
   refine wXD ?_
   refine Nd.mk ⟨hsa, by omega, by omega⟩ ?_
   refine wXD ?_
   refine LdN.agg [.int .i64 4, .int .i64 num0, .string (bs text), .slice na names.length nc, .slice ia items.length ic] rfl (fun w hw => hw.2.2.2.1.1) rfl (fun k hk => by rw [Zdz]; exact Qau l u k hk hp) ?_
   refine wXD ?_
   refine ReadW.askKey (et := 3) (p := (u : Int)) (idxR w.cells) rfl (by kernel_rfl) intT rfl rfl rfl rfl (fun w hw => hw.2.1) ho.c ?_
   rw [Qgp]
   by_cases hm : (u : Int) ∈ w.cells
   ·have hi := List.idxOf_lt_length_iff.2 hm
    rw [if_pos hm, show Qdj (Qae (l.map (·.c)) n) ⟨4, num0, text, names, items⟩ w (u : Int) = putW w (64 :: num (w.cells.idxOf (u : Int))) from Qdi (by simp) hm]
    generalize w.cells.idxOf (u : Int) = k at hi ⊢
    refine wXD ?_
    refine DrawN.planQ [0, 3] [1, 2, 4, 5] [(6, 0)] (by decide +kernel) ?_
    refine wXD ?_
    have hnl := Qbd (n := k) (by omega)
    refine Qfd (Qgd (k) (by omega) _) ?_
    refine wXD ?_
    refine Nd.mk (by rw [Qal]; show 1 + _ < _; omega) ?_
    rw [show (⟨#[64]⟩ : ByteArray) = bs [64] from rfl, Qb4]
    refine wXD ?_
    refine Qai (Qa3 (.slice a l.length ca) (GrF a l) mb sb (q) true (w.out) ([64] ++ num k) i ho.b (by first | omega | (simp; omega))) [0, 1, 2, 3, 4] rfl ⟨rfl, rfl, rfl, rfl, rfl, trivial⟩ rfl fun i2 hi2 => ?_
    refine wXD ?_
    exact ⟨(i2, q), ⟨hi2, ho.c, ho.s⟩, rfl, Qaa _, Qaa _, Qaa _, Qaa _, Qaa _, trivial⟩
   rw [if_neg hm]
   refine wXD ?_
   refine DrawN.planQ [0, 4, 5] [1, 2, 3, 6, 7, 8, 9] [(10, 0)] (by decide +kernel) ?_
   refine wXD ?_
   refine ReadW.mapLen (kt := 3) (et := 3) w.cells.length rfl rfl rfl (by kernel_rfl) rfl (fun w hw => hw.2.1) (by rw [<- Array.length_toList, ho.c.len, Qid]) ?_
   refine wXD ?_
   refine EffW.setMap (et := 3) (p := (u : Int)) 2 (idxR w.cells) rfl (by kernel_rfl) intT rfl rfl rfl rfl ho.c fun es2 c2 hk2 => ?_
   rw [Qic hm] at hk2
   refine wXD ?_
   obtain ⟨w1, hw1⟩ : ∃ w1 : Wr, w1 = { w with cells := w.cells ++ [(u : Int)] } := ⟨_, rfl⟩
   have ho1 : WOk w1 (i, ⟨es2, c2, q.se, q.sc⟩) := by rw [hw1]; exact ⟨ho.b, hk2, ho.s⟩
   have ho1o : w1.out = w.out := by rw [hw1]
   have hlt := Qdx hin hm (t := w.cells ++ [(u : Int)]) (fun x hx => by simp [hx]) (by simp)
   have he : Qdj (Qae (l.map (·.c)) n) ⟨4, num0, text, names, items⟩ w (u : Int) = putW (putW w1 [34]) (num text.length ++ text) := by
    rw [Qdh (by simp) hm, if_pos rfl, hw1]
    unfold putW
    simp
   rw [he, <- ho1o]
   rw [<- ho1o] at hlo
   refine Qai (Qa3 (.slice a l.length ca) (GrF a l) mb sb (⟨es2, c2, q.se, q.sc⟩) true (w1.out) ([34]) i ho1.b (by first | omega | (simp; omega))) [0, 1, 2, 3, 4] rfl ⟨rfl, rfl, rfl, rfl, rfl, trivial⟩ rfl fun i2 hi2 => ?_
   refine wXD ?_
   refine Qai (Qxt (.slice a l.length ca) (GrF a l) mb sb (putW w1 [34]) text i2 ⟨es2, c2, q.se, q.sc⟩ ⟨hi2, ho1.c, ho1.s⟩ (by rw [Qeo]; simp; omega) (by omega)) [0, 1, 2, 3, 4] rfl ⟨rfl, rfl, rfl, rfl, rfl, trivial⟩ rfl fun x hx => ?_
   refine wXD ?_
   exact ⟨x, hx, rfl, Qaa _, Qaa _, Qaa _, Qaa _, Qaa _, trivial⟩
  ·have hsy := hcw.sym rfl
   simp only at hsy
   rw [Qba, hat]
   refine ownC hm Tryz.func35 (by kernel_rfl) rfl rfl (fun _ _ => Qhw _ _ _ _ _ _ _ _) (fun _ _ => Zcz _) ?_
   refine wXD ?_
   refine Nd.mk ⟨hsa, by omega, by omega⟩ ?_
   refine wXD ?_
   refine LdN.agg [.int .i64 5, .int .i64 num0, .string (bs text), .slice na names.length nc, .slice ia items.length ic] rfl (fun w hw => hw.2.2.2.1.1) rfl (fun k hk => by rw [Zdz]; exact Qau l u k hk hp) ?_
   refine wXD ?_
   have he : Qdj (Qae (l.map (·.c)) n) ⟨5, num0, text, names, items⟩ w (u : Int) = symW w text := rfl
   rw [he]
   refine Qai (Qmz (.slice a l.length ca) (GrF a l) mb sb w text i q ho (by omega) (by omega) (by omega)) [0, 1, 2, 3, 4] rfl ⟨rfl, rfl, rfl, rfl, rfl, trivial⟩ rfl fun x hx => ?_
   refine wXD ?_
   exact ⟨x, hx, rfl, Qaa _, Qaa _, Qaa _, Qaa _, Qaa _, trivial⟩
  ·-- 6: the kind
   rw [Qba, hat]
   refine ownC hm Tryz.func35 (by kernel_rfl) rfl rfl (fun _ _ => Qhw _ _ _ _ _ _ _ _) (fun _ _ => Zcz _) ?_
   refine wXD ?_
   refine Nd.mk ⟨hsa, by omega, by omega⟩ ?_
   refine wXD ?_
   refine LdN.agg [.int .i64 6, .int .i64 num0, .string (bs text), .slice na names.length nc, .slice ia items.length ic] rfl (fun w hw => hw.2.2.2.1.1) rfl (fun k hk => by rw [Zdz]; exact Qau l u k hk hp) ?_
   refine wXD ?_
   refine ReadW.askKey (et := 3) (p := (u : Int)) (idxR w.cells) rfl (by kernel_rfl) intT rfl rfl rfl rfl (fun w hw => hw.2.1) ho.c ?_
   rw [Qgp]
   by_cases hm : (u : Int) ∈ w.cells
   ·have hi := List.idxOf_lt_length_iff.2 hm
    rw [if_pos hm, show Qdj (Qae (l.map (·.c)) n) ⟨6, num0, text, names, items⟩ w (u : Int) = putW w (64 :: num (w.cells.idxOf (u : Int))) from Qdi (by simp) hm]
    generalize w.cells.idxOf (u : Int) = k at hi ⊢
    refine wXD ?_
    refine DrawN.planQ [0, 3] [1, 2, 4, 5] [(6, 0)] (by decide +kernel) ?_
    refine wXD ?_
    have hnl := Qbd (n := k) (by omega)
    refine Qfd (Qgd (k) (by omega) _) ?_
    refine wXD ?_
    refine Nd.mk (by rw [Qal]; show 1 + _ < _; omega) ?_
    rw [show (⟨#[64]⟩ : ByteArray) = bs [64] from rfl, Qb4]
    refine wXD ?_
    refine Qai (Qa3 (.slice a l.length ca) (GrF a l) mb sb (q) true (w.out) ([64] ++ num k) i ho.b (by first | omega | (simp; omega))) [0, 1, 2, 3, 4] rfl ⟨rfl, rfl, rfl, rfl, rfl, trivial⟩ rfl fun i2 hi2 => ?_
    refine wXD ?_
    exact ⟨(i2, q), ⟨hi2, ho.c, ho.s⟩, rfl, Qaa _, Qaa _, Qaa _, Qaa _, Qaa _, trivial⟩
   rw [if_neg hm]
   refine wXD ?_
   refine DrawN.planQ [0, 4, 5] [1, 2, 3, 6, 7, 8, 9] [(10, 0)] (by decide +kernel) ?_
   refine wXD ?_
   refine ReadW.mapLen (kt := 3) (et := 3) w.cells.length rfl rfl rfl (by kernel_rfl) rfl (fun w hw => hw.2.1) (by rw [<- Array.length_toList, ho.c.len, Qid]) ?_
   refine wXD ?_
   refine EffW.setMap (et := 3) (p := (u : Int)) 2 (idxR w.cells) rfl (by kernel_rfl) intT rfl rfl rfl rfl ho.c fun es2 c2 hk2 => ?_
   rw [Qic hm] at hk2
   refine wXD ?_
   obtain ⟨w1, hw1⟩ : ∃ w1 : Wr, w1 = { w with cells := w.cells ++ [(u : Int)] } := ⟨_, rfl⟩
   have ho1 : WOk w1 (i, ⟨es2, c2, q.se, q.sc⟩) := by rw [hw1]; exact ⟨ho.b, hk2, ho.s⟩
   have ho1o : w1.out = w.out := by rw [hw1]
   have hlt := Qdx hin hm (t := w.cells ++ [(u : Int)]) (fun x hx => by simp [hx]) (by simp)
   have hlen := hcw.len
   simp only at hlen
   refine DrawN.planQ [0, 3] [1, 2, 4, 5, 6, 7] [(8, 0)] (by decide +kernel) ?_
   refine wXD ?_
   have hnl := Qbd (n := items.length) (by omega)
   refine Qfd (Qgd (items.length) (by omega) _) ?_
   refine wXD ?_
   refine Nd.mk (by rw [Qal]; show 1 + _ < _; omega) ?_
   rw [show (⟨#[91]⟩ : ByteArray) = bs [91] from rfl, Qb4]
   refine wXD ?_
   have he : Qdj (Qae (l.map (·.c)) n) ⟨6, num0, text, names, items⟩ w (u : Int) = items.foldl (Qae (l.map (·.c)) n) (putW w1 (91 :: num items.length)) := by
    rw [Qdh (by simp) hm, if_neg (by simp), if_pos rfl, hw1]
   refine Qai (Qa3 (.slice a l.length ca) (GrF a l) mb sb (⟨es2, c2, q.se, q.sc⟩) true (w.out) ([91] ++ num items.length) i ho.b (by first | omega | (simp; omega))) [0, 1, 2, 3, 4] rfl ⟨rfl, rfl, rfl, rfl, rfl, trivial⟩ rfl fun i2 hi2 => ?_
   refine wXD ?_
   obtain ⟨w2, hw2⟩ : ∃ w2 : Wr, w2 = putW w1 (91 :: num items.length) := ⟨_, rfl⟩
   have ho2 : WOk w2 (i2, ⟨es2, c2, q.se, q.sc⟩) := by rw [hw2]; exact ⟨by rw [Qkt, ho1o]; exact hi2, ho1.c, ho1.s⟩
   rw [he, <- hw2]
   have hl2 : Lim (items.foldl (Qae (l.map (·.c)) n) w2) := by rw [hw2, <- he]; exact hlim
   have hfr : ∀ k, Qb3 (l.map (·.c)) ((items.take k).foldl (Qae (l.map (·.c)) n) w2).cells < n := fun k => by
    have h1 := Qct (g := l.map (·.c)) (Qbm (Qaw (l.map (·.c)) n) (items.take k) w2).sub
    have h2 : w2.cells = w.cells ++ [(u : Int)] := by rw [hw2, Qa1, hw1]
    rw [h2] at h1
    omega
   refine Qas Go.Proofs.YtgogonnnojcioaaGreatDoor.hm Tryz.func60 (by kernel_rfl) rfl rfl ?_
   refine wXD ?_
   refine LoopN.intro (Nat × BSt × MapP) (fun ⟨k, x⟩ => k <= items.length /\ WOk ((items.take k).foldl (Qae (l.map (·.c)) n) w2) x)
    (fun ⟨k, _⟩ => mkS Tryz.f60.ntmps 0 [(0, .c (.lp 0 0)), (6, .c (.v (.slice ia items.length ic))), (7, .c (.v (.int .i64 (items.length : Int)))), (8, .c (.v (.int .i64 (k : Int))))])
    (fun ⟨k, x⟩ => wM (.slice a l.length ca) (GrF a l) true ((items.take k).foldl (Qae (l.map (·.c)) n) w2).out x.1 mb sb x.2 ++ [.blk 57 [.v (.int .i64 6), .v (.int .i64 num0), .v (.string (bs text)), .v (.slice na names.length nc), .v (.slice ia items.length ic)]]) (fun ⟨k, _⟩ => items.length - k) [] rfl (fun _ => rfl) (fun _ => rfl) (fun _ _ => Qan rfl) ?_ ?_
   ·refine ⟨(0, i2, ⟨es2, c2, q.se, q.sc⟩), ⟨Zkz _, ho2⟩, ?_, ?_⟩
    ·exact wKK
    ·show wkH _ (wM _ _ true w2.out i2 mb sb ⟨es2, c2, q.se, q.sc⟩ ++ _)
     rw [hw2, Qkt, ho1o]
     exact ⟨Qaa _, Qaa _, Qaa _, Qaa _, Qaa _, Qaa _, trivial⟩
   rintro ⟨k, x0⟩ ⟨hk, hx0⟩
   obtain ⟨i3, q3⟩ := x0
   refine wXD ?_
   refine Qab (fun h1 => ?_) (fun h1 => ?_)
   ·-- an item: what is known of it
    obtain ⟨x, hx⟩ : ∃ z, items[k]? = some z := ⟨_, Zbz (by omega)⟩
    have hxi := houts x (Ziz hx)
    obtain ⟨xn, rfl⟩ : ∃ xn : Nat, x = (xn : Int) := ⟨x.toNat, by have := hxi.1; omega⟩
    have hxl : xn < l.length := by have := hxi.2; simp only [List.length_map] at this; omega
    have hxa : ia.isSome = true := by
     cases ia with
     | none => have h0 : items = [] := hpo.ia rfl; rw [h0] at hx; cases hx
     | some b => rfl
    refine wXD ?_
    refine Nd.mk ⟨hxa, by omega, by omega⟩ ?_
    refine wXD ?_
    refine LdN.one (.int .i64 (xn : Int)) rfl (fun w hw => (hw.2.2.2.1.2 _ hpm).2) (by rw [Zdz]; show (iC items)[k * 1]? = _; rw [Nat.mul_one]; exact Qcb hx) ?_
    refine wXD ?_
    have hnx := Qfm (f := Qae (l.map (·.c)) n) (b := w2) hx
    refine Qai (ih ((items.take k).foldl (Qae (l.map (·.c)) n) w2) i3 q3 xn hxl (hfr k) hx0 (by rw [<- hnx]; exact Qg3 (Qaw _ n) hl2 (k + 1))) [0, 1, 2, 3, 4] rfl ⟨rfl, rfl, rfl, rfl, rfl, trivial⟩ rfl fun y hy => ?_
    rw [<- hnx] at hy ⊢
    refine wXD ?_
    refine ⟨(k + 1, y), ⟨by omega, hy⟩, by show items.length - (k + 1) < items.length - k; omega, ?_, Qaa _, Qaa _, Qaa _, Qaa _, Qaa _, Qaa _, trivial⟩
    exact wKK
   ·obtain rfl : k = items.length := by omega
    rw [Ztz] at hx0 ⊢
    refine wXD ?_
    exact ⟨(i3, q3), hx0, rfl, Qaa _, Qaa _, Qaa _, Qaa _, Qaa _, trivial⟩
  ·-- 7: the kind
   rw [Qba, hat]
   refine ownC hm Tryz.func35 (by kernel_rfl) rfl rfl (fun _ _ => Qhw _ _ _ _ _ _ _ _) (fun _ _ => Zcz _) ?_
   refine wXD ?_
   refine Nd.mk ⟨hsa, by omega, by omega⟩ ?_
   refine wXD ?_
   refine LdN.agg [.int .i64 7, .int .i64 num0, .string (bs text), .slice na names.length nc, .slice ia items.length ic] rfl (fun w hw => hw.2.2.2.1.1) rfl (fun k hk => by rw [Zdz]; exact Qau l u k hk hp) ?_
   refine wXD ?_
   refine ReadW.askKey (et := 3) (p := (u : Int)) (idxR w.cells) rfl (by kernel_rfl) intT rfl rfl rfl rfl (fun w hw => hw.2.1) ho.c ?_
   rw [Qgp]
   by_cases hm : (u : Int) ∈ w.cells
   ·have hi := List.idxOf_lt_length_iff.2 hm
    rw [if_pos hm, show Qdj (Qae (l.map (·.c)) n) ⟨7, num0, text, names, items⟩ w (u : Int) = putW w (64 :: num (w.cells.idxOf (u : Int))) from Qdi (by simp) hm]
    generalize w.cells.idxOf (u : Int) = k at hi ⊢
    refine wXD ?_
    refine DrawN.planQ [0, 3] [1, 2, 4, 5] [(6, 0)] (by decide +kernel) ?_
    refine wXD ?_
    have hnl := Qbd (n := k) (by omega)
    refine Qfd (Qgd (k) (by omega) _) ?_
    refine wXD ?_
    refine Nd.mk (by rw [Qal]; show 1 + _ < _; omega) ?_
    rw [show (⟨#[64]⟩ : ByteArray) = bs [64] from rfl, Qb4]
    refine wXD ?_
    refine Qai (Qa3 (.slice a l.length ca) (GrF a l) mb sb (q) true (w.out) ([64] ++ num k) i ho.b (by first | omega | (simp; omega))) [0, 1, 2, 3, 4] rfl ⟨rfl, rfl, rfl, rfl, rfl, trivial⟩ rfl fun i2 hi2 => ?_
    refine wXD ?_
    exact ⟨(i2, q), ⟨hi2, ho.c, ho.s⟩, rfl, Qaa _, Qaa _, Qaa _, Qaa _, Qaa _, trivial⟩
   rw [if_neg hm]
   refine wXD ?_
   refine DrawN.planQ [0, 4, 5] [1, 2, 3, 6, 7, 8, 9] [(10, 0)] (by decide +kernel) ?_
   refine wXD ?_
   refine ReadW.mapLen (kt := 3) (et := 3) w.cells.length rfl rfl rfl (by kernel_rfl) rfl (fun w hw => hw.2.1) (by rw [<- Array.length_toList, ho.c.len, Qid]) ?_
   refine wXD ?_
   refine EffW.setMap (et := 3) (p := (u : Int)) 2 (idxR w.cells) rfl (by kernel_rfl) intT rfl rfl rfl rfl ho.c fun es2 c2 hk2 => ?_
   rw [Qic hm] at hk2
   refine wXD ?_
   obtain ⟨w1, hw1⟩ : ∃ w1 : Wr, w1 = { w with cells := w.cells ++ [(u : Int)] } := ⟨_, rfl⟩
   have ho1 : WOk w1 (i, ⟨es2, c2, q.se, q.sc⟩) := by rw [hw1]; exact ⟨ho.b, hk2, ho.s⟩
   have ho1o : w1.out = w.out := by rw [hw1]
   have hlt := Qdx hin hm (t := w.cells ++ [(u : Int)]) (fun x hx => by simp [hx]) (by simp)
   have hlen := hcw.len
   simp only at hlen
   refine DrawN.planQ [0, 3] [1, 2, 4, 5, 6, 7, 8] [(9, 0)] (by decide +kernel) ?_
   refine wXD ?_
   rw [show ((items.length : Int)).tdiv 2 = ((items.length / 2 : Nat) : Int) from (Int.ofNat_tdiv _ _).symm]
   try rw [Qaf (x := ((items.length / 2 : Nat) : Int)) (by omega)]
   have hnl := Qbd (n := items.length / 2) (by omega)
   refine Qfd (Qgd (items.length / 2) (by omega) _) ?_
   refine wXD ?_
   refine Nd.mk (by rw [Qal]; show 1 + _ < _; omega) ?_
   rw [show (⟨#[123]⟩ : ByteArray) = bs [123] from rfl, Qb4]
   refine wXD ?_
   have he : Qdj (Qae (l.map (·.c)) n) ⟨7, num0, text, names, items⟩ w (u : Int) = items.foldl (Qae (l.map (·.c)) n) (putW w1 (123 :: num (items.length / 2))) := by
    rw [Qdh (by simp) hm, if_neg (by simp), if_neg (by simp), if_pos rfl, hw1]
   refine Qai (Qa3 (.slice a l.length ca) (GrF a l) mb sb (⟨es2, c2, q.se, q.sc⟩) true (w.out) ([123] ++ num (items.length / 2)) i ho.b (by first | omega | (simp; omega))) [0, 1, 2, 3, 4] rfl ⟨rfl, rfl, rfl, rfl, rfl, trivial⟩ rfl fun i2 hi2 => ?_
   refine wXD ?_
   obtain ⟨w2, hw2⟩ : ∃ w2 : Wr, w2 = putW w1 (123 :: num (items.length / 2)) := ⟨_, rfl⟩
   have ho2 : WOk w2 (i2, ⟨es2, c2, q.se, q.sc⟩) := by rw [hw2]; exact ⟨by rw [Qkt, ho1o]; exact hi2, ho1.c, ho1.s⟩
   rw [he, <- hw2]
   have hl2 : Lim (items.foldl (Qae (l.map (·.c)) n) w2) := by rw [hw2, <- he]; exact hlim
   have hfr : ∀ k, Qb3 (l.map (·.c)) ((items.take k).foldl (Qae (l.map (·.c)) n) w2).cells < n := fun k => by
    have h1 := Qct (g := l.map (·.c)) (Qbm (Qaw (l.map (·.c)) n) (items.take k) w2).sub
    have h2 : w2.cells = w.cells ++ [(u : Int)] := by rw [hw2, Qa1, hw1]
    rw [h2] at h1
    omega
   refine Qas Go.Proofs.YtgogonnnojcioaaGreatDoor.hm Tryz.func60 (by kernel_rfl) rfl rfl ?_
   refine wXD ?_
   refine LoopN.intro (Nat × BSt × MapP) (fun ⟨k, x⟩ => k <= items.length /\ WOk ((items.take k).foldl (Qae (l.map (·.c)) n) w2) x)
    (fun ⟨k, _⟩ => mkS Tryz.f60.ntmps 0 [(0, .c (.lp 0 0)), (6, .c (.v (.slice ia items.length ic))), (7, .c (.v (.int .i64 (items.length : Int)))), (8, .c (.v (.int .i64 (k : Int))))])
    (fun ⟨k, x⟩ => wM (.slice a l.length ca) (GrF a l) true ((items.take k).foldl (Qae (l.map (·.c)) n) w2).out x.1 mb sb x.2 ++ [.blk 57 [.v (.int .i64 7), .v (.int .i64 num0), .v (.string (bs text)), .v (.slice na names.length nc), .v (.slice ia items.length ic)]]) (fun ⟨k, _⟩ => items.length - k) [] rfl (fun _ => rfl) (fun _ => rfl) (fun _ _ => Qan rfl) ?_ ?_
   ·refine ⟨(0, i2, ⟨es2, c2, q.se, q.sc⟩), ⟨Zkz _, ho2⟩, ?_, ?_⟩
    ·exact wKK
    ·show wkH _ (wM _ _ true w2.out i2 mb sb ⟨es2, c2, q.se, q.sc⟩ ++ _)
     rw [hw2, Qkt, ho1o]
     exact ⟨Qaa _, Qaa _, Qaa _, Qaa _, Qaa _, Qaa _, trivial⟩
   rintro ⟨k, x0⟩ ⟨hk, hx0⟩
   obtain ⟨i3, q3⟩ := x0
   refine wXD ?_
   refine Qab (fun h1 => ?_) (fun h1 => ?_)
   ·-- an item: what is known of it
    obtain ⟨x, hx⟩ : ∃ z, items[k]? = some z := ⟨_, Zbz (by omega)⟩
    have hxi := houts x (Ziz hx)
    obtain ⟨xn, rfl⟩ : ∃ xn : Nat, x = (xn : Int) := ⟨x.toNat, by have := hxi.1; omega⟩
    have hxl : xn < l.length := by have := hxi.2; simp only [List.length_map] at this; omega
    have hxa : ia.isSome = true := by
     cases ia with
     | none => have h0 : items = [] := hpo.ia rfl; rw [h0] at hx; cases hx
     | some b => rfl
    refine wXD ?_
    refine Nd.mk ⟨hxa, by omega, by omega⟩ ?_
    refine wXD ?_
    refine LdN.one (.int .i64 (xn : Int)) rfl (fun w hw => (hw.2.2.2.1.2 _ hpm).2) (by rw [Zdz]; show (iC items)[k * 1]? = _; rw [Nat.mul_one]; exact Qcb hx) ?_
    refine wXD ?_
    have hnx := Qfm (f := Qae (l.map (·.c)) n) (b := w2) hx
    refine Qai (ih ((items.take k).foldl (Qae (l.map (·.c)) n) w2) i3 q3 xn hxl (hfr k) hx0 (by rw [<- hnx]; exact Qg3 (Qaw _ n) hl2 (k + 1))) [0, 1, 2, 3, 4] rfl ⟨rfl, rfl, rfl, rfl, rfl, trivial⟩ rfl fun y hy => ?_
    rw [<- hnx] at hy ⊢
    refine wXD ?_
    refine ⟨(k + 1, y), ⟨by omega, hy⟩, by show items.length - (k + 1) < items.length - k; omega, ?_, Qaa _, Qaa _, Qaa _, Qaa _, Qaa _, Qaa _, trivial⟩
    exact wKK
   ·obtain rfl : k = items.length := by omega
    rw [Ztz] at hx0 ⊢
    refine wXD ?_
    exact ⟨(i3, q3), hx0, rfl, Qaa _, Qaa _, Qaa _, Qaa _, Qaa _, trivial⟩
  ·-- 8: the kind
   rw [Qba, hat]
   refine ownC hm Tryz.func35 (by kernel_rfl) rfl rfl (fun _ _ => Qhw _ _ _ _ _ _ _ _) (fun _ _ => Zcz _) ?_
   refine wXD ?_
   refine Nd.mk ⟨hsa, by omega, by omega⟩ ?_
   refine wXD ?_
   refine LdN.agg [.int .i64 8, .int .i64 num0, .string (bs text), .slice na names.length nc, .slice ia items.length ic] rfl (fun w hw => hw.2.2.2.1.1) rfl (fun k hk => by rw [Zdz]; exact Qau l u k hk hp) ?_
   refine wXD ?_
   refine ReadW.askKey (et := 3) (p := (u : Int)) (idxR w.cells) rfl (by kernel_rfl) intT rfl rfl rfl rfl (fun w hw => hw.2.1) ho.c ?_
   rw [Qgp]
   by_cases hm : (u : Int) ∈ w.cells
   ·have hi := List.idxOf_lt_length_iff.2 hm
    rw [if_pos hm, show Qdj (Qae (l.map (·.c)) n) ⟨8, num0, text, names, items⟩ w (u : Int) = putW w (64 :: num (w.cells.idxOf (u : Int))) from Qdi (by simp) hm]
    generalize w.cells.idxOf (u : Int) = k at hi ⊢
    refine wXD ?_
    refine DrawN.planQ [0, 3] [1, 2, 4, 5] [(6, 0)] (by decide +kernel) ?_
    refine wXD ?_
    have hnl := Qbd (n := k) (by omega)
    refine Qfd (Qgd (k) (by omega) _) ?_
    refine wXD ?_
    refine Nd.mk (by rw [Qal]; show 1 + _ < _; omega) ?_
    rw [show (⟨#[64]⟩ : ByteArray) = bs [64] from rfl, Qb4]
    refine wXD ?_
    refine Qai (Qa3 (.slice a l.length ca) (GrF a l) mb sb (q) true (w.out) ([64] ++ num k) i ho.b (by first | omega | (simp; omega))) [0, 1, 2, 3, 4] rfl ⟨rfl, rfl, rfl, rfl, rfl, trivial⟩ rfl fun i2 hi2 => ?_
    refine wXD ?_
    exact ⟨(i2, q), ⟨hi2, ho.c, ho.s⟩, rfl, Qaa _, Qaa _, Qaa _, Qaa _, Qaa _, trivial⟩
   rw [if_neg hm]
   refine wXD ?_
   refine DrawN.planQ [0, 4, 5] [1, 2, 3, 6, 7, 8, 9] [(10, 0)] (by decide +kernel) ?_
   refine wXD ?_
   refine ReadW.mapLen (kt := 3) (et := 3) w.cells.length rfl rfl rfl (by kernel_rfl) rfl (fun w hw => hw.2.1) (by rw [<- Array.length_toList, ho.c.len, Qid]) ?_
   refine wXD ?_
   refine EffW.setMap (et := 3) (p := (u : Int)) 2 (idxR w.cells) rfl (by kernel_rfl) intT rfl rfl rfl rfl ho.c fun es2 c2 hk2 => ?_
   rw [Qic hm] at hk2
   refine wXD ?_
   obtain ⟨w1, hw1⟩ : ∃ w1 : Wr, w1 = { w with cells := w.cells ++ [(u : Int)] } := ⟨_, rfl⟩
   have ho1 : WOk w1 (i, ⟨es2, c2, q.se, q.sc⟩) := by rw [hw1]; exact ⟨ho.b, hk2, ho.s⟩
   have ho1o : w1.out = w.out := by rw [hw1]
   have hlt := Qdx hin hm (t := w.cells ++ [(u : Int)]) (fun x hx => by simp [hx]) (by simp)
   have hlen := hcw.len
   have hcls := (hcw.cls rfl).2
   have hns := hcw.lens rfl
   have hnam := hcw.nam
   simp only at hlen hcls hns hnam
   have he : Qdj (Qae (l.map (·.c)) n) ⟨8, num0, text, names, items⟩ w (u : Int) = (names.zip items).foldl (Qcs (l.map (·.c)) n) (putW (symW (putW w1 [111]) text) (num names.length)) := by
    rw [Qdh (by simp) hm, if_neg (by simp), if_neg (by simp), if_neg (by simp), hw1]
    rfl
   rw [he]
   have hl2 : Lim ((names.zip items).foldl (Qcs (l.map (·.c)) n) (putW (symW (putW w1 [111]) text) (num names.length))) := by rw [<- he]; exact hlim
   have hl1 := (Qbm (Qc7 (l.map (·.c)) n) _ _).lim hl2
   have hl0 := (Qcp _ _).lim hl1
   rw [<- ho1o]
   rw [<- ho1o] at hlo
   refine Qai (Qa3 (.slice a l.length ca) (GrF a l) mb sb (⟨es2, c2, q.se, q.sc⟩) true (w1.out) ([111]) i ho1.b (by first | omega | (simp; omega))) [0, 1, 2, 3, 4] rfl ⟨rfl, rfl, rfl, rfl, rfl, trivial⟩ rfl fun i2 hi2 => ?_
   refine wXD ?_
   refine Qai (Qmz (.slice a l.length ca) (GrF a l) mb sb (putW w1 [111]) text i2 ⟨es2, c2, q.se, q.sc⟩ ⟨hi2, ho1.c, ho1.s⟩ (by have := ((Qdw _ _).lim hl0).o; omega) (by omega) (by have := ((Qdw _ _).lim hl0).s; omega)) [0, 1, 2, 3, 4] rfl ⟨rfl, rfl, rfl, rfl, rfl, trivial⟩ rfl fun x hx => ?_
   obtain ⟨i4, q4⟩ := x
   refine wXD ?_
   obtain ⟨w4, hw4⟩ : ∃ w4, w4 = symW (putW w1 [111]) text := ⟨_, rfl⟩
   rw [<- hw4] at hx hl2 hl1 hl0 ⊢
   have hl0o := hl0.o
   refine DrawN.planQ [0, 3] [1, 2, 4, 5, 6] [(7, 0)] (by decide +kernel) ?_
   refine wXD ?_
   have hnl := Qbd (n := names.length) (by omega)
   refine Qfd (Qgd names.length (by omega) _) ?_
   refine wXD ?_
   refine Qai (Qa3 (.slice a l.length ca) (GrF a l) mb sb (q4) true (w4.out) (num names.length) i4 hx.b (by first | omega | (simp; omega))) [0, 1, 2, 3, 4] rfl ⟨rfl, rfl, rfl, rfl, rfl, trivial⟩ rfl fun i2 hi2 => ?_
   refine wXD ?_
   obtain ⟨w5, hw5⟩ : ∃ w5, w5 = putW w4 (num names.length) := ⟨_, rfl⟩
   have ho5 : WOk w5 (i2, q4) := by rw [hw5]; exact ⟨hi2, hx.c, hx.s⟩
   have hl5 : Lim ((names.zip items).foldl (Qcs (l.map (·.c)) n) w5) := by rw [hw5]; exact hl2
   rw [<- hw5]
   have hfr : ∀ k, Qb3 (l.map (·.c)) (((names.zip items).take k).foldl (Qcs (l.map (·.c)) n) w5).cells < n := fun k => by
    have h1 := Qct (g := l.map (·.c)) (Qbm (Qc7 (l.map (·.c)) n) ((names.zip items).take k) w5).sub
    have h2 : w5.cells = w.cells ++ [(u : Int)] := by rw [hw5, Qa1, hw4, Qbg, Qa1, hw1]
    rw [h2] at h1
    omega
   have hzl : (names.zip items).length = names.length := by rw [List.length_zip]; omega
   refine LoopN.intro (Nat × BSt × MapP) (fun ⟨k, x⟩ => k <= names.length /\ WOk (((names.zip items).take k).foldl (Qcs (l.map (·.c)) n) w5) x)
    (fun ⟨k, _⟩ => mkS Tryz.f35.ntmps 0 [(0, .c (.lp 0 0)), (4, .c (.lp 5 0)), (144, .c (.v (.slice na names.length nc))), (145, .c (.v (.int .i64 (names.length : Int)))), (146, .c (.v (.int .i64 (k : Int))))])
    (fun ⟨k, x⟩ => wM (.slice a l.length ca) (GrF a l) true (((names.zip items).take k).foldl (Qcs (l.map (·.c)) n) w5).out x.1 mb sb x.2 ++ [.blk 57 [.v (.int .i64 8), .v (.int .i64 num0), .v (.string (bs text)), .v (.slice na names.length nc), .v (.slice ia items.length ic)]]) (fun ⟨k, _⟩ => names.length - k) [] rfl (fun _ => rfl) (fun _ => rfl) (fun _ _ => Qan rfl) ?_ ?_
   ·refine ⟨(0, i2, q4), ⟨Zkz _, ho5⟩, ?_, ?_⟩
    ·exact wKK
    ·show wkH _ (wM _ _ true w5.out i2 mb sb q4 ++ _)
     rw [hw5, Qkt]
     exact ⟨Qaa _, Qaa _, Qaa _, Qaa _, Qaa _, Qaa _, trivial⟩
   rintro ⟨k, x0⟩ ⟨hk, hx0⟩
   obtain ⟨i3, q3⟩ := x0
   refine wXD ?_
   refine Qab (fun h1 => ?_) (fun h1 => ?_)
   ·-- an item: what is known of it
    obtain ⟨x, hx⟩ : ∃ z, items[k]? = some z := ⟨_, Zbz (by omega)⟩
    have hxi := houts x (Ziz hx)
    obtain ⟨xn, rfl⟩ : ∃ xn : Nat, x = (xn : Int) := ⟨x.toNat, by have := hxi.1; omega⟩
    have hxl : xn < l.length := by have := hxi.2; simp only [List.length_map] at this; omega
    have hxa : ia.isSome = true := by
     cases ia with
     | none => have h0 : items = [] := hpo.ia rfl; rw [h0] at hx; cases hx
     | some b => rfl
    obtain ⟨nm, hnm⟩ : ∃ z, names[k]? = some z := ⟨_, Zbz (by omega)⟩
    have hnma : na.isSome = true := by
     cases na with
     | none => have h0 : names = [] := hpo.na rfl; rw [h0] at hnm; cases hnm
     | some b => rfl
    have hn40 := (hnam nm (Ziz hnm)).2
    have hz : (names.zip items)[k]? = some (nm, (xn : Int)) := List.getElem?_zip_eq_some.2 ⟨hnm, hx⟩
    have hnx := Qfm (f := Qcs (l.map (·.c)) n) (b := w5) hz
    have hl6 := Qg3 (Qc7 (l.map (·.c)) n) hl5 (k + 1)
    have hfk := hfr k
    obtain ⟨wk, hwk⟩ : ∃ w : Wr, w = ((names.zip items).take k).foldl (Qcs (l.map (·.c)) n) w5 := ⟨_, rfl⟩
    rw [hnx] at hl6
    rw [<- hwk] at hnx hl6 hfk hx0 ⊢
    have hl6b : Lim (Qae (l.map (·.c)) n (symW wk nm) (xn : Int)) := hl6
    have hl7 : Lim (symW wk nm) := (Qaw _ n _ _).lim hl6b
    have hl8 := (Qdw _ _).lim hl7
    refine wXD ?_
    refine Nd.mk ⟨hnma, by omega, by omega⟩ ?_
    refine wXD ?_
    refine LdN.one (.string (bs nm)) rfl (fun w hw => (hw.2.2.2.1.2 _ hpm).1) (by rw [Zdz]; show (strC names)[k * 1]? = _; rw [Nat.mul_one]; exact Qcz hnm) ?_
    refine wXD ?_
    refine Qai (Qmz (.slice a l.length ca) (GrF a l) mb sb wk nm i3 q3 hx0 (by have := hl8.o; omega) (by omega) (by have := hl8.s; omega)) [0, 1, 2, 3, 4] rfl ⟨rfl, rfl, rfl, rfl, rfl, trivial⟩ rfl fun y hy => ?_
    obtain ⟨i6, q6⟩ := y
    refine wXD ?_
    refine Nd.mk ⟨hxa, by omega, by omega⟩ ?_
    refine wXD ?_
    refine LdN.one (.int .i64 (xn : Int)) rfl (fun w hw => (hw.2.2.2.1.2 _ hpm).2) (by rw [Zdz]; show (iC items)[k * 1]? = _; rw [Nat.mul_one]; exact Qcb hx) ?_
    refine wXD ?_
    refine Qai (ih (symW wk nm) i6 q6 xn hxl (by rw [Qbg]; exact hfk) hy hl6b) [0, 1, 2, 3, 4] rfl ⟨rfl, rfl, rfl, rfl, rfl, trivial⟩ rfl fun z hz2 => ?_
    have hnx2 : Qae (l.map (·.c)) n (symW wk nm) (xn : Int) = ((names.zip items).take (k + 1)).foldl (Qcs (l.map (·.c)) n) w5 := hnx.symm
    rw [hnx2] at hz2 ⊢
    refine wXD ?_
    refine ⟨(k + 1, z), ⟨by omega, hz2⟩, by show names.length - (k + 1) < names.length - k; omega, ?_, Qaa _, Qaa _, Qaa _, Qaa _, Qaa _, Qaa _, trivial⟩
    exact wKK
   ·obtain rfl : k = names.length := by omega
    rw [<- hzl, Ztz] at hx0
    rw [show (names.zip items).take names.length = names.zip items by rw [<- hzl, Ztz]]
    refine wXD ?_
    exact ⟨(i3, q3), hx0, rfl, Qaa _, Qaa _, Qaa _, Qaa _, Qaa _, trivial⟩
end Go.Proofs.YtgogonnnojcioaaGreatDoor
namespace Go.Marshal
open Go.Core
theorem Qyc {g : List Cell} (hv : Qbe g) (hs : ∀ c ∈ g, c.items.length <= 2000 /\ c.names.length <= 2000) {k : Int} (hk : InI g k) : Dmp g 2030 k :=
 ⟨hv, fun c hc => ⟨(hs c hc).1, (hs c hc).2, by have := Qmn (hv.2.1 c hc); omega⟩, hk⟩
theorem Dmp.lim {g : List Cell} {k : Int} (h : Dmp g 2030 k) : Lim (Qhs g k) := by
 have h500 := h.valid.1
 have hin := Qds h.valid
 have h1 := Qms hin h.cellW (g.length + 1) ⟨headB, [], []⟩ k h.at_
 have h2 := h.wle
 have h3 := Qln h500 h.kn.nodup h.kn.inI
 have h4 := Qka hin h.cellW (by decide) (g.length + 1) ⟨headB, [], []⟩ k h.at_ h.few
 have h5 : wgt iN g [] <= g.length * 4000 := Qrc (fun i hi => by
  have := h.small _ (Qhd hi)
  unfold iN
  omega) []
 have e1 : (⟨headB, [], []⟩ : Wr).ss.length = 0 := rfl
 have e2 : (⟨headB, [], []⟩ : Wr).cells = [] := rfl
 have e3 : (⟨headB, [], []⟩ : Wr).out.length = 3 := rfl
 rw [e1, e2] at h1
 rw [e2, e3] at h4
 refine ⟨?_, ?_, ?_⟩
 ·unfold Qhs; omega
 ·unfold Qhs; omega
 ·omega
end Go.Marshal
namespace Go.Proofs.YtgogonnnojcioaaGreatDoor
open Go.AX Go.RowKit Go.Core Go.Marshal
set_option maxRecDepth 20000
theorem Qt5 {l : List Qaj} (hs : Small l) : ∀ c ∈ l.map (·.c), c.items.length <= 2000 /\ c.names.length <= 2000 := fun c hc => by
 obtain ⟨p, hp, rfl⟩ := Zoz.1 hc
 exact ⟨(hs.2 p hp).2, (hs.2 p hp).1⟩
set_option maxHeartbeats 4000000 in
theorem Qyh {a : Option Addr} (ca : Nat) {l : List Qaj} (ha : a = none -> l = []) (hs : Small l) (hok : ∀ p ∈ l, Qa5 p) (u : Int) :
  ∃ e : Bool, (e = true ↔ AskP (l.map (·.c)) [u]) /\ ∀ H, (∀ w, Qax H w -> GrF a l w) -> SpecH Tryz.prog 14 (pvs [.slice a l.length ca, .int .i64 u]) H (Ret (.tuple #[.string (bs (if e then Qdg (l.map (·.c)) u else [])), errI e]) H) := by
 obtain ⟨e, he, hr⟩ := Qzo ca ha hs hok u
 refine ⟨e, he, ?_⟩
 refine Qem hm Tryz.func14 (by kernel_rfl) rfl rfl ?_
 refine wXD ?_
 refine SpecF.call hr (fun w hw => hw.1) fun v G hv => ?_
 obtain ⟨oa, oc, rfl, hoa, hG⟩ := hv
 cases e with
 | false =>
  refine wXD ?_
  rfl
 | true =>
  have hask := he.1 rfl
  have hin := Qds hask.1
  have hu := hask.2 u (by simp)
  have hd := Qyc hask.1 (Qt5 hs) hu
  obtain ⟨v, rfl⟩ : ∃ v : Nat, u = (v : Int) := ⟨u.toNat, by omega⟩
  have hgl : (l.map (·.c)).length = l.length := by simp
  refine wXD ?_
  refine EffW.mkMap rfl fun mb => ?_
  refine wXD ?_
  refine EffW.mkMap rfl fun sb => ?_
  refine wXD ?_
  refine SpecH.pad [.app 5 1 [] none 0 0] rfl ?_
  have hok0 : BSt.ok (0 : Nat) ⟨none, 0⟩ := ⟨fun _ => ⟨rfl, rfl⟩, Zcz _, fun _ => rfl⟩
  refine Qai (Qa3 (.slice a l.length ca) (GrF a l) mb sb ⟨#[], 0, #[], 0⟩ false [] headB ⟨none, 0⟩ hok0 (by decide)) [4, 5, 2, 3, 0] rfl ⟨rfl, rfl, rfl, rfl, rfl, trivial⟩ rfl fun i2 hi2 => ?_
  refine wXD ?_
  have hlim := hd.lim
  have hdl : Qhs (l.map (·.c)) (v : Int) = Qae (l.map (·.c)) (l.length + 1) ⟨headB, [], []⟩ (v : Int) := by unfold Qhs; rw [hgl]
  have hds : Qdg (l.map (·.c)) (v : Int) = (Qae (l.map (·.c)) (l.length + 1) ⟨headB, [], []⟩ (v : Int)).out := by rw [<- hdl]; rfl
  rw [hdl] at hlim
  refine Qai (QA1 ca ha hok hin hd.cellW hs.1 mb sb (l.length + 1) ⟨headB, [], []⟩ i2 ⟨#[], 0, #[], 0⟩ v (by omega) (by have := Qf2 (l.map (·.c)) []; show Qb3 _ [] < _; omega) ⟨hi2, rfl, rfl⟩ hlim) [4, 5, 2, 3, 0] rfl ⟨rfl, rfl, rfl, rfl, rfl, trivial⟩ rfl fun x hx => ?_
  rw [hds]
  generalize Qae (l.map (·.c)) (l.length + 1) ⟨headB, [], []⟩ (v : Int) = W at hx hlim ⊢
  refine wXD ?_
  refine Qai (Qxj (.slice a l.length ca) (GrF a l) mb sb x.2 true W.out x.1 hx.b) [4, 5, 2, 3, 0] rfl ⟨rfl, rfl, rfl, rfl, rfl, trivial⟩ rfl fun _ _ => ?_
  refine wXD ?_
  rfl
end Go.Proofs.YtgogonnnojcioaaGreatDoor
namespace Go.Proofs.YtgogonnnojcioaaGreatDoor
open Go.AX Go.RowKit Go.Core Go.Marshal
set_option maxRecDepth 20000
theorem Qdt (n : Nat) (hn : n < 9223372036854775808) : ∀ H, SpecH Tryz.prog 73 (pvs [.int .i64 (n : Int)]) H (Ret (.string (bs (num n))) H) := by
 refine Qd1 hm Tryz.func73 (by kernel_rfl) rfl rfl ?_
 have e1 : (n : Int).tmod 128 = ((n % 128 : Nat) : Int) := (Int.ofNat_tmod n 128).symm
 refine wX ?_
 rw [show IntKind.u8.wrap ((n : Int).tmod 128) = (((UInt8.ofNat (n % 128))).toNat : Int) from by rw [e1, Qkb (by omega), Qk1 (by omega)]]
 refine ReadW.bytesOwn [(UInt8.ofNat (n % 128))] rfl rfl Tryz.underlying29 Tryz.underlying5 Tryz.underlying9 rfl rfl ?_
 refine wX ?_
 refine Qdu (Nat × List UInt8 × Nat) (fun ⟨m, s, f⟩ => (numR f (m / 128)).reverse ++ s = num n /\ m / 128 < 128 ^ f /\ s.length + f <= 11 /\ m < 9223372036854775808)
  (fun ⟨m, s, _⟩ => mkS Tryz.f73.ntmps 0 [(0, .c (.v (.int .i64 (m : Int)))), (3, .c (.v (.string (bs s))))]) (fun ⟨_, _, f⟩ => f) rfl (fun _ => rfl) (n, [UInt8.ofNat (n % 128)], 10) ⟨?_, ?_, ?_, hn⟩ ?_ ?_
 ·simp [num]
 ·have : n / 128 < 128 ^ 9 := by omega
  omega
 ·simp
 ·exact wKK
 rintro ⟨m, s, f⟩ ⟨hl, hm1, hsf, hm2⟩
 refine wX ?_
 refine Qab (fun h => ?_) (fun h => ?_)
 ·cases f with
  | zero => omega
  | succ f =>
   have e3 : (m : Int).tdiv 128 = ((m / 128 : Nat) : Int) := (Int.ofNat_tdiv m 128).symm
   have e4 : ((m / 128 : Nat) : Int).tmod 128 = ((m / 128 % 128 : Nat) : Int) := (Int.ofNat_tmod _ 128).symm
   have hs : numR (f + 1) (m / 128) = UInt8.ofNat (m / 128 % 128 + 128) :: numR f (m / 128 / 128) := by
    conv => lhs; unfold numR
    rw [if_neg (by omega)]
   rw [hs] at hl
   refine wX ?_
   rw [show IntKind.u8.wrap (IntKind.i64.wrap (128 + ((m : Int).tdiv 128).tmod 128)) = (((UInt8.ofNat (m / 128 % 128 + 128))).toNat : Int) from by rw [e3, e4, Qaf (by omega), Qkb (by omega), Qk1 (by omega)]; omega]
   refine ReadW.bytesOwn [(UInt8.ofNat (m / 128 % 128 + 128))] rfl rfl Tryz.underlying29 Tryz.underlying5 Tryz.underlying9 rfl rfl ?_
   refine wX ?_
   refine Nd.mk (by rw [Qal, Qal]; simp; omega) ?_
   rw [Qb4]
   refine wX ?_
   refine ⟨(m / 128, UInt8.ofNat (m / 128 % 128 + 128) :: s, f), ⟨by rw [<- hl]; simp, by rw [Nat.pow_succ, Nat.mul_comm] at hm1; exact Nat.div_lt_of_lt_mul hm1, by simp; omega, by omega⟩, by show f < f + 1; omega, ?_, wHH⟩
   (repeat' (first | exact trivial | refine And.intro (by with_reducible rfl) ?_ | (with_reducible exact Qay _) | (with_reducible exact Qaq _) | refine And.intro ?_ ?_))
   all_goals first | rfl | exact Qes e3
 ·have h0 : m / 128 = 0 := by omega
  have hz : numR f (m / 128) = [] := by
   rw [h0]
   cases f with
   | zero => rfl
   | succ f => unfold numR; rw [if_pos rfl]
  rw [hz] at hl
  have hl2 : s = num n := hl
  rw [<- hl2]
  exact wZ
theorem Qwq (n : Int) (hn : -(maxN : Int) <= n /\ n <= (maxN : Int)) : ∀ H, SpecH Tryz.prog 70 (pvs [.int .i64 n]) H (Ret (.string (bs (num (Marshal.sgn n)))) H) := by
 have hmx : maxN = 1000000000000000 := rfl
 have hsl : Marshal.sgn n <= 2000000000000000 := by unfold Marshal.sgn; split <;> omega
 refine Qd1 hm Tryz.func70 (by kernel_rfl) rfl rfl ?_
 refine wX ?_
 refine Qab (fun h => ?_) (fun h => ?_)
 ·have hs : ((Marshal.sgn n : Nat) : Int) = -2 * n - 1 := by unfold Marshal.sgn; rw [if_pos h]; omega
  refine wX ?_
  rw [show IntKind.i64.wrap (IntKind.i64.wrap (-2 * n) - 1) = ((Marshal.sgn n : Nat) : Int) by rw [hs, Qaf (x := -2 * n) (by omega), Qaf (by omega)]]
  refine Qao (Qdt (Marshal.sgn n) (by omega) _) ?_
  exact wZ
 ·have hs : ((Marshal.sgn n : Nat) : Int) = 2 * n := by unfold Marshal.sgn; rw [if_neg h]; omega
  refine wX ?_
  rw [show IntKind.i64.wrap (2 * n) = ((Marshal.sgn n : Nat) : Int) by rw [hs, Qaf (by omega)]]
  refine Qao (Qdt (Marshal.sgn n) (by omega) _) ?_
  exact wZ
theorem Qxs (t : List UInt8) (ht : t.length <= 100000000000) : ∀ H, SpecH Tryz.prog 74 (pvs [.string (bs t)]) H (Ret (.string (bs (num t.length ++ t))) H) := by
 refine Qd1 hm Tryz.func74 (by kernel_rfl) rfl rfl ?_
 have hnl := Qbd (n := t.length) (by omega)
 refine wX ?_
 rw [Qal]
 refine Qao (Qdt t.length (by omega) _) ?_
 refine wX ?_
 refine Nd.mk (by rw [Qal, Qal]; omega) ?_
 rw [Qb4]
 exact wZ
theorem Qnb (a : Option Addr) (c : Nat) (l : List Int) (x : Int) (ha : a = none -> l = []) (hl : l.length <= 200000000000000) : ∀ H, (∀ w, Qax H w -> SlAt a (l.length * 1) (iC l) w) -> SpecH Tryz.prog 72 (pvs [.slice a l.length c, .int .i64 x]) H (Ret (.int .i64 (if x ∈ l then ((l.idxOf x : Nat) : Int) else -1)) H) := by
 refine Qem hm Tryz.func72 (by kernel_rfl) rfl rfl ?_
 refine wX ?_
 refine Qdu Nat (fun i => i <= l.length /\ x ∉ l.take i) (fun i => mkS Tryz.f72.ntmps 0 [(0, .c (.v (.slice a l.length c))), (1, .c (.v (.int .i64 x))), (5, .c (.v (.int .i64 (i : Int))))]) (fun i => l.length - i) rfl (fun _ => rfl) 0 ⟨Zkz _, by simp⟩ ?_ ?_
 ·exact wKK
 intro i ⟨hi, hno⟩
 refine wX ?_
 refine Qab (fun h1 => ?_) (fun h1 => ?_)
 ·obtain ⟨y, hy⟩ : ∃ y, l[i]? = some y := ⟨_, Zbz (by omega)⟩
  have hsa : a.isSome = true := by
   cases a with
   | none => rw [ha rfl] at hy; cases hy
   | some b => rfl
  refine wX ?_
  refine Nd.mk ⟨hsa, by omega, by omega⟩ ?_
  refine wX ?_
  refine LdN.one (.int .i64 y) rfl (fun w hw => hw.1) (by rw [Zdz]; show (iC l)[i * 1]? = _; rw [Nat.mul_one]; exact Qcb hy) ?_
  refine wX ?_
  refine Qa0 (fun h2 => ?_) (fun h2 => ?_)
  ·subst h2
   have hm : y ∈ l := Ziz hy
   have e : l.idxOf y = i := by
    have h3 : l = l.take i ++ y :: l.drop (i + 1) := by
     rw [<- (Zfz.1 hy).2, List.getElem_cons_drop, List.take_append_drop]
    conv => lhs; rw [h3]
    rw [List.idxOf_append, if_neg hno, List.idxOf_cons_self, List.length_take]
    omega
   rw [if_pos hm, e]
   exact wZ
  ·refine wX ?_
   refine ⟨i + 1, ⟨by omega, ?_⟩, by omega, ?_, wHH⟩
   ·rw [List.take_add_one, hy]
    simp only [Option.toList_some, Zmz, Zgz, not_or]
    exact ⟨hno, fun e => h2 e.symm⟩
   ·exact wKK
 ·obtain rfl : i = l.length := by omega
  rw [Ztz] at hno
  rw [if_neg hno]
  exact wZ
end Go.Proofs.YtgogonnnojcioaaGreatDoor
namespace Go.Marshal
open Go.Core
def Qbq (o : B) (w : Wr) : Wr := ⟨o ++ w.out, w.cells, w.ss⟩
theorem Qov (o b : B) (w : Wr) : putW (Qbq o w) b = Qbq o (putW w b) := by unfold putW Qbq; simp
theorem Qki (o t : B) (w : Wr) : symW (Qbq o w) t = Qbq o (symW w t) := by
 unfold symW
 have e : (Qbq o w).ss = w.ss := rfl
 rw [e]
 split
 ·exact Qov o _ w
 ·unfold Qbq; simp
theorem Qg2 {α : Type} {f : Wr -> α -> Wr} (o : B) (hf : ∀ w x, f (Qbq o w) x = Qbq o (f w x)) : ∀ (l : List α) (w : Wr), l.foldl f (Qbq o w) = Qbq o (l.foldl f w)
 | [], _ => rfl
 | x :: l, w => by rw [List.foldl_cons, List.foldl_cons, hf, Qg2 o hf l]
theorem Qt7 {c : Prop} [Decidable c] (o : B) (a b : Wr) : Qbq o (if c then a else b) = if c then Qbq o a else Qbq o b := by split <;> rfl
theorem Qew (g : List Cell) (o : B) : ∀ (n : Nat) (w : Wr) (a : Int), Qae g n (Qbq o w) a = Qbq o (Qae g n w a)
 | 0, _, _ => rfl
 | n + 1, w, a => by
  rw [Qba, Qba]
  unfold Qdj
  have e1 : (Qbq o w).cells = w.cells := rfl
  have e2 : ({ Qbq o w with cells := w.cells ++ [a] } : Wr) = Qbq o { w with cells := w.cells ++ [a] } := rfl
  rw [e1, e2]
  simp only [Qov, Qki]
  rw [Qg2 o (Qew g o n), Qg2 o (Qew g o n), Qg2 o (f := fun w (p : B × Int) => Qae g n (symW w p.1) p.2) (fun w p => by rw [Qki, Qew g o n])]
  repeat rw [Qt7]
theorem Qjs (g : List Cell) (n : Nat) (w : Wr) (a : Int) : Qae g n w a = Qbq w.out (Qae g n ⟨[], w.cells, w.ss⟩ a) := by
 rw [<- Qew]
 congr 1
 unfold Qbq
 simp
theorem Qxx (w : Wr) (t : B) : symW w t = Qbq w.out (symW ⟨[], w.cells, w.ss⟩ t) := by
 rw [<- Qki]
 congr 1
 unfold Qbq
 simp
end Go.Marshal
namespace Go.Proofs.YtgogonnnojcioaaGreatDoor
open Go.AX Go.RowKit Go.Core Go.Marshal
set_option maxRecDepth 20000
def wD (gv : Value) (F : World -> Prop) (cs : List Int) (ss : List (List UInt8)) (i j : BSt) : List Ent :=
 [.blk 93 [.v gv, .v (.slice (at0 i.ob) cs.length i.cap), .v (.slice (at0 j.ob) ss.length j.cap)], .app 3 1 (iC cs) (at0 i.ob) cs.length i.cap, .app 9 1 (strC ss) (at0 j.ob) ss.length j.cap, .fact F]
theorem Qly (gv : Value) (F : World -> Prop) (cs : List Int) (ss : List (List UInt8)) (i j : BSt) : okH (wD gv F cs ss i j).length (wD gv F cs ss i j) := Qan rfl
variable (gv : Value) (F : World -> Prop)
def dOut (W : Wr) : Out -> List Ent -> Prop := RetG (ι := BSt × BSt) (fun x => x.1.ok W.cells.length /\ x.2.ok W.ss.length) (fun _ => .string (bs W.out)) fun x => wD gv F W.cells W.ss x.1 x.2
theorem Qiq {n b c : Nat} (hn : 0 < n) (h : n <= c) : BSt.ok n ⟨some b, c⟩ := ⟨fun h => (by cases h), h, fun h2 => by have h3 : c = 0 := h2; omega⟩
theorem Qmy (cs : List Int) (ss : List (List UInt8)) (t : List UInt8) (i j : BSt) (hi : i.ok cs.length) (hj : j.ok ss.length) (ht : t.length <= 100000) (hl : ss.length <= 90000000000) :
  SpecH Tryz.prog 71 [.c (.lp 0 0), .c (.v (.string (bs t)))] (wD gv F cs ss i j) (dOut gv F (symW ⟨[], cs, ss⟩ t)) := by
 refine ownC hm Tryz.func71 (by kernel_rfl) rfl rfl (fun _ _ => Qly _ _ _ _ _ _) (fun _ _ => Zcz _) ?_
 refine wX ?_
 refine LoopN.intro Nat (fun k => k <= ss.length /\ t ∉ ss.take k) (fun k => mkS Tryz.f71.ntmps 0 [(0, .c (.lp 0 0)), (1, .c (.v (.string (bs t)))), (5, .c (.v (.int .i64 (k : Int))))])
  (fun _ => wD gv F cs ss i j) (fun k => ss.length - k) [] rfl (fun _ => rfl) (fun _ => rfl) (fun _ _ => Qan rfl) ?_ ?_
 ·refine ⟨0, ⟨Zkz _, by simp⟩, ?_, Qag _⟩
  exact wKK
 rintro k ⟨hk, hno⟩
 refine wX ?_
 refine Qab (fun h1 => ?_) (fun h1 => ?_)
 ·obtain ⟨y, hy⟩ : ∃ y, ss[k]? = some y := ⟨_, Zbz (by omega)⟩
  have hsa : (at0 j.ob).isSome = true := by
   cases hob : j.ob with
   | none => have := (hj.1 hob).1; omega
   | some b => rfl
  refine wX ?_
  refine Nd.mk ⟨hsa, by omega, by omega⟩ ?_
  refine wX ?_
  refine LdN.one (.string (bs y)) rfl (fun w hw => hw.2.1) (by rw [Zdz]; show (strC ss)[k * 1]? = _; rw [Nat.mul_one]; exact Qcz hy) ?_
  refine wX ?_
  rw [Qbx, Qbx]
  by_cases h2 : y = t
  ·subst h2
   have hm : y ∈ ss := Ziz hy
   have e : ss.idxOf y = k := by
    have h3 : ss = ss.take k ++ y :: ss.drop (k + 1) := by
     rw [<- (Zfz.1 hy).2, List.getElem_cons_drop, List.take_append_drop]
    conv => lhs; rw [h3]
    rw [List.idxOf_append, if_neg hno, List.idxOf_cons_self, List.length_take]
    omega
   have hsy : symW ⟨[], cs, ss⟩ y = ⟨59 :: num k, cs, ss⟩ := by unfold symW; rw [if_pos hm, e]; rfl
   rw [hsy, beq_self_eq_true]
   have hnl := Qbd (n := k) (by omega)
   refine wX ?_
   refine Qao (Qdt k (by omega) _) ?_
   refine wX ?_
   refine Nd.mk (by rw [Qal]; show 1 + _ < _; omega) ?_
   rw [show (⟨#[59]⟩ : ByteArray) = bs [59] from rfl, Qb4]
   refine wX ?_
   exact ⟨(i, j), ⟨hi, hj⟩, rfl, Qaa _, Qaa _, Qaa _, Qaa _, trivial⟩
  ·rw [show (y == t) = false by simpa using h2]
   refine wX ?_
   refine ⟨k + 1, ⟨by omega, ?_⟩, by omega, ?_, Qag _⟩
   ·rw [List.take_add_one, hy]
    simp only [Option.toList_some, Zmz, Zgz, not_or]
    exact ⟨hno, fun e => h2 e.symm⟩
   ·exact wKK
 ·obtain rfl : k = ss.length := by omega
  rw [Ztz] at hno
  have hsy : symW ⟨[], cs, ss⟩ t = ⟨58 :: (num t.length ++ t), cs, ss ++ [t]⟩ := by unfold symW; rw [if_neg hno]; rfl
  rw [hsy]
  refine wX ?_
  refine Nd.mk ⟨Zcz 1, rfl, rfl⟩ ?_
  (conv => whnf)
  refine AppN.grow 2 (strC ss) [.string (bs t)] rfl rfl ⟨Zcz 1, ⟨by show (ss.length + 1) * 16 <= _; omega, by omega⟩, Nat.one_ne_zero⟩ fun b' cap' h2 h3 => ?_
  refine wX ?_
  refine Qao (Qxs t (by omega) _) ?_
  refine wX ?_
  have hnl := Qbd (n := t.length) (by omega)
  refine Nd.mk (by rw [Qal]; show 1 + _ < _; simp; omega) ?_
  rw [show (⟨#[58]⟩ : ByteArray) = bs [58] from rfl, Qb4]
  refine wX ?_
  have e1 : strC ss ++ [.string (bs t)] = strC (ss ++ [t]) := by simp [strC]
  have e2 : ss.length + 1 = (ss ++ [t]).length := by simp
  rw [e1, e2]
  exact ⟨(i, ⟨some b', cap'⟩), ⟨hi, Qiq (by rw [<- e2]; omega) (by rw [<- e2]; exact h2)⟩, rfl, Qaa _, Qaa _, Qaa _, Qaa _, trivial⟩
end Go.Proofs.YtgogonnnojcioaaGreatDoor
