/-
  Lemmas (Ax8 Ax9).
-/
import Derived.Deep.Quiet
import Derived.StillTail
import Derived.Test.YtkgmaplkomhjdaaDoorPre1
set_option linter.unusedVariables false
set_option linter.unusedSimpArgs false
namespace Go.AX
def CallOk (P : Program) (f : FuncId) : Prop := ∃ fn, P.funcs[f]? = some fn ∧ (fn.name == "runtime.NumGoroutine") = false ∧ fn.body.isSome = true
def OutOk (ρ : List Loc) : Out → Ending → Prop
 | .val av, e => ∃ v, e = .returned v ∧ av.rel ρ v
 | .vals l, e => ∃ xs : List Value, e = .returned (.tuple xs.toArray) ∧ RelS ρ l xs
 | .pan chain, e => e = .panicked chain
structure SpecH (P : Program) (f : FuncId) (args : List AV) (H : List Ent) (K : Out → List Ent → Prop) : Prop where
 ok : CallOk P f
 run : ∀ (ρ : List Loc) (S : Nat → Prop) (w : World) (vs : List Value), Sat ρ S H w → RelS ρ args vs → Calls P f vs.toArray w fun e w' =>
  ∃ ρ' S' H' out, Sat ρ' S' H' w' ∧ Ev ρ S H w ρ' S' H' w' ∧ OutOk ρ' out e ∧ K out H'
theorem SpecH.mono {P : Program} {f : FuncId} {args : List AV} {H : List Ent} {K K' : Out → List Ent → Prop} (h : SpecH P f args H K) (hk : ∀ out H', K out H' → K' out H') : SpecH P f args H K' :=
 ⟨h.ok, fun ρ S w vs hs hr => (h.run ρ S w vs hs hr).mono fun _ _ ⟨ρ', S', H', out, a, b, c, d⟩ => ⟨ρ', S', H', out, a, b, c, hk _ _ d⟩⟩
inductive QCall (P : Program) (f : FuncId) (args : List AV) (H : List Ent) (K : AV → Prop) : Prop where
 | intro (x : Value) (spec : SpecH P f args H fun out H' => out = .val (.c (.v x)) ∧ H' = H) (next : forceV x fun x => K (.c (.v x)))
def wkC : CV → CV → Prop
 | _, .any => True
 | c, d => c = d
def wkCs : List CV → List CV → Prop
 | [], [] => True
 | c :: cs, d :: ds => wkC c d ∧ wkCs cs ds
 | _, _ => False
def wkS : List AV → List AV → Prop
 | [], [] => True
 | a :: s, b :: t => match b with
  | .c .any => wkS s t
  | .c (.v x) => a = .c (.v x) ∧ wkS s t
  | .c (.lp i o) => a = .c (.lp i o) ∧ wkS s t
  | .c (.sl i n) => a = .c (.sl i n) ∧ wkS s t
  | .agg cs => a = .agg cs ∧ wkS s t
 | _, _ => False
def wkE : Ent → Ent → Prop
 | _, .dead => True
 | .blk T cs, .blk U ds => T = U ∧ wkCs cs ds
 | .row T a n cs, .row U b m ds => T = U ∧ a = b ∧ n = m ∧ cs = ds
 | .fact F, .fact G => ∀ w, F w → G w
 | .fz T sz n xs b cap, .fz T' sz' n' xs' b' cap' => T = T' ∧ sz = sz' ∧ n = n' ∧ xs = xs' ∧ b = b' ∧ cap = cap'
 | .fz T sz n xs b cap, .fact G => ∀ w, RowF T sz n xs b cap w → G w
 | .app T sz xs a n cap, .app T' sz' xs' a' n' cap' => (T = T' ∧ sz = sz' ∧ xs = xs' ∧ a = a' ∧ n = n' ∧ cap = cap') ∨ (xs' = [] ∧ a' = none ∧ n' = 0 ∧ cap' = 0) ∨ (T = T' ∧ sz = sz' ∧ xs' = xs.take (n' * sz) ∧ a = a' ∧ n' ≤ n ∧ cap = cap')
 | .mp b es c, .mp b' es' c' => b = b' ∧ es = es' ∧ c = c'
 | .fam B F, .fam B' F' => (∀ b, B' b ↔ B b) ∧ ∀ w, F w → F' w
 | .dead, .app _ _ xs a n cap => xs = [] ∧ a = none ∧ n = 0 ∧ cap = 0
 | _, _ => False
def wkH : List Ent → List Ent → Prop
 | _, [] => True
 | e :: H, f :: G => wkE e f ∧ wkH H G
 | [], _ :: _ => False
def okC (n : Nat) : CV → Prop
 | .lp i _ | .sl i _ => i < n
 | _ => True
def okCs (n : Nat) : List CV → Prop
 | [] => True
 | c :: cs => okC n c ∧ okCs n cs
def okCsB (n : Nat) : List CV → Bool
 | [] => true
 | .lp i _ :: cs => match Nat.blt i n with | true => okCsB n cs | false => false
 | .sl i _ :: cs => match Nat.blt i n with | true => okCsB n cs | false => false
 | _ :: cs => okCsB n cs
def okSB (n : Nat) : List AV → Bool
 | [] => true
 | .c (.lp i _) :: s => match Nat.blt i n with | true => okSB n s | false => false
 | .c (.sl i _) :: s => match Nat.blt i n with | true => okSB n s | false => false
 | .agg cs :: s => match okCsB n cs with | true => okSB n s | false => false
 | _ :: s => okSB n s
def okE (n : Nat) : Ent → Prop
 | .blk _ cs | .row _ _ _ cs => okCs n cs
 | _ => True
def okH (n : Nat) : List Ent → Prop
 | [] => True
 | e :: H => okE n e ∧ okH n H
def forceS : List AV → (List AV → Prop) → Prop
 | [], K => K []
 | a :: s, K => forceA a fun a => forceS s fun s => K (a :: s)
def forceH : List Ent → (List Ent → Prop) → Prop
 | [], K => K []
 | e :: H, K => forceH H fun H => K (e :: H)
def mkS : Nat → Nat → List (Nat × AV) → List AV
 | 0, _, _ => []
 | n + 1, k, l => look k l :: mkS n (k + 1) l
 where
 look (k : Nat) : List (Nat × AV) → AV
  | [] => .c .any
  | (j, a) :: l => match Nat.beq j k with | true => a | false => look k l
def padB : List Ent → Bool
 | [] => true
 | .app _ _ [] none 0 0 :: es => padB es
 | .dead :: es => padB es
 | _ :: _ => false
def LoopU (E : List AV → List Ent → (Ex → List AV → List Ent → Prop) → Prop) (K : Ex → List AV → List Ent → Prop) (n : Nat) : List AV → List Ent → Prop :=
 Nat.rec (motive := fun _ => List AV → List Ent → Prop) (fun _ _ => False)
  (fun _ ih s H => E s H fun e s' H' => match e with
   | .normal => ih s' H'
   | .exit n => K (.exit n) s' H'
   | .ret => K .ret s' H'
   | .pan c => K (.pan c) s' H') n
def TurnS (H G : List Ent) : Prop := G.length = H.length ∧ ∀ (ρ : List Loc) (S : Nat → Prop) (w : World), Sat ρ S H w → ∃ S', Sat ρ S' G w ∧ Ev ρ S H w ρ S' G w
inductive LoopN (E : List AV → List Ent → (Ex → List AV → List Ent → Prop) → Prop) (s : List AV) (H : List Ent) (K : Ex → List AV → List Ent → Prop) : Prop where
 | intro (ι : Type) (inv : ι → Prop) (sl : ι → List AV) (hp : ι → List Ent) (μ : ι → Nat) (pad : List Ent) (padok : padB pad = true)
   (len : ∀ i, (hp i).length = (H ++ pad).length) (oks : ∀ i, okSB (H ++ pad).length (sl i) = true) (okh : ∀ i, inv i → okH (H ++ pad).length (hp i))
   (start : ∃ i, inv i ∧ wkS s (sl i) ∧ wkH (H ++ pad) (hp i))
   (round : ∀ i, inv i → forceS (sl i) fun s => forceH (hp i) fun H => E s H fun e s' H' => match e with
    | .normal => ∃ j, inv j ∧ μ j < μ i ∧ wkS s' (sl j) ∧ wkH H' (hp j)
    | .exit n => K (.exit n) s' H'
    | .ret => K .ret s' H'
    | .pan c => K (.pan c) s' H')
 | unroll (n : Nat) (rounds : LoopU E K n s H)
 | introS (ι : Type) (inv : ι → Prop) (sl : ι → List AV) (hp : ι → List Ent) (μ : ι → Nat) (pad : List Ent) (padok : padB pad = true)
   (len : ∀ i, (hp i).length = (H ++ pad).length) (oks : ∀ i, okSB (H ++ pad).length (sl i) = true) (okh : ∀ i, inv i → okH (H ++ pad).length (hp i))
   (start : ∃ i, inv i ∧ wkS s (sl i) ∧ ∃ G, TurnS (H ++ pad) G ∧ wkH G (hp i))
   (round : ∀ i, inv i → forceS (sl i) fun s => forceH (hp i) fun H => E s H fun e s' H' => match e with
    | .normal => ∃ j, inv j ∧ μ j < μ i ∧ wkS s' (sl j) ∧ ∃ G, TurnS H' G ∧ wkH G (hp j)
    | .exit n => K (.exit n) s' H'
    | .ret => K .ret s' H'
    | .pan c => K (.pan c) s' H')
def kind (P : Program) (o : Op) : Nat :=
 match o with
 | .alloc _ | .box _ _ | .store _ _ _ | .buildSlice _ _ _ => 1
 | .makeSlice .. | .makeMap .. | .mapUpdate .. | .insert .. | .mapEntry .. | .entryStore .. | .range .. | .next .. | .entry .. => 1
 | .convert _ dst _ => match P.underlying dst with | some (.slice _) => 1 | _ => 0
 | .call { callee := .builtin b, .. } => match b with | .len | .cap | .min | .max | .unsafeSliceData => 0 | _ => 1
 | .call { callee := .value (.func f), .. } => match P.funcs[f]? with | some fn => (match fn.body with | none => 1 | some _ => 2) | none => 2
 | .call { callee := .value _, .. } => 2
 | .call { callee := .invoke .., .. } => 2
 | .panic _ => 3
 | _ => 0
def pvs : List Value → List AV
 | [] => []
 | x :: xs => .c (.v x) :: pvs xs
inductive InvN (P : Program) (t : TypeId) (v : Value) (name : String) (K : FuncId → Value → Prop) : Prop where
 | intro (f : FuncId) (recv : Value) (run : ∀ w, (Go.method (P.types.size + Made.depth) t v name).run P w = .ok (f, recv) w) (next : K f recv)
def callK (P : Program) (s : List AV) (o : Op) (K : FuncId → List AV → Prop) : Prop :=
 match o with
 | .call { callee := .value f, args, .. } => match opv s f with
  | .c (.v (.func (.func g) first cap)) => K g (pvs first.toList ++ opvs s args.toList ++ pvs cap.toList)
  | _ => False
 | .call { callee := .invoke r name, args, .. } => match opv s r with
  | .c (.v (.iface t v)) => InvN P t v name fun f recv => K f (.c (.v recv) :: opvs s args.toList)
  | _ => False
 | _ => False
def panK (s : List AV) (o : Op) (H : List Ent) (K : Out → List Ent → Prop) : Prop :=
 match o with
 | .panic x => match opv s x with
  | .c (.v (.iface t v)) => K (.pan [{ v := .iface t v, recovered := false }]) H
  | _ => False
 | _ => False
def stepK (P : Program) (o : Oper) (s : List AV) (H : List Ent) (K : Out → List Ent → Prop) : Prop :=
 match kind P o.op with
 | 0 => readK P o s H fun av => K (.val av) H
 | 1 => effK P o s H fun av H' => K (.val av) H'
 | 3 => panK s o.op H K
 | _ => callK P s o.op fun f args => SpecH P f args H K
def wantK (ops : Array Oper) (o : Oper) (s : List AV) (A B : List AV → Prop) : Prop :=
 match o.guard with
 | none => A s
 | some (j, want) =>
  match (ops[j]?).bind (·.dst) with
  | none => False
  | some d => match nth s d with
   | .c (.v (.bool b)) => brd b (setK s d (.c (.v (.bool true))) (bif want then A else B)) (setK s d (.c (.v (.bool false))) (bif want then B else A))
   | .c (.v (.tuple _)) => B s
   | _ => False
def execOps (P : Program) (ops : Array Oper) (l : List Oper) : List AV → List Ent → (Ex → List AV → List Ent → Prop) → Prop :=
 List.rec (motive := fun _ => List AV → List Ent → (Ex → List AV → List Ent → Prop) → Prop)
  (fun s H K => K .normal s H)
  (fun o _ ih s H K => wantK ops o s (fun s => stepK P o s H fun out H' => match out with
    | .val av => putK s o.dst av fun s' => ih s' H' K
    | .vals _ => False
    | .pan c => K (.pan c) s H')
   (fun s => putK s o.dst (.c (.v undef)) fun s' => ih s' H K)) l
theorem execOps_cons (P : Program) (ops : Array Oper) (o : Oper) (rest : List Oper) (s : List AV) (H : List Ent) (K : Ex → List AV → List Ent → Prop) :
  execOps P ops (o :: rest) s H K = wantK ops o s (fun s => stepK P o s H fun out H' => match out with
    | .val av => putK s o.dst av fun s' => execOps P ops rest s' H' K
    | .vals _ => False
    | .pan c => K (.pan c) s H')
   (fun s => putK s o.dst (.c (.v undef)) fun s' => execOps P ops rest s' H K) := rfl
def detCs : List CV → Bool
 | [] => true
 | .any :: _ => false
 | _ :: cs => detCs cs
def detA : AV → Bool
 | .c .any => false
 | .c _ => true
 | .agg cs => detCs cs
def stepQ (P : Program) (o : Oper) (s : List AV) (H : List Ent) (K : AV → Prop) : Prop :=
 match kind P o.op with
 | 0 => readK P o s H fun av => match detA av with | true => K av | false => False
 | 2 => callK P s o.op fun f args => QCall P f args H K
 | _ => False
def execQ (P : Program) (ops : Array Oper) (l : List Oper) : List AV → List Ent → (List AV → Prop) → Prop :=
 List.rec (motive := fun _ => List AV → List Ent → (List AV → Prop) → Prop)
  (fun s _ K => K s)
  (fun o _ ih s H K => wantK ops o s (fun s => stepQ P o s H fun av => putK s o.dst av fun s' => ih s' H K)
   (fun s => putK s o.dst (.c (.v undef)) fun s' => ih s' H K)) l
theorem execQ_cons (P : Program) (ops : Array Oper) (o : Oper) (rest : List Oper) (s : List AV) (H : List Ent) (K : List AV → Prop) :
  execQ P ops (o :: rest) s H K = wantK ops o s (fun s => stepQ P o s H fun av => putK s o.dst av fun s' => execQ P ops rest s' H K)
   (fun s => putK s o.dst (.c (.v undef)) fun s' => execQ P ops rest s' H K) := rfl
def setAll : Array Bool → List Nat → Array Bool
 | ls, [] => ls
 | ls, k :: l => setAll (ls.setIfInBounds k true) l
def preB (md : Region.Mode) (ops : Array Oper) : List Nat → Array Bool → Bool
 | [], _ => true
 | k :: l, ls => (Region.ready md ops ls).contains k && Region.free md ops ls k && preB md ops l (ls.setIfInBounds k true)
def tlB (md : Region.Mode) (ops : Array Oper) : List (Nat × Nat) → List Nat → Array Bool → Bool
 | [], rem, ls => rem.isEmpty && (Region.ready md ops ls).isEmpty
 | (k, 0) :: l, rem, ls => (Region.ready md ops ls).contains k && decide (Region.ready md ops (setAll ls rem) = [k]) && !rem.contains k && tlB md ops l rem (ls.setIfInBounds k true)
 | (k, 1) :: l, rem, ls => (Region.ready md ops ls).contains k && Region.free md ops ls k && !rem.contains k && tlB md ops l rem (ls.setIfInBounds k true)
 | (k, _) :: l, rem, ls => rem.contains k && decide (Region.ready md ops (setAll ls (rem.erase k)) = [k]) && tlB md ops l (rem.erase k) (ls.setIfInBounds k true)
def floats (tl : List (Nat × Nat)) : List Nat := (tl.filter fun k => Nat.beq k.2 2).map Prod.fst
def wraps (tl : List (Nat × Nat)) : List Nat := (tl.filter fun k => !Nat.beq k.2 2).map Prod.fst
def constO : Operand → Bool
 | .const _ => true
 | _ => false
structure MkD where
 val : Nat → Value
 cells : Array Value
 T : TypeId
 cap : Nat
 ent : Ent
 av : Nat → AV
def mkD (P : Program) (o : Oper) : Option MkD :=
 match o.op with
 | .alloc T => match P.info? T with
  | some inf => match inf.zero with
   | some z => some ⟨fun b => .pointer (some ⟨b, 0, none⟩), z.cells, T, 0, .blk T (cellsV z), fun i => .c (.lp i 0)⟩
   | none => none
  | none => none
 | .buildSlice T len parts => match P.underlying T with
  | some (.slice e) => match P.info? e with
   | some inf => match inf.zero with
    | some _ => match parts.toList.all fun x => constO x.2 with
     | true => match Nat.ble (len + len * inf.size) 10000, fillC (fun i => some (i * inf.size, inf.size)) [] parts.toList (anys (len * inf.size)) with
      | true, some cs => match plains cs with
       | some xs => some ⟨fun b => .slice (some ⟨b, 0, none⟩) len len, xs.toArray, e, len, .row e inf.size len cs, fun i => .c (.sl i len)⟩
       | none => none
      | _, _ => none
     | false => none
    | none => none
   | none => none
  | _ => none
 | _ => none
def floatB (P : Program) (md : Region.Mode) (ops : Array Oper) (i : Nat) : Bool :=
 match ops[i]? with
 | some o => (mkD P o).isSome && o.guard.isNone && o.dst.isSome && o.after.all fun e => !Region.binds md e
 | none => false
def sinkL (md : Region.Mode) (ops : Array Oper) (t0 : Nat) : List Nat → Bool
 | [] => true
 | i :: l => (t0 :: l).any (fun j => Region.waitsFor md ops j i) && sinkL md ops t0 l
def chainL (md : Region.Mode) (ops : Array Oper) (hd : List Nat) : List Nat → Bool
 | [] => hd.isEmpty
 | t0 :: l => sinkL md ops t0 hd && l.all fun t => (t0 :: l).any fun t' => Region.waitsFor md ops t t'
def hdB (md : Region.Mode) (ops : Array Oper) (fl : List Nat) : List (Nat × Nat) → Array Bool → Bool
 | [], _ => true
 | (k, 0) :: l, ls => (Region.ready md ops ls).contains k && decide (Region.ready md ops (setAll ls fl) = [k]) && hdB md ops fl l (ls.setIfInBounds k true)
 | (k, _) :: l, ls => (Region.ready md ops ls).contains k && Region.free md ops ls k && hdB md ops fl l (ls.setIfInBounds k true)
def reads (hd : List (Nat × Nat)) : List Nat := (hd.filter fun k => Nat.ble k.2 1).map Prod.fst
def disj (a b : List Nat) : Bool := a.all fun i => !b.contains i
def planB (P : Program) (md : Region.Mode) (ops : Array Oper) (pre : List Nat) (hd tl : List (Nat × Nat)) : Bool :=
 (Region.noSelect ops && decide (pre.length + hd.length + tl.length = ops.size) && ((List.range ops.size).all fun i => pre.contains i || (hd.map Prod.fst).contains i || (tl.map Prod.fst).contains i)) &&
  (disj pre (tl.map Prod.fst) && disj (hd.map Prod.fst) (tl.map Prod.fst) && disj (wraps tl) (floats tl) && decide (floats tl).Nodup) &&
  ((floats tl).all (floatB P md ops) && (floats tl).all (Region.free md ops (setAll (Array.replicate ops.size false) pre))) &&
  (preB md ops pre (Array.replicate ops.size false) && ((wraps tl).isEmpty || chainL md ops (reads hd) (wraps tl))) &&
  (hdB md ops (floats tl) hd (setAll (Array.replicate ops.size false) pre) && tlB md ops tl (floats tl) (setAll (setAll (Array.replicate ops.size false) pre) (hd.map Prod.fst)))
structure BlindW (P : Program) (o : Oper) (s : List AV) (K : AV → Prop) (x : Value) : Prop where
 plain : allPlain s o.op.operands.toList = true
 run : ∀ w, (execOp (plainEv s) o).run P w = .ok (.value x) w
 next : K (.c (.v x))
def blindK (P : Program) (o : Oper) (s : List AV) (K : AV → Prop) : Prop :=
 match o.op with
 | .move x => forceA (opv s x) K
 | .assign x => asgK s x K
 | .fieldAddr T x f => match opv s x with
  | .c (.lp i off) => match fieldOff P T f with | some fo => forceN fo fun fo => K (.c (.lp i (off + fo))) | none => False
  | .c (.v (.pointer (some a))) => match fieldOff P T f with | some fo => forceN fo fun fo => K (.c (.v (.pointer (some (a.add fo))))) | none => False
  | _ => False
 | .slice .. => ∃ x, BlindW P o s K x
 | .call .. => ∃ x, BlindW P o s K x
 | .nilCheck x => match opv s x with
  | .c (.lp i off) => K (.c (.lp i off))
  | _ => genK P o s K
 | _ => genK P o s K
def nthO : List Oper → Nat → Option Oper
 | [], _ => none
 | x :: _, 0 => some x
 | _ :: xs, n + 1 => nthO xs n
def pickK (ops : Array Oper) (k : Nat) (F : Oper → Prop) : Prop := match nthO ops.toList k with | some o => F o | none => False
def execB (P : Program) (ops : Array Oper) (l : List Nat) : List AV → (List AV → Prop) → Prop :=
 List.rec (motive := fun _ => List AV → (List AV → Prop) → Prop)
  (fun s K => K s)
  (fun k _ ih s K => pickK ops k fun o => wantK ops o s (fun s => blindK P o s fun av => putK s o.dst av fun s' => ih s' K)
   (fun s => putK s o.dst (.c (.v undef)) fun s' => ih s' K)) l
def headK (P : Program) (o : Oper) (s : List AV) (H : List Ent) (how : Nat) (K : AV → List Ent → Prop) : Prop :=
 match how with
 | 0 => stepK P o s H fun out H' => match out with | .val av => Nd (wkH H' H) (K av H') | _ => False
 | 1 => readK P o s H fun av => match detA av with | true => K av H | false => False
 | _ => blindK P o s fun av => K av H
def execH (P : Program) (ops : Array Oper) (l : List (Nat × Nat)) : List AV → List Ent → (List AV → List Ent → Prop) → Prop :=
 List.rec (motive := fun _ => List AV → List Ent → (List AV → List Ent → Prop) → Prop)
  (fun s H K => K s H)
  (fun kb _ ih s H K => pickK ops kb.1 fun o => wantK ops o s (fun s => headK P o s H kb.2 fun av H' => putK s o.dst av fun s' => ih s' H' K)
   (fun s => putK s o.dst (.c (.v undef)) fun s' => ih s' H K)) l
structure ReadC (P : Program) (C : World → Prop) (o : Oper) (s : List AV) (K : AV → Prop) (x : Value) : Prop where
 sel : ∀ cs b, o.op ≠ .select cs b
 plain : allPlain s o.op.operands.toList = true
 run : ∀ w, C w → (execOp (plainEv s) o).run P w = .ok (.value x) w
 next : K (.c (.v x))
def headC (P : Program) (C : World → Prop) (o : Oper) (s : List AV) (H : List Ent) (how : Nat) (K : AV → List Ent → Prop) : Prop :=
 match how with
 | 0 => stepK P o s H fun out H' => match out with | .val av => Nd (∀ w, Facts H' w → C w) (K av H') | _ => False
 | 1 => ∃ x, ReadC P C o s (fun av => K av H) x
 | _ => blindK P o s fun av => K av H
def execC (P : Program) (C : World → Prop) (ops : Array Oper) (l : List (Nat × Nat)) : List AV → List Ent → (List AV → List Ent → Prop) → Prop :=
 List.rec (motive := fun _ => List AV → List Ent → (List AV → List Ent → Prop) → Prop)
  (fun s H K => K s H)
  (fun kb _ ih s H K => pickK ops kb.1 fun o => wantK ops o s (fun s => headC P C o s H kb.2 fun av H' => putK s o.dst av fun s' => ih s' H' K)
   (fun s => putK s o.dst (.c (.v undef)) fun s' => ih s' H K)) l
def ownK (P : Program) (o : Oper) (H : List Ent) (K : Out → List Ent → Prop) : Prop :=
 match mkD P o with
 | some D => snocK H D.ent 0 fun H' n => K (.val (D.av n)) H'
 | none => False
def tailK (P : Program) (o : Oper) (s : List AV) (H : List Ent) (how : Nat) (K : Out → List Ent → Prop) : Prop :=
 match how with
 | 0 => stepK P o s H K
 | 1 => blindK P o s fun av => K (.val av) H
 | _ + 2 => ownK P o H K
def execT (P : Program) (ops : Array Oper) (l : List (Nat × Nat)) : List AV → List Ent → (Ex → List AV → List Ent → Prop) → Prop :=
 List.rec (motive := fun _ => List AV → List Ent → (Ex → List AV → List Ent → Prop) → Prop)
  (fun s H K => K .normal s H)
  (fun kb _ ih s H K => pickK ops kb.1 fun o => wantK ops o s (fun s => tailK P o s H kb.2 fun out H' => match out with
    | .val av => putK s o.dst av fun s' => ih s' H' K
    | .vals _ => False
    | .pan c => K (.pan c) s H')
   (fun s => putK s o.dst (.c (.v undef)) fun s' => ih s' H K)) l
def execL (P : Program) (ops : Array Oper) (l : List Nat) : List AV → List Ent → (List AV → Prop) → Prop :=
 List.rec (motive := fun _ => List AV → List Ent → (List AV → Prop) → Prop)
  (fun s _ K => K s)
  (fun k _ ih s H K => pickK ops k fun o => wantK ops o s (fun s => stepQ P o s H fun av => putK s o.dst av fun s' => ih s' H K)
   (fun s => putK s o.dst (.c (.v undef)) fun s' => ih s' H K)) l
inductive Ord where
 | nil
 | cons (i : Nat) (sub rest : Ord)
def Ord.keys : Ord → List Nat
 | .nil => []
 | .cons i _ r => i :: r.keys
def ordB (md : Region.Mode) (ops : Array Oper) : Ord → Array Bool → Nat → Bool
 | .nil, _, _ => true
 | .cons _ _ _, _, 0 => false
 | .cons i sub rest, ls, n + 1 => (decide (Region.ready md ops (ls.setIfInBounds i true) = sub.keys) && ordB md ops sub (ls.setIfInBounds i true) n) && ordB md ops rest ls (n + 1)
def andO (rest : Ord) (A B : Prop) : Prop := Ord.rec (motive := fun _ => Prop) A (fun _ _ _ _ _ => A ∧ B) rest
def execO (P : Program) (ops : Array Oper) (t : Ord) : Bool → List AV → List Ent → (Ex → List AV → List Ent → Prop) → Prop :=
 Ord.rec (motive := fun _ => Bool → List AV → List Ent → (Ex → List AV → List Ent → Prop) → Prop)
  (fun head s H K => match head with | true => K .normal s H | false => True)
  (fun i _ rest isub irest _ s H K => andO rest (pickK ops i fun o => wantK ops o s (fun s => stepK P o s H fun out H' => match out with
    | .val av => putK s o.dst av fun s' => isub true s' H' K
    | .vals _ => False
    | .pan c => K (.pan c) s H') (fun s => putK s o.dst (.c (.v undef)) fun s' => isub true s' H K)) (irest false s H K)) t
def ordsB (md : Region.Mode) (ops : Array Oper) (pre : List Nat) (t : Ord) (n : Nat) : Bool :=
 Region.noSelect ops && decide (ops.size = pre.length + n) && preB md ops pre (Array.replicate ops.size false) && decide (Region.ready md ops (setAll (Array.replicate ops.size false) pre) = t.keys) && ordB md ops t (setAll (Array.replicate ops.size false) pre) n
def exOk : Ex → Exit → Prop
 | .normal, .normal => True
 | .exit n, .exit m => n = m
 | .ret, .ret => True
 | .pan c, .panic d => c = d
 | _, _ => False
def relX (ex : Ex) (ρ : List Loc) (s : List AV) (xs : List Value) : Prop :=
 match ex with
 | .pan _ => True
 | _ => RelS ρ s xs
def Post (ρ : List Loc) (S : Nat → Prop) (H : List Ent) (w : World) (dfs : List Deferred) (K : Ex → List AV → List Ent → Prop) (e : Exit) (a' : Act) (w' : World) : Prop :=
 ∃ ρ' S' s' H' ex, Sat ρ' S' H' w' ∧ Ev ρ S H w ρ' S' H' w' ∧ relX ex ρ' s' a'.tmps.toList ∧ a'.defers = dfs ∧ exOk ex e ∧ K ex s' H'
def SemR (P : Program) (ops : Array Oper) (s : List AV) (H : List Ent) (K : Ex → List AV → List Ent → Prop) : Prop :=
 ∀ (id : Nat) (ρ : List Loc) (S : Nat → Prop) (w : World) (a : Act), Sat ρ S H w → RelS ρ s a.tmps.toList → (Code.region id ops true).wp P (Post ρ S H w a.defers K) a w
inductive DrawN (P : Program) (ops : Array Oper) (s : List AV) (H : List Ent) (K : Ex → List AV → List Ent → Prop) : Prop where
 | quiet (ok : Region.lexB .any ops = true) (next : execQ P ops ops.toList s H fun s' => K .normal s' H)
 | plan (pre : List Nat) (hd tl : List (Nat × Nat)) (ok : planB P .any ops pre hd tl = true) (next : execB P ops pre s fun s1 => execH P ops hd s1 H fun s2 H2 => execT P ops tl s2 H2 K)
 | planQ (pre hd : List Nat) (tl : List (Nat × Nat)) (ok : planB P .any ops pre (hd.map fun k => (k, 1)) tl = true) (next : execB P ops pre s fun s1 => execL P ops hd s1 H fun s2 => execT P ops tl s2 H K)
 | planC (C : World → Prop) (pre : List Nat) (hd tl : List (Nat × Nat)) (ok : planB P .any ops pre hd tl = true) (now : ∀ w, Facts H w → C w) (next : execB P ops pre s fun s1 => execC P C ops hd s1 H fun s2 H2 => execT P ops tl s2 H2 K)
 | tree (pre : List Nat) (t : Ord) (n : Nat) (ok : ordsB .any ops pre t n = true) (next : execB P ops pre s fun s1 => execO P ops t true s1 H K)
 | sem (next : SemR P ops s H K)
theorem DrawN.calm {P : Program} {ops : Array Oper} {s : List AV} {H : List Ent} {K : Ex → List AV → List Ent → Prop} (ok : (Region.lexB .any ops && ops.toList.all fun o => !Nat.beq (kind P o.op) 1) = true) (next : execQ P ops ops.toList s H fun s' => K .normal s' H) : DrawN P ops s H K :=
 .quiet (by rw [Bool.and_eq_true] at ok; exact ok.1) next
def condK (c : Operand) (s : List AV) (A B : List AV → Prop) : Prop :=
 match c with
 | .tmp t => match nth s t with
  | .c (.v (.bool b)) => brd b (setK s t (.c (.v (.bool true))) A) (setK s t (.c (.v (.bool false))) B)
  | _ => False
 | .const (.bool b) => brd b (A s) (B s)
 | _ => False
def seqK (E : List AV → List Ent → (Ex → List AV → List Ent → Prop) → Prop) (K : Ex → List AV → List Ent → Prop) (e : Ex) (s : List AV) (H : List Ent) : Prop :=
 match e with
 | .normal => E s H K
 | .exit n => K (.exit n) s H
 | .ret => K .ret s H
 | .pan c => K (.pan c) s H
def blockK (id : Nat) (K : Ex → List AV → List Ent → Prop) (e : Ex) (s : List AV) (H : List Ent) : Prop :=
 match e with
 | .normal => K .normal s H
 | .exit n => bif Nat.beq n id then K .normal s H else K (.exit n) s H
 | .ret => K .ret s H
 | .pan c => K (.pan c) s H
def regionK (P : Program) (ops : Array Oper) (draw : Bool) (s : List AV) (H : List Ent) (K : Ex → List AV → List Ent → Prop) : Prop :=
 match draw with
 | false => execOps P ops ops.toList s H K
 | true => DrawN P ops s H K
def exec (P : Program) (c : Code) : List AV → List Ent → (Ex → List AV → List Ent → Prop) → Prop :=
 Code.rec (motive := fun _ => List AV → List Ent → (Ex → List AV → List Ent → Prop) → Prop)
  (fun s H K => K .normal s H)
  (fun _ ops draw s H K => regionK P ops draw s H K)
  (fun _ _ ia ib s H K => ia s H (seqK ib K))
  (fun c _ _ ia ib s H K => condK c s (fun s => ia s H K) (fun s => ib s H K))
  (fun id _ ib s H K => ib s H (blockK id K))
  (fun _ ib s H K => LoopN ib s H K)
  (fun _ _ _ _ _ _ _ _ _ => False)
  (fun id s H K => K (.exit id) s H)
  (fun _ _ _ _ _ => False)
  (fun _ s H K => K .normal s H)
  (fun _ _ _ _ => False)
  (fun s H K => K .ret s H)
  (fun _ _ _ _ => False)
  c
def initK (n : Nat) (args : List AV) (K : List AV → Prop) : Prop :=
 match n, args with
 | 0, _ => K []
 | n + 1, [] => initK n [] fun s => K (.c .any :: s)
 | n + 1, x :: xs => initK n xs fun s => K (x :: s)
def resOne (P : Program) (r : ResultVar) (s : List AV) (H : List Ent) (K : AV → Prop) : Prop :=
 match r with
 | .tmp t => forceA (nth s t) K
 | .cell a T => match nth s a with
  | .c (.lp i off) => loadL P T (nthE H i) off K
  | _ => False
def resAll (P : Program) (s : List AV) (H : List Ent) (rs : List ResultVar) : (List AV → Prop) → Prop :=
 List.rec (motive := fun _ => (List AV → Prop) → Prop)
  (fun K => K [])
  (fun r _ ih K => resOne P r s H fun av => ih fun xs => K (av :: xs)) rs
def plainS : List AV → Option (List Value)
 | [] => some []
 | .c (.v x) :: l => match plainS l with | some xs => some (x :: xs) | none => none
 | _ :: _ => none
def resK (P : Program) (rs : List ResultVar) (s : List AV) (H : List Ent) (K : Out → Prop) : Prop :=
 match rs with
 | [r] => resOne P r s H fun av => K (.val av)
 | rs => resAll P s H rs fun l => match plainS l with
  | some xs => K (.val (.c (.v (.tuple xs.toArray))))
  | none => K (.vals l)
def endK (P : Program) (rs : List ResultVar) (K : Out → List Ent → Prop) (e : Ex) (s : List AV) (H : List Ent) : Prop :=
 match e with
 | .normal => resK P rs s H fun out => K out H
 | .ret => resK P rs s H fun out => K out H
 | .exit _ => False
 | .pan c => K (.pan c) H
theorem setK_spec : ∀ {s : List AV} {i : Nat} {v : AV} {K : List AV → Prop}, setK s i v K → i < s.length ∧ K (s.set i v)
 | [], _, _, _, h => h.elim
 | _ :: _, 0, _, _, h => ⟨by simp, h⟩
 | _ :: s, i + 1, v, K, h => by
  have := setK_spec (s := s) (i := i) h
  exact ⟨by simp [this.1], by simpa using this.2⟩
theorem RelS_len {ρ : List Loc} : ∀ {cs : List AV} {xs : List Value}, RelS ρ cs xs → cs.length = xs.length
 | [], [], _ => rfl
 | _ :: _, _ :: _, h => by simp [RelS_len h.2]
 | [], _ :: _, h => h.elim
 | _ :: _, [], h => h.elim
theorem RelS_set {ρ : List Loc} : ∀ {s : List AV} {xs : List Value} {i : Nat} {av : AV} {v : Value}, RelS ρ s xs → av.rel ρ v → RelS ρ (s.set i av) (xs.set i v)
 | [], [], _, _, _, _, _ => by simp [RelS]
 | _ :: _, _ :: _, 0, _, _, h, k => ⟨k, h.2⟩
 | _ :: _, _ :: _, i + 1, _, _, h, k => ⟨h.1, RelS_set h.2 k⟩
 | [], _ :: _, _, _, _, h, _ => h.elim
 | _ :: _, [], _, _, _, h, _ => h.elim
theorem nth_get {ρ : List Loc} : ∀ {s : List AV} {xs : List Value} {d : Nat} {x : Value}, RelS ρ s xs → nth s d = .c (.v x) → xs[d]? = some x
 | [], [], _, _, _, h => by simp [nth] at h
 | _ :: _, _ :: _, 0, _, r, h => by
  simp only [nth] at h
  have h1 := r.1
  rw [h] at h1
  have : _ = _ := h1
  simp [this]
 | _ :: _, _ :: _, d + 1, _, r, h => by
  simp only [nth] at h
  simpa using nth_get r.2 h
 | [], _ :: _, _, _, r, _ => r.elim
 | _ :: _, [], _, _, r, _ => r.elim
theorem set_same : ∀ {xs : List Value} {d : Nat} {x : Value}, xs[d]? = some x → xs.set d x = xs
 | [], _, _, h => by simp at h
 | _ :: _, 0, _, h => by simp at h; simp [h]
 | _ :: xs, d + 1, x, h => by simp at h; simp [set_same (xs := xs) h]
theorem putK_spec {s : List AV} {d : Option Nat} {av : AV} {K : List AV → Prop} (h : putK s d av K) :
  ∃ s', K s' ∧ ∀ (ρ : List Loc) (a : Act) (v : Value), RelS ρ s a.tmps.toList → av.rel ρ v → RelS ρ s' (a.put d v).tmps.toList := by
 cases d with
 | none => exact ⟨s, h, fun ρ a v hr _ => hr⟩
 | some d =>
  obtain ⟨_, h⟩ := setK_spec h
  exact ⟨_, h, fun ρ a v hr hv => by simpa [Act.put, Array.toList_setIfInBounds] using RelS_set (i := d) hr hv⟩
theorem put_defers (a : Act) (d : Option Nat) (v : Value) : (a.put d v).defers = a.defers := by cases d <;> rfl
theorem wantK_spec {ops : Array Oper} {o : Oper} {s : List AV} {A B : List AV → Prop} (h : wantK ops o s A B) {ρ : List Loc} {a : Act} (hr : RelS ρ s a.tmps.toList) :
  (Region.wanted o (yielded ops a.tmps) = true ∧ ∃ s', A s' ∧ RelS ρ s' a.tmps.toList) ∨ (Region.wanted o (yielded ops a.tmps) = false ∧ ∃ s', B s' ∧ RelS ρ s' a.tmps.toList) := by
 unfold wantK at h
 split at h
 ·rename_i hg
  exact .inl ⟨by simp [Region.wanted, hg], s, h, hr⟩
 ·rename_i j want hg
  split at h
  ·exact h.elim
  ·rename_i d hd
   split at h
   ·rename_i b hb
    have hx := nth_get hr hb
    have hy : yielded ops a.tmps j = some b := by
     have : a.tmps[d]? = some (.bool b) := by simpa using hx
     simp [yielded, hd, this]
    have hset : ∀ t, b = t → RelS ρ (s.set d (.c (.v (.bool t)))) a.tmps.toList := fun t ht => by
     have := RelS_set (i := d) hr (av := .c (.v (.bool t))) (v := .bool t) rfl
     rw [set_same (by rw [hx, ht])] at this
     exact this
    have hw : Region.wanted o (yielded ops a.tmps) = (b == want) := by
     simp only [Region.wanted, hg, hy]
     cases b <;> cases want <;> rfl
    rw [hw]
    cases b
    ·have h1 := (setK_spec (brd_false h rfl)).2
     cases want
     ·exact .inl ⟨rfl, _, h1, hset _ rfl⟩
     ·exact .inr ⟨rfl, _, h1, hset _ rfl⟩
    ·have h1 := (setK_spec (brd_true h rfl)).2
     cases want
     ·exact .inr ⟨rfl, _, h1, hset _ rfl⟩
     ·exact .inl ⟨rfl, _, h1, hset _ rfl⟩
   ·rename_i q hq
    have hx := nth_get hr hq
    have hy : yielded ops a.tmps j = none := by
     have : a.tmps[d]? = some (.tuple q) := by simpa using hx
     simp [yielded, hd, this]
    exact .inr ⟨by simp only [Region.wanted, hg, hy]; rfl, s, h, hr⟩
   ·exact h.elim
theorem pvs_rel (ρ : List Loc) : ∀ xs : List Value, RelS ρ (pvs xs) xs
 | [] => trivial
 | _ :: xs => ⟨rfl, pvs_rel ρ xs⟩
theorem opvs_rel {ρ : List Loc} {s : List AV} {a : Act} (h : RelS ρ s a.tmps.toList) : ∀ l : List Operand, RelS ρ (opvs s l) (l.map a.eval)
 | [] => trivial
 | x :: l => ⟨opv_rel h x, opvs_rel h l⟩
theorem RelS_append {ρ : List Loc} : ∀ {cs ds : List AV} {xs ys : List Value}, RelS ρ cs xs → RelS ρ ds ys → RelS ρ (cs ++ ds) (xs ++ ys)
 | [], _, [], _, _, h => by simpa using h
 | _ :: _, _, _ :: _, _, h, k => ⟨h.1, RelS_append h.2 k⟩
 | [], _, _ :: _, _, h, _ => h.elim
 | _ :: _, _, [], _, h, _ => h.elim
theorem callK_spec {P : Program} {o : Oper} {s : List AV} {K : FuncId → List AV → Prop} (h : callK P s o.op K) :
  ∃ f args, K f args ∧ ∀ (ρ : List Loc) (w : World) (a : Act), CallOk P f → RelS ρ s a.tmps.toList → ∃ vs, RelS ρ args vs ∧ (execOp a.eval o).run P w = .ok (.enter f vs.toArray) w := by
 unfold callK at h
 split at h
 ·rename_i f args ts ho
  split at h
  ·rename_i g first cap hf
   refine ⟨_, _, h, fun ρ w a hok hr => ?_⟩
   have hfr := opv_rel hr f
   rw [hf] at hfr
   have hfe : a.eval f = .func (.func g) first cap := hfr
   refine ⟨first.toList ++ args.toList.map a.eval ++ cap.toList, RelS_append (RelS_append (pvs_rel ρ _) (opvs_rel hr _)) (pvs_rel ρ _), ?_⟩
   obtain ⟨fn, h1, h2, h3⟩ := hok
   unfold execOp
   have hb : fn.body.isNone = false := by cases hfn : fn.body <;> simp_all
   simp only [ho, resolve, hfe, Deferred.ofValue, invoke, callFunc, Sem.run_bind, Sem.run_pure, Result.andThen_ok, run_program, h1, h2, hb, Bool.false_eq_true, if_false]
   congr 2
   apply Array.ext'
   simp
  ·exact h.elim
 ·rename_i r name args ts ho
  split at h
  ·rename_i t v hf
   obtain ⟨f, recv, hrun, h⟩ := h
   refine ⟨_, _, h, fun ρ w a hok hr => ?_⟩
   have hfr := opv_rel hr r
   rw [hf] at hfr
   have hfe : a.eval r = .iface t v := hfr
   refine ⟨recv :: args.toList.map a.eval, ⟨rfl, opvs_rel hr _⟩, ?_⟩
   obtain ⟨fn, h1, h2, h3⟩ := hok
   unfold execOp
   have hb : fn.body.isNone = false := by cases hfn : fn.body <;> simp_all
   have ha : (#[Value.iface t v] ++ args.map a.eval)[0]? = some (.iface t v) := by rw [Array.getElem?_append_left (by simp)]; rfl
   simp only [ho, resolve, hfe, invoke, callMethod, ha, Sem.run_bind, Sem.run_pure, Result.andThen_ok, run_program, hrun, callFunc, h1, h2, hb, Bool.false_eq_true, if_false]
   congr 2
   apply Array.ext'
   simp
   rw [List.take_of_length_le (by simp)]
  ·exact h.elim
 ·exact h.elim
theorem step_sound {P : Program} {o : Oper} {s : List AV} {H : List Ent} {K : Out → List Ent → Prop} (h : stepK P o s H K) {ρ : List Loc} {S : Nat → Prop} {w : World} {a : Act} (hs : Sat ρ S H w) (hr : RelS ρ s a.tmps.toList)
  {next : Act → World → Prop} {Q : Exit → Act → World → Prop}
  (hv : ∀ ρ' S' H' w' av v, Sat ρ' S' H' w' → Ev ρ S H w ρ' S' H' w' → av.rel ρ' v → K (.val av) H' → next (a.put o.dst v) w')
  (hp : ∀ ρ' S' H' w' c, Sat ρ' S' H' w' → Ev ρ S H w ρ' S' H' w' → K (.pan c) H' → Q (.panic c) a w') (hn : ∀ l H', ¬ K (.vals l) H') : o.wp P a w next Q := by
 unfold stepK at h
 split at h
 ·obtain ⟨av, hK, hrd⟩ := read_sound h
  obtain ⟨v, hrun, hrel⟩ := hrd ρ S w a hs hr
  unfold Oper.wp
  rw [hrun]
  exact hv ρ S H w av v hs (Ev.refl _ _ _ _) hrel hK
 ·obtain ⟨av, H', hK, r, v, ρ', w', hrun, hrv, hs', hev, hrel⟩ := eff_sound h ρ S w a hs hr
  unfold Oper.wp
  rw [hrun]
  rcases hrv with rfl | ⟨rfl, rfl⟩
  ·exact hv ρ' S H' w' av v hs' hev hrel hK
  ·exact hv ρ' S H' w' av _ hs' hev hrel hK
 ·unfold panK at h
  split at h
  ·rename_i x ho
   split at h
   ·rename_i t v hf
    have hxr := opv_rel hr x
    rw [hf] at hxr
    have hxe : a.eval x = .iface t v := hxr
    have hrun : (execOp a.eval o).run P w = .halt (.panic (.iface t v)) w := by
     unfold execOp
     simp only [ho, hxe]
     rfl
    unfold Oper.wp
    rw [hrun]
    exact hp ρ S H w _ hs (Ev.refl _ _ _ _) h
   ·exact h.elim
  ·exact h.elim
 ·obtain ⟨f, args, hspec, hcall⟩ := callK_spec (P := P) h
  obtain ⟨vs, hvs, hrun⟩ := hcall ρ w a hspec.ok hr
  unfold Oper.wp
  rw [hrun]
  refine (hspec.run ρ S w vs hs hvs).mono fun e w' ⟨ρ', S', H', out, hs', hev, hout, hK⟩ => ?_
  cases out with
  | val av =>
   obtain ⟨v, rfl, hrel⟩ := hout
   exact hv ρ' S' H' w' av v hs' hev hrel hK
  | vals l => exact absurd hK (hn l H')
  | pan c =>
   have : e = .panicked c := hout
   subst this
   exact hp ρ' S' H' w' c hs' hev hK
theorem Post.from {ρ ρ1 : List Loc} {S S1 : Nat → Prop} {H H1 : List Ent} {w w1 : World} {dfs : List Deferred} {K : Ex → List AV → List Ent → Prop} {e : Exit} {a' : Act} {w' : World}
  (hev : Ev ρ S H w ρ1 S1 H1 w1) (h : Post ρ1 S1 H1 w1 dfs K e a' w') : Post ρ S H w dfs K e a' w' := by
 obtain ⟨ρ', S', s', H', ex, h1, h2, h3, h4, h5, h6⟩ := h
 exact ⟨ρ', S', s', H', ex, h1, hev.trans h2, h3, h4, h5, h6⟩
theorem wpList_mono {P : Program} {ops : Array Oper} {Q Q' : Exit → Act → World → Prop} (hq : ∀ e a w, Q e a w → Q' e a w) : ∀ (l : List Oper) (a : Act) (w : World), wpList P ops Q l a w → wpList P ops Q' l a w
 | [], a, w, h => hq _ _ _ h
 | o :: l, a, w, h => by
  unfold wpList at h ⊢
  split at h
  ·rename_i hw
   rw [if_pos hw]
   rcases h with h | ⟨h1, a0, w0, h2⟩
   ·refine .inl ?_
    have h2 := Oper.wp_mono (K' := wpList P ops Q' l) (fun a w => wpList_mono hq l a w) h
    revert h2
    unfold Oper.wp
    generalize (execOp a.eval o).run P w = r
    intro h2
    cases r with
    | ok n w' =>
     cases n <;> simp only [Oper.upon] at h2 ⊢ <;> first
      | exact h2
      | exact h2.mono fun e w'' he => (by
        cases e with
        | returned v => exact he
        | panicked c => exact hq _ _ _ he
        | outgrown => obtain ⟨a0, w0, h0⟩ := he; exact ⟨a0, w0, hq _ _ _ h0⟩)
    | halt x w' => cases x <;> simp only [Oper.upon] at h2 ⊢ <;> exact hq _ _ _ h2
   ·exact .inr ⟨h1, a0, w0, hq _ _ _ h2⟩
  ·rename_i hw
   rw [if_neg hw]
   exact wpList_mono hq l _ _ h
theorem execOps_sound {P : Program} {ops : Array Oper} {K : Ex → List AV → List Ent → Prop} : ∀ (l : List Oper) (s : List AV) (H : List Ent), execOps P ops l s H K →
  ∀ (ρ : List Loc) (S : Nat → Prop) (w : World) (a : Act), Sat ρ S H w → RelS ρ s a.tmps.toList → wpList P ops (Post ρ S H w a.defers K) l a w
 | [], s, H, h, ρ, S, w, a, hs, hr => ⟨ρ, S, s, H, .normal, hs, Ev.refl _ _ _ _, hr, rfl, trivial, h⟩
 | o :: l, s, H, h, ρ, S, w, a, hs, hr => by
  rw [execOps_cons] at h
  unfold wpList
  rcases wantK_spec h hr with ⟨hw, s', h', hr'⟩ | ⟨hw, s', h', hr'⟩
  ·rw [if_pos hw]
   refine .inl (step_sound h' hs hr' (fun ρ1 S1 H1 w1 av v hs1 hev hrel hK => ?_) (fun ρ1 S1 H1 w1 c hs1 hev hK => ?_) fun _ _ h => h)
   ·obtain ⟨s2, hK2, hput⟩ := putK_spec hK
    have hrs : RelS ρ1 s' a.tmps.toList := by obtain ⟨t, ht⟩ := hev.pre; rw [ht]; exact RelS_pre t hr'
    have ih := execOps_sound l s2 H1 hK2 ρ1 S1 w1 (a.put o.dst v) hs1 (hput ρ1 a v hrs hrel)
    rw [put_defers] at ih
    exact wpList_mono (fun e a' w' hq => hq.from hev) l _ _ ih
   ·exact ⟨ρ1, S1, s', H1, .pan c, hs1, hev, trivial, rfl, rfl, hK⟩
  ·rw [if_neg (by simp [hw])]
   obtain ⟨s2, hK2, hput⟩ := putK_spec h'
   have ih := execOps_sound l s2 H hK2 ρ S w (a.put o.dst undef) hs (hput ρ a undef hr' rfl)
   rw [put_defers] at ih
   exact ih
theorem Sat.heap {ρ : List Loc} {S : Nat → Prop} {H : List Ent} {w w' : World} (h : Sat ρ S H w) (hh : w'.heap = w.heap) : Sat ρ S H w' :=
 ⟨h.len, fun i e he => by
  have := (h.ent i e he).move (w' := w') [] (fun _ _ => by rw [hh]) (fun b _ => by rw [hh])
  simpa using this, h.inj, h.out, fun b hb => by rw [hh]; exact h.low b hb⟩
theorem Ev.drew (ρ : List Loc) (S : Nat → Prop) (H : List Ent) (w : World) : Ev ρ S H w ρ S H { w with drawn := w.drawn + 1 } :=
 ⟨⟨[], by simp⟩, rfl, rfl, rfl, Nat.le_refl _, fun _ _ _ => rfl, fun _ h => .inl h, fun _ h => .inl h⟩
def Cls (ρ : List Loc) (S : Nat → Prop) (H : List Ent) (w w' : World) : Prop := ∃ S', Sat ρ S' H w' ∧ Ev ρ S H w ρ S' H w'
theorem detCs_uniq {ρ : List Loc} : ∀ {cs : List CV} {xs ys : List Value}, detCs cs = true → RelL ρ cs xs → RelL ρ cs ys → xs = ys
 | [], [], [], _, _, _ => rfl
 | c :: cs, x :: xs, y :: ys, h, r, q => by
  have key : detCs cs = true ∧ x = y := by
   cases c with
   | any => simp [detCs] at h
   | v z => exact ⟨h, (show x = z from r.1).trans (show y = z from q.1).symm⟩
   | lp i off =>
    obtain ⟨l, hl, hx⟩ := r.1
    obtain ⟨l', hl', hy⟩ := q.1
    have : l' = l := Option.some.inj (hl'.symm.trans hl)
    subst this
    exact ⟨h, hx.trans hy.symm⟩
   | sl i n =>
    obtain ⟨l, hl, hx⟩ := r.1
    obtain ⟨l', hl', hy⟩ := q.1
    have : l' = l := Option.some.inj (hl'.symm.trans hl)
    subst this
    exact ⟨h, hx.trans hy.symm⟩
  rw [key.2, detCs_uniq key.1 r.2 q.2]
 | [], _ :: _, _, _, r, _ => r.elim
 | _ :: _, [], _, _, r, _ => r.elim
 | [], [], _ :: _, _, _, q => q.elim
 | _ :: _, _ :: _, [], _, _, q => q.elim
theorem detA_uniq {ρ : List Loc} {av : AV} {x y : Value} (h : detA av = true) (r : av.rel ρ x) (q : av.rel ρ y) : x = y := by
 cases av with
 | agg cs =>
  obtain ⟨xs, rfl, hx⟩ := r
  obtain ⟨ys, rfl, hy⟩ := q
  rw [detCs_uniq h hx hy]
 | c c =>
  have : ∀ z w : Value, RelL ρ [c] [z] → RelL ρ [c] [w] → detCs [c] = true → z = w := fun z w h1 h2 h3 => by
   have := detCs_uniq h3 h1 h2; simpa using this
  refine this x y ⟨r, trivial⟩ ⟨q, trivial⟩ ?_
  cases c <;> first | rfl | cases h
theorem stepQ_sound {P : Program} {o : Oper} {s : List AV} {H : List Ent} {K : AV → Prop} (h : stepQ P o s H K) {ρ : List Loc} {S : Nat → Prop} {w : World} {a : Act} (hr : RelS ρ s a.tmps.toList) (h0 : ∃ w', Cls ρ S H w w') :
  ∃ av v, K av ∧ av.rel ρ v ∧ ∀ w', Cls ρ S H w w' → o.quietAt P a (Cls ρ S H w) w' v := by
 unfold stepQ at h
 split at h
 ·obtain ⟨av, hK, hrd⟩ := read_sound h
  split at hK
  ·rename_i hd
   obtain ⟨w0, S0, hs0, _⟩ := h0
   obtain ⟨v, _, hrel⟩ := hrd ρ S0 w0 a hs0 hr
   refine ⟨av, v, hK, hrel, fun w' ⟨S', hs', _⟩ => ?_⟩
   obtain ⟨v', hrun, hrel'⟩ := hrd ρ S' w' a hs' hr
   have := detA_uniq hd hrel hrel'
   subst this
   unfold Oper.quietAt
   rw [hrun]
   exact ⟨rfl, rfl⟩
  ·exact hK.elim
 ·obtain ⟨f, args, hq, hcall⟩ := callK_spec (P := P) h
  obtain ⟨x, hspec, hK⟩ := hq
  rw [forceV_eq] at hK
  refine ⟨_, x, hK, rfl, fun w' ⟨S', hs', hev'⟩ => ?_⟩
  obtain ⟨vs, hvs, hrun⟩ := hcall ρ w' a hspec.ok hr
  unfold Oper.quietAt
  rw [hrun]
  refine ⟨rfl, (hspec.run ρ S' w' vs hs' hvs).mono fun e w'' ⟨ρ2, S2, H2, out, hs2, hev2, hout, ho, hH⟩ => ?_⟩
  subst ho; subst hH
  obtain ⟨v, rfl, hrel⟩ := hout
  have hvx : v = x := hrel
  subst hvx
  have hρ : ρ2 = ρ := by
   obtain ⟨t, ht⟩ := hev2.pre
   have h1 := hs2.len
   have h2 := hs'.len
   have : t = [] := by
    apply List.eq_nil_of_length_eq_zero
    rw [ht] at h1; simp at h1; omega
   rw [ht, this, List.append_nil]
  subst hρ
  exact ⟨rfl, S2, hs2, hev'.trans hev2⟩
 ·exact h.elim
theorem execQ_sound {P : Program} {ops : Array Oper} {H : List Ent} {K : List AV → Prop} {ρ : List Loc} {S : Nat → Prop} {w : World} (h0 : ∃ w', Cls ρ S H w w') : ∀ (l : List Oper) (s : List AV), execQ P ops l s H K →
  ∀ (a : Act), RelS ρ s a.tmps.toList → wpQuiet P ops (Cls ρ S H w) (fun a' => ∃ s', K s' ∧ RelS ρ s' a'.tmps.toList ∧ a'.defers = a.defers) l a
 | [], s, h, a, hr => ⟨s, h, hr, rfl⟩
 | o :: l, s, h, a, hr => by
  rw [execQ_cons] at h
  unfold wpQuiet
  rcases wantK_spec h hr with ⟨hw, s', h', hr'⟩ | ⟨hw, s', h', hr'⟩
  ·rw [if_pos hw]
   obtain ⟨av, v, hK, hrel, hq⟩ := stepQ_sound h' hr' h0
   obtain ⟨s2, hK2, hput⟩ := putK_spec hK
   have ih := execQ_sound h0 l s2 hK2 (a.put o.dst v) (hput ρ a v hr' hrel)
   rw [put_defers] at ih
   exact ⟨v, hq, ih⟩
  ·rw [if_neg (by simp [hw])]
   obtain ⟨s2, hK2, hput⟩ := putK_spec h'
   have ih := execQ_sound h0 l s2 hK2 (a.put o.dst undef) (hput ρ a undef hr' rfl)
   rw [put_defers] at ih
   exact ih
theorem nthO_eq : ∀ (l : List Oper) (i : Nat), nthO l i = l[i]?
 | [], _ => by simp [nthO]
 | _ :: _, 0 => by simp [nthO]
 | _ :: l, i + 1 => by simp [nthO, nthO_eq l i]
theorem pickK_spec {ops : Array Oper} {k : Nat} {F : Oper → Prop} (h : pickK ops k F) : ∃ o, ops[k]? = some o ∧ F o := by
 unfold pickK at h
 rw [nthO_eq, Array.getElem?_toList] at h
 split at h
 ·rename_i o ho; exact ⟨o, ho, h⟩
 ·exact h.elim
theorem gen_blind {P : Program} {o : Oper} {s : List AV} {K : AV → Prop} (h : genK P o s K) {ρ : List Loc} {a : Act} (hr : RelS ρ s a.tmps.toList) : ∃ av v, K av ∧ av.rel ρ v ∧ ∀ w, (execOp a.eval o).run P w = .ok (.value v) w := by
 unfold genK at h
 split at h
 ·exact h.elim
 ·rename_i hsel
  split at h
  ·rename_i hp
   split at h
   ·rename_i v hv
    rw [forceV_eq] at h
    refine ⟨_, v, h, rfl, fun w => ?_⟩
    rw [execOp_congr o (fun cs b e => hsel cs b e) (ρ' := plainEv s) fun x hx => allPlain_eval hr _ hp x (Array.mem_toList_iff.2 hx)]
    exact pureRun_run P _ _ hv w
   ·exact h.elim
  ·exact h.elim
theorem blind_sound {P : Program} {o : Oper} {s : List AV} {K : AV → Prop} (h : blindK P o s K) {ρ : List Loc} {a : Act} (hr : RelS ρ s a.tmps.toList) : ∃ av v, K av ∧ av.rel ρ v ∧ ∀ w, (execOp a.eval o).run P w = .ok (.value v) w := by
 unfold blindK at h
 split at h
 ·rename_i x ho
  rw [forceA_eq] at h
  exact ⟨_, _, h, opv_rel hr x, fun w => by unfold execOp; rw [ho]; rfl⟩
 ·rename_i x ho
  have hk : K (opv s x) := by
   unfold asgK at h
   split at h
   ·rw [forceA_eq] at h; exact h
   ·split at h
    ·rename_i hx
     obtain ⟨h⟩ := h
     rw [hx]; exact h
    ·rw [forceA_eq] at h; exact h
  exact ⟨_, _, hk, opv_rel hr x, fun w => by unfold execOp; rw [ho]; rfl⟩
 ·rename_i T x f ho
  have fin : ∀ (p : Addr) (fo : Nat) (w : World) (ev : Operand → Value), ev x = .pointer (some p) → fieldOff P T f = some fo → (execOp ev o).run P w = .ok (.value (.pointer (some (p.add fo)))) w := fun p fo w ev hx hfo => by
   unfold execOp
   simp only [ho, hx, Sem.run_bind, fieldOff_spec hfo w p, Result.andThen_ok, Sem.run_pure]
  have hxr := opv_rel hr x
  split at h
  ·rename_i i off hx
   split at h
   ·rename_i fo hfo
    rw [forceN_eq] at h
    rw [hx] at hxr
    obtain ⟨l, hl, he⟩ := hxr
    exact ⟨_, _, h, ⟨l, hl, rfl⟩, fun w => by rw [fin _ fo w _ he hfo, add_lit]⟩
   ·exact h.elim
  ·rename_i p hx
   split at h
   ·rename_i fo hfo
    rw [forceN_eq] at h
    rw [hx] at hxr
    exact ⟨_, _, h, rfl, fun w => fin p fo w _ hxr hfo⟩
   ·exact h.elim
  ·exact h.elim
 ·rename_i ho
  obtain ⟨x, hp, hrun, hk⟩ := h
  refine ⟨_, x, hk, rfl, fun w => ?_⟩
  rw [execOp_congr o (fun cs b e => by rw [ho] at e; cases e) (ρ' := plainEv s) fun x hx => allPlain_eval hr _ hp x (Array.mem_toList_iff.2 hx)]
  exact hrun w
 ·rename_i ho
  obtain ⟨x, hp, hrun, hk⟩ := h
  refine ⟨_, x, hk, rfl, fun w => ?_⟩
  rw [execOp_congr o (fun cs b e => by rw [ho] at e; cases e) (ρ' := plainEv s) fun x hx => allPlain_eval hr _ hp x (Array.mem_toList_iff.2 hx)]
  exact hrun w
 ·rename_i x ho
  split at h
  ·rename_i i off hx
   have hxr := opv_rel hr x
   rw [hx] at hxr
   obtain ⟨l, hl, he⟩ := hxr
   exact ⟨_, _, h, ⟨l, hl, rfl⟩, fun w => by unfold execOp; simp [ho, he]⟩
  ·exact gen_blind h hr
 ·exact gen_blind h hr
theorem Post.put {ρ : List Loc} {S : Nat → Prop} {H : List Ent} {w : World} {dfs : List Deferred} {K : Ex → List AV → List Ent → Prop} {c : List PanicEntry} {a : Act} {d : Option Nat} {v : Value} {w' : World} (h : Post ρ S H w dfs K (.panic c) (a.put d v) w') : Post ρ S H w dfs K (.panic c) a w' := by
 obtain ⟨ρ', S', s', H', ex, h1, h2, h3, h4, h5, h6⟩ := h
 cases ex with
 | pan c' => exact ⟨ρ', S', s', H', .pan c', h1, h2, trivial, by rw [put_defers] at h4; exact h4, h5, h6⟩
 | normal => exact h5.elim
 | ret => exact h5.elim
 | exit n => exact h5.elim
theorem take_blind {P : Program} {ops : Array Oper} {md : Region.Mode} {k : Nat} {o : Oper} {s : List AV} {ls : Array Bool} {fuel : Nat} {a : Act} {w : World} {Q : Exit → Act → World → Prop} {A B : List AV → Prop} (ho : ops[k]? = some o) (hsel : Region.noSelect ops = true) (hr1 : (Region.ready md ops ls).contains k = true) (hf : Region.free md ops ls k = true)
  (hQ : ∀ c a v w, Q (.panic c) (a.put o.dst v) w → Q (.panic c) a w) {ρ : List Loc} (hr : RelS ρ s a.tmps.toList)
  (h : wantK ops o s A B) (hA : ∀ s, A s → RelS ρ s a.tmps.toList → ∃ (av : AV) (v : Value), av.rel ρ v ∧ (∀ w, (execOp a.eval o).run P w = .ok (.value v) w) ∧ wpAny P md ops Q fuel (ls.setIfInBounds k true) (a.put o.dst v) w)
  (hB : ∀ s, B s → RelS ρ s a.tmps.toList → wpAny P md ops Q fuel (ls.setIfInBounds k true) (a.put o.dst undef) w) : wpAny P md ops Q (fuel + 1) ls a w := by
 rcases wantK_spec h hr with ⟨hw, s', h', hr'⟩ | ⟨hw, s', h', hr'⟩
 ·obtain ⟨av, v, _, hrun, hn⟩ := hA s' h' hr'
  exact wpAny_take ho hsel hf hr1 (fun c a w => hQ c a v w) (.inl ⟨hw, hrun⟩) hn
 ·exact wpAny_take ho hsel hf hr1 (fun c a w => hQ c a undef w) (.inr ⟨hw, rfl⟩) (hB s' h' hr')
theorem execB_sound {P : Program} {ops : Array Oper} {md : Region.Mode} {K : List AV → Prop} {Q : Exit → Act → World → Prop} {ρ : List Loc} {w : World} {g : Nat} (hsel : Region.noSelect ops = true) (hQ : ∀ c a d v w, Q (.panic c) (Act.put a d v) w → Q (.panic c) a w) {dfs : List Deferred} {ls2 : Array Bool}
  (next : ∀ s a, K s → RelS ρ s a.tmps.toList → a.defers = dfs → wpAny P md ops Q g ls2 a w) : ∀ (l : List Nat) (s : List AV) (ls : Array Bool) (a : Act), execB P ops l s K → preB md ops l ls = true → setAll ls l = ls2 → RelS ρ s a.tmps.toList → a.defers = dfs →
   wpAny P md ops Q (l.length + g) ls a w
 | [], s, ls, a, h, _, he, hr, hd => by
  have he' : ls = ls2 := he
  subst he'
  rw [List.length_nil, Nat.zero_add]; exact next s a h hr hd
 | k :: l, s, ls, a, h0, hB, he, hr, hd => by
  have h : pickK ops k fun o => wantK ops o s (fun s => blindK P o s fun av => putK s o.dst av fun s' => execB P ops l s' K) (fun s => putK s o.dst (.c (.v undef)) fun s' => execB P ops l s' K) := h0
  obtain ⟨o, ho, h⟩ := pickK_spec h
  simp only [preB, Bool.and_eq_true] at hB
  rw [List.length_cons, Nat.add_right_comm]
  refine take_blind ho hsel hB.1.1 hB.1.2 (fun c a v w => hQ c a o.dst v w) hr h (fun s' hA hr' => ?_) fun s' hB' hr' => ?_
  ·obtain ⟨av, v, hK, hrel, hrun⟩ := blind_sound hA hr'
   obtain ⟨s2, hK2, hput⟩ := putK_spec hK
   exact ⟨av, v, hrel, hrun, execB_sound hsel hQ next l s2 _ _ hK2 hB.2 he (hput ρ a v hr' hrel) (by rw [put_defers]; exact hd)⟩
  ·obtain ⟨s2, hK2, hput⟩ := putK_spec hB'
   exact execB_sound hsel hQ next l s2 _ _ hK2 hB.2 he (hput ρ a undef hr' rfl) (by rw [put_defers]; exact hd)
end Go.AX
