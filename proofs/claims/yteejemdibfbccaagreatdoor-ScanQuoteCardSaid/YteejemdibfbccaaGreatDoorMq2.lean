/-
  Lemmas (Ax8 Ax9 Ax10).
-/
import Derived.Deep.Quiet
import Derived.StillTail
import Derived.Test.YteejemdibfbccaaGreatDoorMq1
/-
  AX, eighth text: the executor over code.
-/
namespace Go.AX

/-- Function f of the program can be entered. -/
def CallOk (P : Program) (f : FuncId) : Prop := ∃ fn, P.funcs[f]? = some fn ∧ (fn.name == "runtime.NumGoroutine") = false ∧ fn.body.isSome = true

def OutOk (ρ : List Loc) : Out → Ending → Prop
  | .val av, e => ∃ v, e = .returned v ∧ av.rel ρ v
  | .vals l, e => ∃ xs : List Value, e = .returned (.tuple xs.toArray) ∧ RelS ρ l xs
  | .pan chain, e => e = .panicked chain

/-- What a call does, said of abstract states. -/
structure SpecH (P : Program) (f : FuncId) (args : List AV) (H : List Ent) (K : Out → List Ent → Prop) : Prop where
  ok : CallOk P f
  run : ∀ (ρ : List Loc) (S : Nat → Prop) (w : World) (vs : List Value), Sat ρ S H w → RelS ρ args vs → Calls P f vs.toArray w fun e w' =>
    ∃ ρ' S' H' out, Sat ρ' S' H' w' ∧ Ev ρ S H w ρ' S' H' w' ∧ OutOk ρ' out e ∧ K out H'

theorem SpecH.mono {P : Program} {f : FuncId} {args : List AV} {H : List Ent} {K K' : Out → List Ent → Prop} (h : SpecH P f args H K) (hk : ∀ out H', K out H' → K' out H') : SpecH P f args H K' :=
  ⟨h.ok, fun ρ S w vs hs hr => (h.run ρ S w vs hs hr).mono fun _ _ ⟨ρ', S', H', out, a, b, c, d⟩ => ⟨ρ', S', H', out, a, b, c, hk _ _ d⟩⟩

/-- A call inside a region that draws its order: one value, whatever the world. -/
inductive QCall (P : Program) (f : FuncId) (args : List AV) (H : List Ent) (K : AV → Prop) : Prop where
  | intro (x : Value) (spec : SpecH P f args H fun out H' => out = .val (.c (.v x)) ∧ H' = H) (next : forceV x fun x => K (.c (.v x)))

/-! ### Weakening -/
def wkC : CV → CV → Prop
  | _, .any => True
  | c, d => c = d
def wkCs : List CV → List CV → Prop
  | [], [] => True
  | c :: cs, d :: ds => wkC c d ∧ wkCs cs ds
  | _, _ => False
def wkS : List AV → List AV → Prop
  | [], [] => True
  | a :: s, b :: t => match b with
    | .c .any => wkS s t
    | .c (.v x) => a = .c (.v x) ∧ wkS s t
    | .c (.lp i o) => a = .c (.lp i o) ∧ wkS s t
    | .c (.sl i n) => a = .c (.sl i n) ∧ wkS s t
    | .agg cs => a = .agg cs ∧ wkS s t
  | _, _ => False
def wkE : Ent → Ent → Prop
  | _, .dead => True
  | .blk T cs, .blk U ds => T = U ∧ wkCs cs ds
  | .row T a n cs, .row U b m ds => T = U ∧ a = b ∧ n = m ∧ cs = ds
  | .fact F, .fact G => ∀ w, F w → G w
  | .fz T sz n xs b cap, .fz T' sz' n' xs' b' cap' => T = T' ∧ sz = sz' ∧ n = n' ∧ xs = xs' ∧ b = b' ∧ cap = cap'
  | .fz T sz n xs b cap, .fact G => ∀ w, RowF T sz n xs b cap w → G w
  | .app T sz xs a n cap, .app T' sz' xs' a' n' cap' => (T = T' ∧ sz = sz' ∧ xs = xs' ∧ a = a' ∧ n = n' ∧ cap = cap') ∨ (xs' = [] ∧ a' = none ∧ n' = 0 ∧ cap' = 0) ∨ (T = T' ∧ sz = sz' ∧ xs' = xs.take (n' * sz) ∧ a = a' ∧ n' ≤ n ∧ cap = cap')
  | .mp b es c, .mp b' es' c' => b = b' ∧ es = es' ∧ c = c'
  | .dead, .app _ _ xs a n cap => xs = [] ∧ a = none ∧ n = 0 ∧ cap = 0
  | _, _ => False
def wkH : List Ent → List Ent → Prop
  | _, [] => True
  | e :: H, f :: G => wkE e f ∧ wkH H G
  | [], _ :: _ => False
/-- Nothing points behind the first n entries. -/
def okC (n : Nat) : CV → Prop
  | .lp i _ | .sl i _ => i < n
  | _ => True
def okCs (n : Nat) : List CV → Prop
  | [] => True
  | c :: cs => okC n c ∧ okCs n cs
def okCsB (n : Nat) : List CV → Bool
  | [] => true
  | .lp i _ :: cs => match Nat.blt i n with | true => okCsB n cs | false => false
  | .sl i _ :: cs => match Nat.blt i n with | true => okCsB n cs | false => false
  | _ :: cs => okCsB n cs
def okSB (n : Nat) : List AV → Bool
  | [] => true
  | .c (.lp i _) :: s => match Nat.blt i n with | true => okSB n s | false => false
  | .c (.sl i _) :: s => match Nat.blt i n with | true => okSB n s | false => false
  | .agg cs :: s => match okCsB n cs with | true => okSB n s | false => false
  | _ :: s => okSB n s
def okE (n : Nat) : Ent → Prop
  | .blk _ cs | .row _ _ _ cs => okCs n cs
  | _ => True
def okH (n : Nat) : List Ent → Prop
  | [] => True
  | e :: H => okE n e ∧ okH n H

def forceS : List AV → (List AV → Prop) → Prop
  | [], K => K []
  | a :: s, K => forceA a fun a => forceS s fun s => K (a :: s)
def forceH : List Ent → (List Ent → Prop) → Prop
  | [], K => K []
  | e :: H, K => forceH H fun H => K (e :: H)
/-- Slots by a short list of those that are known. -/
def mkS : Nat → Nat → List (Nat × AV) → List AV
  | 0, _, _ => []
  | n + 1, k, l => look k l :: mkS n (k + 1) l
  where
  look (k : Nat) : List (Nat × AV) → AV
    | [] => .c .any
    | (j, a) :: l => match Nat.beq j k with | true => a | false => look k l

/-- Entries that ask nothing: slices that are nil yet. -/
def padB : List Ent → Bool
  | [] => true
  | .app _ _ [] none 0 0 :: es => padB es
  | .dead :: es => padB es
  | _ :: _ => false
/-- A loop that is over after at most n rounds, round by round. -/
def LoopU (E : List AV → List Ent → (Ex → List AV → List Ent → Prop) → Prop) (K : Ex → List AV → List Ent → Prop) (n : Nat) : List AV → List Ent → Prop :=
  Nat.rec (motive := fun _ => List AV → List Ent → Prop) (fun _ _ => False)
    (fun _ ih s H => E s H fun e s' H' => match e with
      | .normal => ih s' H'
      | .exit n => K (.exit n) s' H'
      | .ret => K .ret s' H'
      | .pan c => K (.pan c) s' H') n

/-- A loop: a family of states, a measure. -/
inductive LoopN (E : List AV → List Ent → (Ex → List AV → List Ent → Prop) → Prop) (s : List AV) (H : List Ent) (K : Ex → List AV → List Ent → Prop) : Prop where
  | intro (ι : Type) (inv : ι → Prop) (sl : ι → List AV) (hp : ι → List Ent) (μ : ι → Nat) (pad : List Ent) (padok : padB pad = true)
      (len : ∀ i, (hp i).length = (H ++ pad).length) (oks : ∀ i, okSB (H ++ pad).length (sl i) = true) (okh : ∀ i, inv i → okH (H ++ pad).length (hp i))
      (start : ∃ i, inv i ∧ wkS s (sl i) ∧ wkH (H ++ pad) (hp i))
      (round : ∀ i, inv i → forceS (sl i) fun s => forceH (hp i) fun H => E s H fun e s' H' => match e with
        | .normal => ∃ j, inv j ∧ μ j < μ i ∧ wkS s' (sl j) ∧ wkH H' (hp j)
        | .exit n => K (.exit n) s' H'
        | .ret => K .ret s' H'
        | .pan c => K (.pan c) s' H')
  | unroll (n : Nat) (rounds : LoopU E K n s H)

/-! ### One operation -/
def kind (P : Program) (o : Op) : Nat :=
  match o with
  | .alloc _ | .box _ _ | .store _ _ _ | .buildSlice _ _ _ => 1
  | .makeSlice .. | .makeMap .. | .mapUpdate .. | .insert .. | .mapEntry .. | .entryStore .. | .range .. | .next .. | .entry .. => 1
  | .convert _ dst _ => match P.underlying dst with | some (.slice _) => 1 | _ => 0
  | .call { callee := .builtin b, .. } => match b with | .len | .cap | .min | .max | .unsafeSliceData => 0 | _ => 1
  | .call { callee := .value (.func f), .. } => match P.funcs[f]? with | some fn => (match fn.body with | none => 1 | some _ => 2) | none => 2
  | .call { callee := .value _, .. } => 2
  | .call { callee := .invoke .., .. } => 2
  | .panic _ => 3
  | _ => 0

/-- Plain arguments ahead of, and behind, a call's own: those that a function value holds. -/
def pvs : List Value → List AV
  | [] => []
  | x :: xs => .c (.v x) :: pvs xs
/-- The method that an interface value has. -/
inductive InvN (P : Program) (t : TypeId) (v : Value) (name : String) (K : FuncId → Value → Prop) : Prop where
  | intro (f : FuncId) (recv : Value) (run : ∀ w, (Go.method (P.types.size + Made.depth) t v name).run P w = .ok (f, recv) w) (next : K f recv)
def callK (P : Program) (s : List AV) (o : Op) (K : FuncId → List AV → Prop) : Prop :=
  match o with
  | .call { callee := .value f, args, .. } => match opv s f with
    | .c (.v (.func (.func g) first cap)) => K g (pvs first.toList ++ opvs s args.toList ++ pvs cap.toList)
    | _ => False
  | .call { callee := .invoke r name, args, .. } => match opv s r with
    | .c (.v (.iface t v)) => InvN P t v name fun f recv => K f (.c (.v recv) :: opvs s args.toList)
    | _ => False
  | _ => False

/-- A panic with a value that is not nil. -/
def panK (s : List AV) (o : Op) (H : List Ent) (K : Out → List Ent → Prop) : Prop :=
  match o with
  | .panic x => match opv s x with
    | .c (.v (.iface t v)) => K (.pan [{ v := .iface t v, recovered := false }]) H
    | _ => False
  | _ => False
def stepK (P : Program) (o : Oper) (s : List AV) (H : List Ent) (K : Out → List Ent → Prop) : Prop :=
  match kind P o.op with
  | 0 => readK P o s H fun av => K (.val av) H
  | 1 => effK P o s H fun av H' => K (.val av) H'
  | 3 => panK s o.op H K
  | _ => callK P s o.op fun f args => SpecH P f args H K

def wantK (ops : Array Oper) (o : Oper) (s : List AV) (A B : List AV → Prop) : Prop :=
  match o.guard with
  | none => A s
  | some (j, want) =>
    match (ops[j]?).bind (·.dst) with
    | none => False
    | some d => match nth s d with
      | .c (.v (.bool b)) => brd b (setK s d (.c (.v (.bool true))) (bif want then A else B)) (setK s d (.c (.v (.bool false))) (bif want then B else A))
      | .c (.v (.tuple _)) => B s
      | _ => False

/-- Recursors are named here, so that Lean and its kernel unfold the executor in one way. -/
def execOps (P : Program) (ops : Array Oper) (l : List Oper) : List AV → List Ent → (Ex → List AV → List Ent → Prop) → Prop :=
  List.rec (motive := fun _ => List AV → List Ent → (Ex → List AV → List Ent → Prop) → Prop)
    (fun s H K => K .normal s H)
    (fun o _ ih s H K => wantK ops o s (fun s => stepK P o s H fun out H' => match out with
        | .val av => putK s o.dst av fun s' => ih s' H' K
        | .vals _ => False
        | .pan c => K (.pan c) s H')
      (fun s => putK s o.dst (.c (.v undef)) fun s' => ih s' H K)) l
theorem execOps_cons (P : Program) (ops : Array Oper) (o : Oper) (rest : List Oper) (s : List AV) (H : List Ent) (K : Ex → List AV → List Ent → Prop) :
    execOps P ops (o :: rest) s H K = wantK ops o s (fun s => stepK P o s H fun out H' => match out with
        | .val av => putK s o.dst av fun s' => execOps P ops rest s' H' K
        | .vals _ => False
        | .pan c => K (.pan c) s H')
      (fun s => putK s o.dst (.c (.v undef)) fun s' => execOps P ops rest s' H K) := rfl

/-! ### A region that draws its order -/
def detCs : List CV → Bool
  | [] => true
  | .any :: _ => false
  | _ :: cs => detCs cs
def detA : AV → Bool
  | .c .any => false
  | .c _ => true
  | .agg cs => detCs cs
def stepQ (P : Program) (o : Oper) (s : List AV) (H : List Ent) (K : AV → Prop) : Prop :=
  match kind P o.op with
  | 0 => readK P o s H fun av => match detA av with | true => K av | false => False
  | 2 => callK P s o.op fun f args => QCall P f args H K
  | _ => False
def execQ (P : Program) (ops : Array Oper) (l : List Oper) : List AV → List Ent → (List AV → Prop) → Prop :=
  List.rec (motive := fun _ => List AV → List Ent → (List AV → Prop) → Prop)
    (fun s _ K => K s)
    (fun o _ ih s H K => wantK ops o s (fun s => stepQ P o s H fun av => putK s o.dst av fun s' => ih s' H K)
      (fun s => putK s o.dst (.c (.v undef)) fun s' => ih s' H K)) l
theorem execQ_cons (P : Program) (ops : Array Oper) (o : Oper) (rest : List Oper) (s : List AV) (H : List Ent) (K : List AV → Prop) :
    execQ P ops (o :: rest) s H K = wantK ops o s (fun s => stepQ P o s H fun av => putK s o.dst av fun s' => execQ P ops rest s' H K)
      (fun s => putK s o.dst (.c (.v undef)) fun s' => execQ P ops rest s' H K) := rfl
/-! ### Regions by a plan: blind operations first, then quiet ones, then the others, each alone or blind -/
def setAll : Array Bool → List Nat → Array Bool
  | ls, [] => ls
  | ls, k :: l => setAll (ls.setIfInBounds k true) l
def preB (md : Region.Mode) (ops : Array Oper) : List Nat → Array Bool → Bool
  | [], _ => true
  | k :: l, ls => (Region.ready md ops ls).contains k && Region.free md ops ls k && preB md ops l (ls.setIfInBounds k true)
def tlB (md : Region.Mode) (ops : Array Oper) : List (Nat × Nat) → List Nat → Array Bool → Bool
  | [], rem, ls => rem.isEmpty && (Region.ready md ops ls).isEmpty
  | (k, 0) :: l, rem, ls => (Region.ready md ops ls).contains k && decide (Region.ready md ops (setAll ls rem) = [k]) && !rem.contains k && tlB md ops l rem (ls.setIfInBounds k true)
  | (k, 1) :: l, rem, ls => (Region.ready md ops ls).contains k && Region.free md ops ls k && !rem.contains k && tlB md ops l rem (ls.setIfInBounds k true)
  | (k, _) :: l, rem, ls => rem.contains k && decide (Region.ready md ops (setAll ls (rem.erase k)) = [k]) && tlB md ops l (rem.erase k) (ls.setIfInBounds k true)
/-- Variables that are made in the region, whenever the order has it. -/
def floats (tl : List (Nat × Nat)) : List Nat := (tl.filter fun k => Nat.beq k.2 2).map Prod.fst
def wraps (tl : List (Nat × Nat)) : List Nat := (tl.filter fun k => !Nat.beq k.2 2).map Prod.fst
def floatB (P : Program) (md : Region.Mode) (ops : Array Oper) (i : Nat) : Bool :=
  match ops[i]? with
  | some o => (match o.op with | .alloc T => (match P.info? T with | some inf => inf.zero.isSome | none => false) | _ => false) && o.guard.isNone && o.dst.isSome && o.after.all fun e => !Region.binds md e
  | none => false
def sinkL (md : Region.Mode) (ops : Array Oper) (t0 : Nat) : List Nat → Bool
  | [] => true
  | i :: l => (t0 :: l).any (fun j => Region.waitsFor md ops j i) && sinkL md ops t0 l
def chainL (md : Region.Mode) (ops : Array Oper) (hd : List Nat) : List Nat → Bool
  | [] => hd.isEmpty
  | t0 :: l => sinkL md ops t0 hd && l.all fun t => (t0 :: l).any fun t' => Region.waitsFor md ops t t'
def hdB (md : Region.Mode) (ops : Array Oper) (fl : List Nat) : List (Nat × Nat) → Array Bool → Bool
  | [], _ => true
  | (k, 0) :: l, ls => (Region.ready md ops ls).contains k && decide (Region.ready md ops (setAll ls fl) = [k]) && hdB md ops fl l (ls.setIfInBounds k true)
  | (k, _) :: l, ls => (Region.ready md ops ls).contains k && Region.free md ops ls k && hdB md ops fl l (ls.setIfInBounds k true)
/-- Those that read. -/
def reads (hd : List (Nat × Nat)) : List Nat := (hd.filter fun k => Nat.ble k.2 1).map Prod.fst
def disj (a b : List Nat) : Bool := a.all fun i => !b.contains i
def planB (P : Program) (md : Region.Mode) (ops : Array Oper) (pre : List Nat) (hd tl : List (Nat × Nat)) : Bool :=
  (Region.noSelect ops && decide (pre.length + hd.length + tl.length = ops.size) && ((List.range ops.size).all fun i => pre.contains i || (hd.map Prod.fst).contains i || (tl.map Prod.fst).contains i)) &&
    (disj pre (tl.map Prod.fst) && disj (hd.map Prod.fst) (tl.map Prod.fst) && disj (wraps tl) (floats tl) && decide (floats tl).Nodup) &&
    ((floats tl).all (floatB P md ops) && (floats tl).all (Region.free md ops (setAll (Array.replicate ops.size false) pre))) &&
    (preB md ops pre (Array.replicate ops.size false) && ((wraps tl).isEmpty || chainL md ops (reads hd) (wraps tl))) &&
    (hdB md ops (floats tl) hd (setAll (Array.replicate ops.size false) pre) && tlB md ops tl (floats tl) (setAll (setAll (Array.replicate ops.size false) pre) (hd.map Prod.fst)))
/-- A part of a string or a slice: memory is not looked at. -/
structure BlindW (P : Program) (o : Oper) (s : List AV) (K : AV → Prop) (x : Value) : Prop where
  plain : allPlain s o.op.operands.toList = true
  run : ∀ w, (execOp (plainEv s) o).run P w = .ok (.value x) w
  next : K (.c (.v x))
/-- An operation that does not look at memory. -/
def blindK (P : Program) (o : Oper) (s : List AV) (K : AV → Prop) : Prop :=
  match o.op with
  | .move x => forceA (opv s x) K
  | .assign x => asgK s x K
  | .fieldAddr T x f => match opv s x with
    | .c (.lp i off) => match fieldOff P T f with | some fo => forceN fo fun fo => K (.c (.lp i (off + fo))) | none => False
    | .c (.v (.pointer (some a))) => match fieldOff P T f with | some fo => forceN fo fun fo => K (.c (.v (.pointer (some (a.add fo))))) | none => False
    | _ => False
  | .slice .. => ∃ x, BlindW P o s K x
  | _ => genK P o s K
def nthO : List Oper → Nat → Option Oper
  | [], _ => none
  | x :: _, 0 => some x
  | _ :: xs, n + 1 => nthO xs n
def pickK (ops : Array Oper) (k : Nat) (F : Oper → Prop) : Prop := match nthO ops.toList k with | some o => F o | none => False
def execB (P : Program) (ops : Array Oper) (l : List Nat) : List AV → (List AV → Prop) → Prop :=
  List.rec (motive := fun _ => List AV → (List AV → Prop) → Prop)
    (fun s K => K s)
    (fun k _ ih s K => pickK ops k fun o => wantK ops o s (fun s => blindK P o s fun av => putK s o.dst av fun s' => ih s' K)
      (fun s => putK s o.dst (.c (.v undef)) fun s' => ih s' K)) l
def headK (P : Program) (o : Oper) (s : List AV) (H : List Ent) (how : Nat) (K : AV → List Ent → Prop) : Prop :=
  match how with
  | 0 => stepK P o s H fun out H' => match out with | .val av => Nd (wkH H' H) (K av H') | _ => False
  | 1 => readK P o s H fun av => match detA av with | true => K av H | false => False
  | _ => blindK P o s fun av => K av H
def execH (P : Program) (ops : Array Oper) (l : List (Nat × Nat)) : List AV → List Ent → (List AV → List Ent → Prop) → Prop :=
  List.rec (motive := fun _ => List AV → List Ent → (List AV → List Ent → Prop) → Prop)
    (fun s H K => K s H)
    (fun kb _ ih s H K => pickK ops kb.1 fun o => wantK ops o s (fun s => headK P o s H kb.2 fun av H' => putK s o.dst av fun s' => ih s' H' K)
      (fun s => putK s o.dst (.c (.v undef)) fun s' => ih s' H K)) l
/-- A reading that is the same in all worlds of a kind. -/
structure ReadC (P : Program) (C : World → Prop) (o : Oper) (s : List AV) (K : AV → Prop) (x : Value) : Prop where
  sel : ∀ cs b, o.op ≠ .select cs b
  plain : allPlain s o.op.operands.toList = true
  run : ∀ w, C w → (execOp (plainEv s) o).run P w = .ok (.value x) w
  next : K (.c (.v x))
def headC (P : Program) (C : World → Prop) (o : Oper) (s : List AV) (H : List Ent) (how : Nat) (K : AV → List Ent → Prop) : Prop :=
  match how with
  | 0 => stepK P o s H fun out H' => match out with | .val av => Nd (∀ w, Facts H' w → C w) (K av H') | _ => False
  | 1 => ∃ x, ReadC P C o s (fun av => K av H) x
  | _ => blindK P o s fun av => K av H
def execC (P : Program) (C : World → Prop) (ops : Array Oper) (l : List (Nat × Nat)) : List AV → List Ent → (List AV → List Ent → Prop) → Prop :=
  List.rec (motive := fun _ => List AV → List Ent → (List AV → List Ent → Prop) → Prop)
    (fun s H K => K s H)
    (fun kb _ ih s H K => pickK ops kb.1 fun o => wantK ops o s (fun s => headC P C o s H kb.2 fun av H' => putK s o.dst av fun s' => ih s' H' K)
      (fun s => putK s o.dst (.c (.v undef)) fun s' => ih s' H K)) l
/-- A variable that is made: behind a place that only the walk knows. -/
def ownK (P : Program) (o : Oper) (H : List Ent) (K : Out → List Ent → Prop) : Prop :=
  match o.op with
  | .alloc T => match P.info? T with
    | some i => match i.zero with
      | some z => snocK H (.blk T (cellsV z)) 0 fun H' n => K (.val (.c (.lp n 0))) H'
      | none => False
    | none => False
  | _ => False
def tailK (P : Program) (o : Oper) (s : List AV) (H : List Ent) (how : Nat) (K : Out → List Ent → Prop) : Prop :=
  match how with
  | 0 => stepK P o s H K
  | 1 => blindK P o s fun av => K (.val av) H
  | _ + 2 => ownK P o H K
def execT (P : Program) (ops : Array Oper) (l : List (Nat × Nat)) : List AV → List Ent → (Ex → List AV → List Ent → Prop) → Prop :=
  List.rec (motive := fun _ => List AV → List Ent → (Ex → List AV → List Ent → Prop) → Prop)
    (fun s H K => K .normal s H)
    (fun kb _ ih s H K => pickK ops kb.1 fun o => wantK ops o s (fun s => tailK P o s H kb.2 fun out H' => match out with
        | .val av => putK s o.dst av fun s' => ih s' H' K
        | .vals _ => False
        | .pan c => K (.pan c) s H')
      (fun s => putK s o.dst (.c (.v undef)) fun s' => ih s' H K)) l
/-- Quiet operations of a region, in a listed order. -/
def execL (P : Program) (ops : Array Oper) (l : List Nat) : List AV → List Ent → (List AV → Prop) → Prop :=
  List.rec (motive := fun _ => List AV → List Ent → (List AV → Prop) → Prop)
    (fun s _ K => K s)
    (fun k _ ih s H K => pickK ops k fun o => wantK ops o s (fun s => stepQ P o s H fun av => putK s o.dst av fun s' => ih s' H K)
      (fun s => putK s o.dst (.c (.v undef)) fun s' => ih s' H K)) l
/-- A region that draws its order: all its operations quiet; or by a plan; or by a plan whose middle is quiet. -/
inductive DrawN (P : Program) (ops : Array Oper) (s : List AV) (H : List Ent) (K : Ex → List AV → List Ent → Prop) : Prop where
  | quiet (ok : Region.lexB .any ops = true) (next : execQ P ops ops.toList s H fun s' => K .normal s' H)
  | plan (pre : List Nat) (hd tl : List (Nat × Nat)) (ok : planB P .any ops pre hd tl = true) (next : execB P ops pre s fun s1 => execH P ops hd s1 H fun s2 H2 => execT P ops tl s2 H2 K)
  | planQ (pre hd : List Nat) (tl : List (Nat × Nat)) (ok : planB P .any ops pre (hd.map fun k => (k, 1)) tl = true) (next : execB P ops pre s fun s1 => execL P ops hd s1 H fun s2 => execT P ops tl s2 H K)
  | planC (C : World → Prop) (pre : List Nat) (hd tl : List (Nat × Nat)) (ok : planB P .any ops pre hd tl = true) (now : ∀ w, Facts H w → C w) (next : execB P ops pre s fun s1 => execC P C ops hd s1 H fun s2 H2 => execT P ops tl s2 H2 K)

/-- All operations quiet, none of which makes or writes memory. -/
theorem DrawN.calm {P : Program} {ops : Array Oper} {s : List AV} {H : List Ent} {K : Ex → List AV → List Ent → Prop} (ok : (Region.lexB .any ops && ops.toList.all fun o => !Nat.beq (kind P o.op) 1) = true) (next : execQ P ops ops.toList s H fun s' => K .normal s' H) : DrawN P ops s H K :=
  .quiet (by rw [Bool.and_eq_true] at ok; exact ok.1) next
def condK (c : Operand) (s : List AV) (A B : List AV → Prop) : Prop :=
  match c with
  | .tmp t => match nth s t with
    | .c (.v (.bool b)) => brd b (setK s t (.c (.v (.bool true))) A) (setK s t (.c (.v (.bool false))) B)
    | _ => False
  | .const (.bool b) => brd b (A s) (B s)
  | _ => False

def seqK (E : List AV → List Ent → (Ex → List AV → List Ent → Prop) → Prop) (K : Ex → List AV → List Ent → Prop) (e : Ex) (s : List AV) (H : List Ent) : Prop :=
  match e with
  | .normal => E s H K
  | .exit n => K (.exit n) s H
  | .ret => K .ret s H
  | .pan c => K (.pan c) s H
def blockK (id : Nat) (K : Ex → List AV → List Ent → Prop) (e : Ex) (s : List AV) (H : List Ent) : Prop :=
  match e with
  | .normal => K .normal s H
  | .exit n => bif Nat.beq n id then K .normal s H else K (.exit n) s H
  | .ret => K .ret s H
  | .pan c => K (.pan c) s H
def regionK (P : Program) (ops : Array Oper) (draw : Bool) (s : List AV) (H : List Ent) (K : Ex → List AV → List Ent → Prop) : Prop :=
  match draw with
  | false => execOps P ops ops.toList s H K
  | true => DrawN P ops s H K

def exec (P : Program) (c : Code) : List AV → List Ent → (Ex → List AV → List Ent → Prop) → Prop :=
  Code.rec (motive := fun _ => List AV → List Ent → (Ex → List AV → List Ent → Prop) → Prop)
    (fun s H K => K .normal s H)
    (fun _ ops draw s H K => regionK P ops draw s H K)
    (fun _ _ ia ib s H K => ia s H (seqK ib K))
    (fun c _ _ ia ib s H K => condK c s (fun s => ia s H K) (fun s => ib s H K))
    (fun id _ ib s H K => ib s H (blockK id K))
    (fun _ ib s H K => LoopN ib s H K)
    (fun _ _ _ _ _ _ _ _ _ => False)
    (fun id s H K => K (.exit id) s H)
    (fun _ _ _ _ _ => False)
    (fun _ s H K => K .normal s H)
    (fun _ _ _ _ => False)
    (fun s H K => K .ret s H)
    (fun _ _ _ _ => False)
    c

/-! ### A function -/
def initK (n : Nat) (args : List AV) (K : List AV → Prop) : Prop :=
  match n, args with
  | 0, _ => K []
  | n + 1, [] => initK n [] fun s => K (.c .any :: s)
  | n + 1, x :: xs => initK n xs fun s => K (x :: s)
def resOne (P : Program) (r : ResultVar) (s : List AV) (H : List Ent) (K : AV → Prop) : Prop :=
  match r with
  | .tmp t => forceA (nth s t) K
  | .cell a T => match nth s a with
    | .c (.lp i off) => loadL P T (nthE H i) off K
    | _ => False
def resAll (P : Program) (s : List AV) (H : List Ent) (rs : List ResultVar) : (List AV → Prop) → Prop :=
  List.rec (motive := fun _ => (List AV → Prop) → Prop)
    (fun K => K [])
    (fun r _ ih K => resOne P r s H fun av => ih fun xs => K (av :: xs)) rs
def plainS : List AV → Option (List Value)
  | [] => some []
  | .c (.v x) :: l => match plainS l with | some xs => some (x :: xs) | none => none
  | _ :: _ => none
def resK (P : Program) (rs : List ResultVar) (s : List AV) (H : List Ent) (K : Out → Prop) : Prop :=
  match rs with
  | [r] => resOne P r s H fun av => K (.val av)
  | rs => resAll P s H rs fun l => match plainS l with
    | some xs => K (.val (.c (.v (.tuple xs.toArray))))
    | none => K (.vals l)
def endK (P : Program) (rs : List ResultVar) (K : Out → List Ent → Prop) (e : Ex) (s : List AV) (H : List Ent) : Prop :=
  match e with
  | .normal => resK P rs s H fun out => K out H
  | .ret => resK P rs s H fun out => K out H
  | .exit _ => False
  | .pan c => K (.pan c) H
end Go.AX

/-
  AX, ninth text: operations in a row; regions that draw their order.
-/
namespace Go.AX

theorem setK_spec : ∀ {s : List AV} {i : Nat} {v : AV} {K : List AV → Prop}, setK s i v K → i < s.length ∧ K (s.set i v)
  | [], _, _, _, h => h.elim
  | _ :: _, 0, _, _, h => ⟨by simp, h⟩
  | _ :: s, i + 1, v, K, h => by
    have := setK_spec (s := s) (i := i) h
    exact ⟨by simp [this.1], by simpa using this.2⟩
theorem RelS_len {ρ : List Loc} : ∀ {cs : List AV} {xs : List Value}, RelS ρ cs xs → cs.length = xs.length
  | [], [], _ => rfl
  | _ :: _, _ :: _, h => by simp [RelS_len h.2]
  | [], _ :: _, h => h.elim
  | _ :: _, [], h => h.elim
theorem RelS_set {ρ : List Loc} : ∀ {s : List AV} {xs : List Value} {i : Nat} {av : AV} {v : Value}, RelS ρ s xs → av.rel ρ v → RelS ρ (s.set i av) (xs.set i v)
  | [], [], _, _, _, _, _ => by simp [RelS]
  | _ :: _, _ :: _, 0, _, _, h, k => ⟨k, h.2⟩
  | _ :: _, _ :: _, i + 1, _, _, h, k => ⟨h.1, RelS_set h.2 k⟩
  | [], _ :: _, _, _, _, h, _ => h.elim
  | _ :: _, [], _, _, _, h, _ => h.elim
theorem nth_get {ρ : List Loc} : ∀ {s : List AV} {xs : List Value} {d : Nat} {x : Value}, RelS ρ s xs → nth s d = .c (.v x) → xs[d]? = some x
  | [], [], _, _, _, h => by simp [nth] at h
  | _ :: _, _ :: _, 0, _, r, h => by
    simp only [nth] at h
    have h1 := r.1
    rw [h] at h1
    have : _ = _ := h1
    simp [this]
  | _ :: _, _ :: _, d + 1, _, r, h => by
    simp only [nth] at h
    simpa using nth_get r.2 h
  | [], _ :: _, _, _, r, _ => r.elim
  | _ :: _, [], _, _, r, _ => r.elim
theorem set_same : ∀ {xs : List Value} {d : Nat} {x : Value}, xs[d]? = some x → xs.set d x = xs
  | [], _, _, h => by simp at h
  | _ :: _, 0, _, h => by simp at h; simp [h]
  | _ :: xs, d + 1, x, h => by simp at h; simp [set_same (xs := xs) h]

theorem putK_spec {s : List AV} {d : Option Nat} {av : AV} {K : List AV → Prop} (h : putK s d av K) :
    ∃ s', K s' ∧ ∀ (ρ : List Loc) (a : Act) (v : Value), RelS ρ s a.tmps.toList → av.rel ρ v → RelS ρ s' (a.put d v).tmps.toList := by
  cases d with
  | none => exact ⟨s, h, fun ρ a v hr _ => hr⟩
  | some d =>
    obtain ⟨_, h⟩ := setK_spec h
    exact ⟨_, h, fun ρ a v hr hv => by simpa [Act.put, Array.toList_setIfInBounds] using RelS_set (i := d) hr hv⟩
theorem put_defers (a : Act) (d : Option Nat) (v : Value) : (a.put d v).defers = a.defers := by cases d <;> rfl

theorem wantK_spec {ops : Array Oper} {o : Oper} {s : List AV} {A B : List AV → Prop} (h : wantK ops o s A B) {ρ : List Loc} {a : Act} (hr : RelS ρ s a.tmps.toList) :
    (Region.wanted o (yielded ops a.tmps) = true ∧ ∃ s', A s' ∧ RelS ρ s' a.tmps.toList) ∨ (Region.wanted o (yielded ops a.tmps) = false ∧ ∃ s', B s' ∧ RelS ρ s' a.tmps.toList) := by
  unfold wantK at h
  split at h
  · rename_i hg
    exact .inl ⟨by simp [Region.wanted, hg], s, h, hr⟩
  · rename_i j want hg
    split at h
    · exact h.elim
    · rename_i d hd
      split at h
      · rename_i b hb
        have hx := nth_get hr hb
        have hy : yielded ops a.tmps j = some b := by
          have : a.tmps[d]? = some (.bool b) := by simpa using hx
          simp [yielded, hd, this]
        have hset : ∀ t, b = t → RelS ρ (s.set d (.c (.v (.bool t)))) a.tmps.toList := fun t ht => by
          have := RelS_set (i := d) hr (av := .c (.v (.bool t))) (v := .bool t) rfl
          rw [set_same (by rw [hx, ht])] at this
          exact this
        have hw : Region.wanted o (yielded ops a.tmps) = (b == want) := by
          simp only [Region.wanted, hg, hy]
          cases b <;> cases want <;> rfl
        rw [hw]
        cases b
        · have h1 := (setK_spec (brd_false h rfl)).2
          cases want
          · exact .inl ⟨rfl, _, h1, hset _ rfl⟩
          · exact .inr ⟨rfl, _, h1, hset _ rfl⟩
        · have h1 := (setK_spec (brd_true h rfl)).2
          cases want
          · exact .inr ⟨rfl, _, h1, hset _ rfl⟩
          · exact .inl ⟨rfl, _, h1, hset _ rfl⟩
      · rename_i q hq
        have hx := nth_get hr hq
        have hy : yielded ops a.tmps j = none := by
          have : a.tmps[d]? = some (.tuple q) := by simpa using hx
          simp [yielded, hd, this]
        exact .inr ⟨by simp only [Region.wanted, hg, hy]; rfl, s, h, hr⟩
      · exact h.elim

theorem pvs_rel (ρ : List Loc) : ∀ xs : List Value, RelS ρ (pvs xs) xs
  | [] => trivial
  | _ :: xs => ⟨rfl, pvs_rel ρ xs⟩
theorem opvs_rel {ρ : List Loc} {s : List AV} {a : Act} (h : RelS ρ s a.tmps.toList) : ∀ l : List Operand, RelS ρ (opvs s l) (l.map a.eval)
  | [] => trivial
  | x :: l => ⟨opv_rel h x, opvs_rel h l⟩
theorem RelS_append {ρ : List Loc} : ∀ {cs ds : List AV} {xs ys : List Value}, RelS ρ cs xs → RelS ρ ds ys → RelS ρ (cs ++ ds) (xs ++ ys)
  | [], _, [], _, _, h => by simpa using h
  | _ :: _, _, _ :: _, _, h, k => ⟨h.1, RelS_append h.2 k⟩
  | [], _, _ :: _, _, h, _ => h.elim
  | _ :: _, _, [], _, h, _ => h.elim

theorem callK_spec {P : Program} {o : Oper} {s : List AV} {K : FuncId → List AV → Prop} (h : callK P s o.op K) :
    ∃ f args, K f args ∧ ∀ (ρ : List Loc) (w : World) (a : Act), CallOk P f → RelS ρ s a.tmps.toList → ∃ vs, RelS ρ args vs ∧ (execOp a.eval o).run P w = .ok (.enter f vs.toArray) w := by
  unfold callK at h
  split at h
  · rename_i f args ts ho
    split at h
    · rename_i g first cap hf
      refine ⟨_, _, h, fun ρ w a hok hr => ?_⟩
      have hfr := opv_rel hr f
      rw [hf] at hfr
      have hfe : a.eval f = .func (.func g) first cap := hfr
      refine ⟨first.toList ++ args.toList.map a.eval ++ cap.toList, RelS_append (RelS_append (pvs_rel ρ _) (opvs_rel hr _)) (pvs_rel ρ _), ?_⟩
      obtain ⟨fn, h1, h2, h3⟩ := hok
      unfold execOp
      have hb : fn.body.isNone = false := by cases hfn : fn.body <;> simp_all
      simp only [ho, resolve, hfe, Deferred.ofValue, invoke, callFunc, Sem.run_bind, Sem.run_pure, Result.andThen_ok, run_program, h1, h2, hb, Bool.false_eq_true, if_false]
      congr 2
      apply Array.ext'
      simp
    · exact h.elim
  · rename_i r name args ts ho
    split at h
    · rename_i t v hf
      obtain ⟨f, recv, hrun, h⟩ := h
      refine ⟨_, _, h, fun ρ w a hok hr => ?_⟩
      have hfr := opv_rel hr r
      rw [hf] at hfr
      have hfe : a.eval r = .iface t v := hfr
      refine ⟨recv :: args.toList.map a.eval, ⟨rfl, opvs_rel hr _⟩, ?_⟩
      obtain ⟨fn, h1, h2, h3⟩ := hok
      unfold execOp
      have hb : fn.body.isNone = false := by cases hfn : fn.body <;> simp_all
      have ha : (#[Value.iface t v] ++ args.map a.eval)[0]? = some (.iface t v) := by rw [Array.getElem?_append_left (by simp)]; rfl
      simp only [ho, resolve, hfe, invoke, callMethod, ha, Sem.run_bind, Sem.run_pure, Result.andThen_ok, run_program, hrun, callFunc, h1, h2, hb, Bool.false_eq_true, if_false]
      congr 2
      apply Array.ext'
      simp
      rw [List.take_of_length_le (by simp)]
    · exact h.elim
  · exact h.elim

/-- One operation. -/
theorem step_sound {P : Program} {o : Oper} {s : List AV} {H : List Ent} {K : Out → List Ent → Prop} (h : stepK P o s H K) {ρ : List Loc} {S : Nat → Prop} {w : World} {a : Act} (hs : Sat ρ S H w) (hr : RelS ρ s a.tmps.toList)
    {next : Act → World → Prop} {Q : Exit → Act → World → Prop}
    (hv : ∀ ρ' S' H' w' av v, Sat ρ' S' H' w' → Ev ρ S H w ρ' S' H' w' → av.rel ρ' v → K (.val av) H' → next (a.put o.dst v) w')
    (hp : ∀ ρ' S' H' w' c, Sat ρ' S' H' w' → Ev ρ S H w ρ' S' H' w' → K (.pan c) H' → Q (.panic c) a w') (hn : ∀ l H', ¬ K (.vals l) H') : o.wp P a w next Q := by
  unfold stepK at h
  split at h
  · obtain ⟨av, hK, hrd⟩ := read_sound h
    obtain ⟨v, hrun, hrel⟩ := hrd ρ S w a hs hr
    unfold Oper.wp
    rw [hrun]
    exact hv ρ S H w av v hs (Ev.refl _ _ _ _) hrel hK
  · obtain ⟨av, H', hK, r, v, ρ', w', hrun, hrv, hs', hev, hrel⟩ := eff_sound h ρ S w a hs hr
    unfold Oper.wp
    rw [hrun]
    rcases hrv with rfl | ⟨rfl, rfl⟩
    · exact hv ρ' S H' w' av v hs' hev hrel hK
    · exact hv ρ' S H' w' av _ hs' hev hrel hK
  · unfold panK at h
    split at h
    · rename_i x ho
      split at h
      · rename_i t v hf
        have hxr := opv_rel hr x
        rw [hf] at hxr
        have hxe : a.eval x = .iface t v := hxr
        have hrun : (execOp a.eval o).run P w = .halt (.panic (.iface t v)) w := by
          unfold execOp
          simp only [ho, hxe]
          rfl
        unfold Oper.wp
        rw [hrun]
        exact hp ρ S H w _ hs (Ev.refl _ _ _ _) h
      · exact h.elim
    · exact h.elim
  · obtain ⟨f, args, hspec, hcall⟩ := callK_spec (P := P) h
    obtain ⟨vs, hvs, hrun⟩ := hcall ρ w a hspec.ok hr
    unfold Oper.wp
    rw [hrun]
    refine (hspec.run ρ S w vs hs hvs).mono fun e w' ⟨ρ', S', H', out, hs', hev, hout, hK⟩ => ?_
    cases out with
    | val av =>
      obtain ⟨v, rfl, hrel⟩ := hout
      exact hv ρ' S' H' w' av v hs' hev hrel hK
    | vals l => exact absurd hK (hn l H')
    | pan c =>
      have : e = .panicked c := hout
      subst this
      exact hp ρ' S' H' w' c hs' hev hK

def exOk : Ex → Exit → Prop
  | .normal, .normal => True
  | .exit n, .exit m => n = m
  | .ret, .ret => True
  | .pan c, .panic d => c = d
  | _, _ => False

/-- Behind a panic nothing is said of the slots. -/
def relX (ex : Ex) (ρ : List Loc) (s : List AV) (xs : List Value) : Prop :=
  match ex with
  | .pan _ => True
  | _ => RelS ρ s xs
/-- What holds behind a piece of code. -/
def Post (ρ : List Loc) (S : Nat → Prop) (H : List Ent) (w : World) (dfs : List Deferred) (K : Ex → List AV → List Ent → Prop) (e : Exit) (a' : Act) (w' : World) : Prop :=
  ∃ ρ' S' s' H' ex, Sat ρ' S' H' w' ∧ Ev ρ S H w ρ' S' H' w' ∧ relX ex ρ' s' a'.tmps.toList ∧ a'.defers = dfs ∧ exOk ex e ∧ K ex s' H'

theorem Post.from {ρ ρ1 : List Loc} {S S1 : Nat → Prop} {H H1 : List Ent} {w w1 : World} {dfs : List Deferred} {K : Ex → List AV → List Ent → Prop} {e : Exit} {a' : Act} {w' : World}
    (hev : Ev ρ S H w ρ1 S1 H1 w1) (h : Post ρ1 S1 H1 w1 dfs K e a' w') : Post ρ S H w dfs K e a' w' := by
  obtain ⟨ρ', S', s', H', ex, h1, h2, h3, h4, h5, h6⟩ := h
  exact ⟨ρ', S', s', H', ex, h1, hev.trans h2, h3, h4, h5, h6⟩

theorem wpList_mono {P : Program} {ops : Array Oper} {Q Q' : Exit → Act → World → Prop} (hq : ∀ e a w, Q e a w → Q' e a w) : ∀ (l : List Oper) (a : Act) (w : World), wpList P ops Q l a w → wpList P ops Q' l a w
  | [], a, w, h => hq _ _ _ h
  | o :: l, a, w, h => by
    unfold wpList at h ⊢
    split at h
    · rename_i hw
      rw [if_pos hw]
      rcases h with h | ⟨h1, a0, w0, h2⟩
      · refine .inl ?_
        have h2 := Oper.wp_mono (K' := wpList P ops Q' l) (fun a w => wpList_mono hq l a w) h
        revert h2
        unfold Oper.wp
        generalize (execOp a.eval o).run P w = r
        intro h2
        cases r with
        | ok n w' =>
          cases n <;> simp only [Oper.upon] at h2 ⊢ <;> first
            | exact h2
            | exact h2.mono fun e w'' he => (by
                cases e with
                | returned v => exact he
                | panicked c => exact hq _ _ _ he
                | outgrown => obtain ⟨a0, w0, h0⟩ := he; exact ⟨a0, w0, hq _ _ _ h0⟩)
        | halt x w' => cases x <;> simp only [Oper.upon] at h2 ⊢ <;> exact hq _ _ _ h2
      · exact .inr ⟨h1, a0, w0, hq _ _ _ h2⟩
    · rename_i hw
      rw [if_neg hw]
      exact wpList_mono hq l _ _ h

theorem execOps_sound {P : Program} {ops : Array Oper} {K : Ex → List AV → List Ent → Prop} : ∀ (l : List Oper) (s : List AV) (H : List Ent), execOps P ops l s H K →
    ∀ (ρ : List Loc) (S : Nat → Prop) (w : World) (a : Act), Sat ρ S H w → RelS ρ s a.tmps.toList → wpList P ops (Post ρ S H w a.defers K) l a w
  | [], s, H, h, ρ, S, w, a, hs, hr => ⟨ρ, S, s, H, .normal, hs, Ev.refl _ _ _ _, hr, rfl, trivial, h⟩
  | o :: l, s, H, h, ρ, S, w, a, hs, hr => by
    rw [execOps_cons] at h
    unfold wpList
    rcases wantK_spec h hr with ⟨hw, s', h', hr'⟩ | ⟨hw, s', h', hr'⟩
    · rw [if_pos hw]
      refine .inl (step_sound h' hs hr' (fun ρ1 S1 H1 w1 av v hs1 hev hrel hK => ?_) (fun ρ1 S1 H1 w1 c hs1 hev hK => ?_) fun _ _ h => h)
      · obtain ⟨s2, hK2, hput⟩ := putK_spec hK
        have hrs : RelS ρ1 s' a.tmps.toList := by obtain ⟨t, ht⟩ := hev.pre; rw [ht]; exact RelS_pre t hr'
        have ih := execOps_sound l s2 H1 hK2 ρ1 S1 w1 (a.put o.dst v) hs1 (hput ρ1 a v hrs hrel)
        rw [put_defers] at ih
        exact wpList_mono (fun e a' w' hq => hq.from hev) l _ _ ih
      · exact ⟨ρ1, S1, s', H1, .pan c, hs1, hev, trivial, rfl, rfl, hK⟩
    · rw [if_neg (by simp [hw])]
      obtain ⟨s2, hK2, hput⟩ := putK_spec h'
      have ih := execOps_sound l s2 H hK2 ρ S w (a.put o.dst undef) hs (hput ρ a undef hr' rfl)
      rw [put_defers] at ih
      exact ih

/-! ### Regions that draw -/
theorem Sat.heap {ρ : List Loc} {S : Nat → Prop} {H : List Ent} {w w' : World} (h : Sat ρ S H w) (hh : w'.heap = w.heap) : Sat ρ S H w' :=
  ⟨h.len, fun i e he => by
    have := (h.ent i e he).move (w' := w') [] (fun _ _ => by rw [hh]) (fun b _ => by rw [hh])
    simpa using this, h.inj, h.out, fun b hb => by rw [hh]; exact h.low b hb⟩
theorem Ev.drew (ρ : List Loc) (S : Nat → Prop) (H : List Ent) (w : World) : Ev ρ S H w ρ S H { w with drawn := w.drawn + 1 } :=
  ⟨⟨[], by simp⟩, rfl, rfl, rfl, Nat.le_refl _, fun _ _ _ => rfl, fun _ h => .inl h, fun _ h => .inl h⟩

/-- The worlds that a state speaks of, from a given one on. -/
def Cls (ρ : List Loc) (S : Nat → Prop) (H : List Ent) (w w' : World) : Prop := ∃ S', Sat ρ S' H w' ∧ Ev ρ S H w ρ S' H w'

theorem detCs_uniq {ρ : List Loc} : ∀ {cs : List CV} {xs ys : List Value}, detCs cs = true → RelL ρ cs xs → RelL ρ cs ys → xs = ys
  | [], [], [], _, _, _ => rfl
  | c :: cs, x :: xs, y :: ys, h, r, q => by
    have key : detCs cs = true ∧ x = y := by
      cases c with
      | any => simp [detCs] at h
      | v z => exact ⟨h, (show x = z from r.1).trans (show y = z from q.1).symm⟩
      | lp i off =>
        obtain ⟨l, hl, hx⟩ := r.1
        obtain ⟨l', hl', hy⟩ := q.1
        have : l' = l := Option.some.inj (hl'.symm.trans hl)
        subst this
        exact ⟨h, hx.trans hy.symm⟩
      | sl i n =>
        obtain ⟨l, hl, hx⟩ := r.1
        obtain ⟨l', hl', hy⟩ := q.1
        have : l' = l := Option.some.inj (hl'.symm.trans hl)
        subst this
        exact ⟨h, hx.trans hy.symm⟩
    rw [key.2, detCs_uniq key.1 r.2 q.2]
  | [], _ :: _, _, _, r, _ => r.elim
  | _ :: _, [], _, _, r, _ => r.elim
  | [], [], _ :: _, _, _, q => q.elim
  | _ :: _, _ :: _, [], _, _, q => q.elim
theorem detA_uniq {ρ : List Loc} {av : AV} {x y : Value} (h : detA av = true) (r : av.rel ρ x) (q : av.rel ρ y) : x = y := by
  cases av with
  | agg cs =>
    obtain ⟨xs, rfl, hx⟩ := r
    obtain ⟨ys, rfl, hy⟩ := q
    rw [detCs_uniq h hx hy]
  | c c =>
    have : ∀ z w : Value, RelL ρ [c] [z] → RelL ρ [c] [w] → detCs [c] = true → z = w := fun z w h1 h2 h3 => by
      have := detCs_uniq h3 h1 h2; simpa using this
    refine this x y ⟨r, trivial⟩ ⟨q, trivial⟩ ?_
    cases c <;> first | rfl | cases h

theorem stepQ_sound {P : Program} {o : Oper} {s : List AV} {H : List Ent} {K : AV → Prop} (h : stepQ P o s H K) {ρ : List Loc} {S : Nat → Prop} {w : World} {a : Act} (hr : RelS ρ s a.tmps.toList) (h0 : ∃ w', Cls ρ S H w w') :
    ∃ av v, K av ∧ av.rel ρ v ∧ ∀ w', Cls ρ S H w w' → o.quietAt P a (Cls ρ S H w) w' v := by
  unfold stepQ at h
  split at h
  · obtain ⟨av, hK, hrd⟩ := read_sound h
    split at hK
    · rename_i hd
      obtain ⟨w0, S0, hs0, _⟩ := h0
      obtain ⟨v, _, hrel⟩ := hrd ρ S0 w0 a hs0 hr
      refine ⟨av, v, hK, hrel, fun w' ⟨S', hs', _⟩ => ?_⟩
      obtain ⟨v', hrun, hrel'⟩ := hrd ρ S' w' a hs' hr
      have := detA_uniq hd hrel hrel'
      subst this
      unfold Oper.quietAt
      rw [hrun]
      exact ⟨rfl, rfl⟩
    · exact hK.elim
  · obtain ⟨f, args, hq, hcall⟩ := callK_spec (P := P) h
    obtain ⟨x, hspec, hK⟩ := hq
    rw [forceV_eq] at hK
    refine ⟨_, x, hK, rfl, fun w' ⟨S', hs', hev'⟩ => ?_⟩
    obtain ⟨vs, hvs, hrun⟩ := hcall ρ w' a hspec.ok hr
    unfold Oper.quietAt
    rw [hrun]
    refine ⟨rfl, (hspec.run ρ S' w' vs hs' hvs).mono fun e w'' ⟨ρ2, S2, H2, out, hs2, hev2, hout, ho, hH⟩ => ?_⟩
    subst ho; subst hH
    obtain ⟨v, rfl, hrel⟩ := hout
    have hvx : v = x := hrel
    subst hvx
    have hρ : ρ2 = ρ := by
      obtain ⟨t, ht⟩ := hev2.pre
      have h1 := hs2.len
      have h2 := hs'.len
      have : t = [] := by
        apply List.eq_nil_of_length_eq_zero
        rw [ht] at h1; simp at h1; omega
      rw [ht, this, List.append_nil]
    subst hρ
    exact ⟨rfl, S2, hs2, hev'.trans hev2⟩
  · exact h.elim

theorem execQ_sound {P : Program} {ops : Array Oper} {H : List Ent} {K : List AV → Prop} {ρ : List Loc} {S : Nat → Prop} {w : World} (h0 : ∃ w', Cls ρ S H w w') : ∀ (l : List Oper) (s : List AV), execQ P ops l s H K →
    ∀ (a : Act), RelS ρ s a.tmps.toList → wpQuiet P ops (Cls ρ S H w) (fun a' => ∃ s', K s' ∧ RelS ρ s' a'.tmps.toList ∧ a'.defers = a.defers) l a
  | [], s, h, a, hr => ⟨s, h, hr, rfl⟩
  | o :: l, s, h, a, hr => by
    rw [execQ_cons] at h
    unfold wpQuiet
    rcases wantK_spec h hr with ⟨hw, s', h', hr'⟩ | ⟨hw, s', h', hr'⟩
    · rw [if_pos hw]
      obtain ⟨av, v, hK, hrel, hq⟩ := stepQ_sound h' hr' h0
      obtain ⟨s2, hK2, hput⟩ := putK_spec hK
      have ih := execQ_sound h0 l s2 hK2 (a.put o.dst v) (hput ρ a v hr' hrel)
      rw [put_defers] at ih
      exact ⟨v, hq, ih⟩
    · rw [if_neg (by simp [hw])]
      obtain ⟨s2, hK2, hput⟩ := putK_spec h'
      have ih := execQ_sound h0 l s2 hK2 (a.put o.dst undef) (hput ρ a undef hr' rfl)
      rw [put_defers] at ih
      exact ih

/-! ### Regions by a plan -/
theorem nthO_eq : ∀ (l : List Oper) (i : Nat), nthO l i = l[i]?
  | [], _ => by simp [nthO]
  | _ :: _, 0 => by simp [nthO]
  | _ :: l, i + 1 => by simp [nthO, nthO_eq l i]
theorem pickK_spec {ops : Array Oper} {k : Nat} {F : Oper → Prop} (h : pickK ops k F) : ∃ o, ops[k]? = some o ∧ F o := by
  unfold pickK at h
  rw [nthO_eq, Array.getElem?_toList] at h
  split at h
  · rename_i o ho; exact ⟨o, ho, h⟩
  · exact h.elim
/-- A blind operation yields its value in every world. -/
theorem blind_sound {P : Program} {o : Oper} {s : List AV} {K : AV → Prop} (h : blindK P o s K) {ρ : List Loc} {a : Act} (hr : RelS ρ s a.tmps.toList) : ∃ av v, K av ∧ av.rel ρ v ∧ ∀ w, (execOp a.eval o).run P w = .ok (.value v) w := by
  unfold blindK at h
  split at h
  · rename_i x ho
    rw [forceA_eq] at h
    exact ⟨_, _, h, opv_rel hr x, fun w => by unfold execOp; rw [ho]; rfl⟩
  · rename_i x ho
    have hk : K (opv s x) := by
      unfold asgK at h
      split at h
      · rw [forceA_eq] at h; exact h
      · split at h
        · rename_i hx
          obtain ⟨h⟩ := h
          rw [hx]; exact h
        · rw [forceA_eq] at h; exact h
    exact ⟨_, _, hk, opv_rel hr x, fun w => by unfold execOp; rw [ho]; rfl⟩
  · rename_i T x f ho
    have fin : ∀ (p : Addr) (fo : Nat) (w : World) (ev : Operand → Value), ev x = .pointer (some p) → fieldOff P T f = some fo → (execOp ev o).run P w = .ok (.value (.pointer (some (p.add fo)))) w := fun p fo w ev hx hfo => by
      unfold execOp
      simp only [ho, hx, Sem.run_bind, fieldOff_spec hfo w p, Result.andThen_ok, Sem.run_pure]
    have hxr := opv_rel hr x
    split at h
    · rename_i i off hx
      split at h
      · rename_i fo hfo
        rw [forceN_eq] at h
        rw [hx] at hxr
        obtain ⟨l, hl, he⟩ := hxr
        exact ⟨_, _, h, ⟨l, hl, rfl⟩, fun w => by rw [fin _ fo w _ he hfo, add_lit]⟩
      · exact h.elim
    · rename_i p hx
      split at h
      · rename_i fo hfo
        rw [forceN_eq] at h
        rw [hx] at hxr
        exact ⟨_, _, h, rfl, fun w => fin p fo w _ hxr hfo⟩
      · exact h.elim
    · exact h.elim
  · rename_i ho
    obtain ⟨x, hp, hrun, hk⟩ := h
    refine ⟨_, x, hk, rfl, fun w => ?_⟩
    rw [execOp_congr o (fun cs b e => by rw [ho] at e; cases e) (ρ' := plainEv s) fun x hx => allPlain_eval hr _ hp x (Array.mem_toList_iff.2 hx)]
    exact hrun w
  · unfold genK at h
    split at h
    · exact h.elim
    · rename_i hsel
      split at h
      · rename_i hp
        split at h
        · rename_i v hv
          rw [forceV_eq] at h
          refine ⟨_, v, h, rfl, fun w => ?_⟩
          rw [execOp_congr o (fun cs b e => hsel cs b e) (ρ' := plainEv s) fun x hx => allPlain_eval hr _ hp x (Array.mem_toList_iff.2 hx)]
          exact pureRun_run P _ _ hv w
        · exact h.elim
      · exact h.elim

theorem Post.put {ρ : List Loc} {S : Nat → Prop} {H : List Ent} {w : World} {dfs : List Deferred} {K : Ex → List AV → List Ent → Prop} {c : List PanicEntry} {a : Act} {d : Option Nat} {v : Value} {w' : World} (h : Post ρ S H w dfs K (.panic c) (a.put d v) w') : Post ρ S H w dfs K (.panic c) a w' := by
  obtain ⟨ρ', S', s', H', ex, h1, h2, h3, h4, h5, h6⟩ := h
  cases ex with
  | pan c' => exact ⟨ρ', S', s', H', .pan c', h1, h2, trivial, by rw [put_defers] at h4; exact h4, h5, h6⟩
  | normal => exact h5.elim
  | ret => exact h5.elim
  | exit n => exact h5.elim

/-- A blind operation that may come up is taken first. -/
theorem take_blind {P : Program} {ops : Array Oper} {md : Region.Mode} {k : Nat} {o : Oper} {s : List AV} {ls : Array Bool} {fuel : Nat} {a : Act} {w : World} {Q : Exit → Act → World → Prop} {A B : List AV → Prop} (ho : ops[k]? = some o) (hsel : Region.noSelect ops = true) (hr1 : (Region.ready md ops ls).contains k = true) (hf : Region.free md ops ls k = true)
    (hQ : ∀ c a v w, Q (.panic c) (a.put o.dst v) w → Q (.panic c) a w) {ρ : List Loc} (hr : RelS ρ s a.tmps.toList)
    (h : wantK ops o s A B) (hA : ∀ s, A s → RelS ρ s a.tmps.toList → ∃ (av : AV) (v : Value), av.rel ρ v ∧ (∀ w, (execOp a.eval o).run P w = .ok (.value v) w) ∧ wpAny P md ops Q fuel (ls.setIfInBounds k true) (a.put o.dst v) w)
    (hB : ∀ s, B s → RelS ρ s a.tmps.toList → wpAny P md ops Q fuel (ls.setIfInBounds k true) (a.put o.dst undef) w) : wpAny P md ops Q (fuel + 1) ls a w := by
  rcases wantK_spec h hr with ⟨hw, s', h', hr'⟩ | ⟨hw, s', h', hr'⟩
  · obtain ⟨av, v, _, hrun, hn⟩ := hA s' h' hr'
    exact wpAny_take ho hsel hf hr1 (fun c a w => hQ c a v w) (.inl ⟨hw, hrun⟩) hn
  · exact wpAny_take ho hsel hf hr1 (fun c a w => hQ c a undef w) (.inr ⟨hw, rfl⟩) (hB s' h' hr')

theorem execB_sound {P : Program} {ops : Array Oper} {md : Region.Mode} {K : List AV → Prop} {Q : Exit → Act → World → Prop} {ρ : List Loc} {w : World} {g : Nat} (hsel : Region.noSelect ops = true) (hQ : ∀ c a d v w, Q (.panic c) (Act.put a d v) w → Q (.panic c) a w) {dfs : List Deferred} {ls2 : Array Bool}
    (next : ∀ s a, K s → RelS ρ s a.tmps.toList → a.defers = dfs → wpAny P md ops Q g ls2 a w) : ∀ (l : List Nat) (s : List AV) (ls : Array Bool) (a : Act), execB P ops l s K → preB md ops l ls = true → setAll ls l = ls2 → RelS ρ s a.tmps.toList → a.defers = dfs →
      wpAny P md ops Q (l.length + g) ls a w
  | [], s, ls, a, h, _, he, hr, hd => by
    have he' : ls = ls2 := he
    subst he'
    rw [List.length_nil, Nat.zero_add]; exact next s a h hr hd
  | k :: l, s, ls, a, h0, hB, he, hr, hd => by
    have h : pickK ops k fun o => wantK ops o s (fun s => blindK P o s fun av => putK s o.dst av fun s' => execB P ops l s' K) (fun s => putK s o.dst (.c (.v undef)) fun s' => execB P ops l s' K) := h0
    obtain ⟨o, ho, h⟩ := pickK_spec h
    simp only [preB, Bool.and_eq_true] at hB
    rw [List.length_cons, Nat.add_right_comm]
    refine take_blind ho hsel hB.1.1 hB.1.2 (fun c a v w => hQ c a o.dst v w) hr h (fun s' hA hr' => ?_) fun s' hB' hr' => ?_
    · obtain ⟨av, v, hK, hrel, hrun⟩ := blind_sound hA hr'
      obtain ⟨s2, hK2, hput⟩ := putK_spec hK
      exact ⟨av, v, hrel, hrun, execB_sound hsel hQ next l s2 _ _ hK2 hB.2 he (hput ρ a v hr' hrel) (by rw [put_defers]; exact hd)⟩
    · obtain ⟨s2, hK2, hput⟩ := putK_spec hB'
      exact execB_sound hsel hQ next l s2 _ _ hK2 hB.2 he (hput ρ a undef hr' rfl) (by rw [put_defers]; exact hd)
end Go.AX

/-
  AX, tenth text: regions with a tail; code; functions.
-/
namespace Go.AX

section tail
variable {P : Program} {ops : Array Oper} {md : Region.Mode} {C : World → Prop}

end tail


/-! ### Weakening -/
theorem get_take {ρ : List Loc} {i n : Nat} {l : Loc} (h : ρ[i]? = some l) (hi : i < n) : (ρ.take n)[i]? = some l := by
  rw [List.getElem?_take, if_pos hi]; exact h
theorem relC_take {ρ : List Loc} {n : Nat} {c : CV} {x : Value} (h : c.rel ρ x) (hk : okC n c) : c.rel (ρ.take n) x := by
  cases c with
  | any => trivial
  | v y => exact h
  | lp i off => obtain ⟨l, hl, hx⟩ := h; exact ⟨l, get_take hl hk, hx⟩
  | sl i m => obtain ⟨l, hl, hx⟩ := h; exact ⟨l, get_take hl hk, hx⟩
theorem RelL_takeρ {ρ : List Loc} {n : Nat} : ∀ {cs : List CV} {xs : List Value}, RelL ρ cs xs → okCs n cs → RelL (ρ.take n) cs xs
  | [], [], _, _ => trivial
  | _ :: _, _ :: _, h, k => ⟨relC_take h.1 k.1, RelL_takeρ h.2 k.2⟩
  | [], _ :: _, h, _ => h.elim
  | _ :: _, [], h, _ => h.elim
theorem okCsB_eq {n : Nat} : ∀ {cs : List CV}, okCsB n cs = true → okCs n cs
  | [], _ => trivial
  | .any :: cs, h => ⟨trivial, okCsB_eq (cs := cs) h⟩
  | .v _ :: cs, h => ⟨trivial, okCsB_eq (cs := cs) h⟩
  | .lp i _ :: cs, h => by
    simp only [okCsB] at h
    split at h
    · rename_i hi; exact ⟨by simpa [okC] using hi, okCsB_eq h⟩
    · cases h
  | .sl i _ :: cs, h => by
    simp only [okCsB] at h
    split at h
    · rename_i hi; exact ⟨by simpa [okC] using hi, okCsB_eq h⟩
    · cases h
def okA (n : Nat) : AV → Prop
  | .c x => okC n x
  | .agg cs => okCs n cs
theorem okSB_cons {n : Nat} {a : AV} {s : List AV} (h : okSB n (a :: s) = true) : okA n a ∧ okSB n s = true := by
  cases a with
  | agg cs =>
    simp only [okSB] at h
    split at h
    · rename_i hc; exact ⟨okCsB_eq hc, h⟩
    · cases h
  | c c =>
    cases c with
    | any => exact ⟨trivial, h⟩
    | v x => exact ⟨trivial, h⟩
    | lp i o =>
      simp only [okSB] at h
      split at h
      · rename_i hi; exact ⟨by simpa [okA, okC] using hi, h⟩
      · cases h
    | sl i o =>
      simp only [okSB] at h
      split at h
      · rename_i hi; exact ⟨by simpa [okA, okC] using hi, h⟩
      · cases h
theorem relA_take {ρ : List Loc} {n : Nat} {av : AV} {x : Value} (h : av.rel ρ x) (hk : okA n av) : av.rel (ρ.take n) x := by
  cases av with
  | c c => exact relC_take (c := c) h hk
  | agg cs => obtain ⟨xs, hx, hr⟩ := h; exact ⟨xs, hx, RelL_takeρ hr hk⟩
theorem wkS_cons {a b : AV} {s t : List AV} (h : wkS (a :: s) (b :: t)) : (b = .c .any ∨ a = b) ∧ wkS s t := by
  cases b with
  | agg cs => exact ⟨.inr h.1, h.2⟩
  | c c =>
    cases c with
    | any => exact ⟨.inl rfl, h⟩
    | _ => exact ⟨.inr h.1, h.2⟩
theorem wkS_rel {ρ : List Loc} {n : Nat} : ∀ {s t : List AV} {xs : List Value}, wkS s t → okSB n t = true → RelS ρ s xs → RelS (ρ.take n) t xs
  | [], [], [], _, _, _ => trivial
  | a :: s, b :: t, x :: xs, h, k, r => by
    obtain ⟨h1, h2⟩ := wkS_cons h
    obtain ⟨k1, k2⟩ := okSB_cons k
    refine ⟨?_, wkS_rel h2 k2 r.2⟩
    rcases h1 with rfl | rfl
    · trivial
    · exact relA_take r.1 k1
  | [], [], _ :: _, _, _, r => r.elim
  | [], _ :: _, _, h, _, _ => h.elim
  | _ :: _, [], _, h, _, _ => h.elim
  | _ :: _, _ :: _, [], _, _, r => r.elim
theorem forceS_eq : ∀ (s : List AV) (K : List AV → Prop), forceS s K = K s
  | [], _ => rfl
  | a :: s, K => by simp only [forceS, forceA_eq, forceS_eq s]
theorem forceH_eq : ∀ (s : List Ent) (K : List Ent → Prop), forceH s K = K s
  | [], _ => rfl
  | a :: s, K => by simp only [forceH, forceH_eq s]
theorem wkCs_rel {ρ : List Loc} : ∀ {cs ds : List CV} {xs : List Value}, wkCs cs ds → RelL ρ cs xs → RelL ρ ds xs
  | [], [], [], _, _ => trivial
  | c :: cs, d :: ds, x :: xs, h, r => by
    refine ⟨?_, wkCs_rel h.2 r.2⟩
    have h1 := h.1
    cases d with
    | any => trivial
    | v y => have : c = .v y := by cases c <;> simp_all [wkC]
             subst this; exact r.1
    | lp i off => have : c = .lp i off := by cases c <;> simp_all [wkC]
                  subst this; exact r.1
    | sl i m => have : c = .sl i m := by cases c <;> simp_all [wkC]
                subst this; exact r.1
  | [], [], _ :: _, _, r => r.elim
  | [], _ :: _, _, h, _ => h.elim
  | _ :: _, [], _, h, _ => h.elim
  | _ :: _, _ :: _, [], _, r => r.elim
theorem wkH_get : ∀ {H G : List Ent} {i : Nat} {f : Ent}, wkH H G → G[i]? = some f → ∃ e, H[i]? = some e ∧ wkE e f
  | _ :: _, _ :: _, 0, f, h, hf => by simp at hf; subst hf; exact ⟨_, by simp, h.1⟩
  | _ :: H, _ :: G, i + 1, f, h, hf => by simp at hf ⊢; exact wkH_get h.2 hf
  | _, [], _, _, _, hf => by simp at hf
  | [], _ :: _, _, _, h, _ => h.elim
theorem wkH_len : ∀ {H G : List Ent}, wkH H G → G.length ≤ H.length
  | _, [], _ => by simp
  | _ :: _, _ :: _, h => by simp; exact wkH_len h.2
  | [], _ :: _, h => h.elim
theorem okH_get {n : Nat} : ∀ {H : List Ent} {i : Nat} {e : Ent}, okH n H → H[i]? = some e → okE n e
  | _ :: _, 0, _, h, he => by simp at he; subst he; exact h.1
  | _ :: _, _ + 1, _, h, he => by simp at he; exact okH_get h.2 he
  | [], _, _, _, he => by simp at he
theorem wkE_blk {ρ : List Loc} {n i b : Nat} {e f : Ent} (h : wkE e f) (hf : entB (ρ.take n) i f = some b) : entB ρ i e = some b := by
  have key : ∀ b, ((ρ.take n)[i]?).map Loc.b = some b → (ρ[i]?).map Loc.b = some b := fun b hb => by
    rw [List.getElem?_take] at hb
    split at hb
    · exact hb
    · cases hb
  cases f with
  | blk T cs => cases e <;> first | exact h.elim | exact key b hf
  | row T sz n cs => cases e <;> first | exact h.elim | exact key b hf
  | app T sz xs a n cap =>
    cases e <;> first | exact h.elim | skip
    · rcases h with ⟨_, _, _, h1, _⟩ | ⟨_, h1, _⟩ | ⟨_, _, _, h1, _⟩
      · subst h1
        exact hf
      · subst h1; cases hf
      · subst h1
        exact hf
    · obtain ⟨_, h1, _⟩ := h
      subst h1; cases hf
  | mp b' es c =>
    cases e <;> first | exact h.elim | skip
    obtain ⟨rfl, _, _⟩ := h
    exact hf
  | fact F => cases hf
  | fz => cases hf
  | dead => cases hf

theorem Sat.weak {ρ : List Loc} {S : Nat → Prop} {H G : List Ent} {w : World} (h : Sat ρ S H w) (hw : wkH H G) (hk : okH G.length G) : Sat (ρ.take G.length) S G w ∧ ∀ b, mb (ρ.take G.length) G b → mb ρ H b := by
  have hlen := wkH_len hw
  have hmb : ∀ b, mb (ρ.take G.length) G b → mb ρ H b := by
    rintro b ⟨i, f, hf, hfb⟩
    obtain ⟨e, he, hwe⟩ := wkH_get hw hf
    exact ⟨i, e, he, wkE_blk hwe hfb⟩
  refine ⟨⟨by simp [h.len, hlen], fun i f hf => ?_, fun i j f g b hf hg hfb hgb => ?_, fun b hb => h.out b (hmb b hb), h.low⟩, hmb⟩
  · obtain ⟨e, he, hwe⟩ := wkH_get hw hf
    have hi : i < G.length := (List.getElem?_eq_some_iff.1 hf).1
    have hok := okH_get hk hf
    have hee := h.ent i e he
    cases f with
    | dead => trivial
    | fact F =>
      cases e with
      | fact F' => exact ⟨hwe w hee.1, fun w' hw' => hwe w' (hee.2 w' hw')⟩
      | fz T sz n xs b cap => exact ⟨hwe w hee.2.1, fun w' hw' => hwe w' (hee.2.2 w' hw')⟩
      | _ => exact hwe.elim
    | fz T sz n xs b cap =>
      cases e with
      | fz =>
        obtain ⟨rfl, rfl, rfl, rfl, rfl, rfl⟩ := hwe
        exact ⟨get_take hee.1 hi, hee.2⟩
      | _ => exact hwe.elim
    | blk T cs =>
      cases e with
      | blk U ds =>
        obtain ⟨hT, hcs⟩ := hwe
        subst hT
        obtain ⟨l, arr, hl, hb, hr⟩ := hee
        exact ⟨l, arr, get_take hl hi, hb, RelL_takeρ (wkCs_rel hcs hr) hok⟩
      | _ => exact hwe.elim
    | row T sz n cs =>
      cases e with
      | row U b m ds =>
        obtain ⟨rfl, rfl, rfl, rfl⟩ := hwe
        obtain ⟨l, arr, hl, hb, h1, h2, h3, h4, hr⟩ := hee
        exact ⟨l, arr, get_take hl hi, hb, h1, h2, h3, h4, RelL_takeρ hr hok⟩
      | _ => exact hwe.elim
    | app T sz xs a n cap =>
      cases e with
      | app =>
        rcases hwe with ⟨rfl, rfl, rfl, rfl, rfl, rfl⟩ | ⟨rfl, rfl, rfl, rfl⟩ | ⟨rfl, rfl, rfl, rfl, hn, rfl⟩
        · exact hee
        · exact .inl ⟨rfl, rfl, rfl, rfl⟩
        · rcases hee with ⟨rfl, rfl, rfl, rfl⟩ | ⟨b, rfl, hrow⟩
          · exact .inl ⟨rfl, by omega, rfl, by simp⟩
          · exact .inr ⟨b, rfl, hrow.less hn⟩
      | dead => obtain ⟨rfl, rfl, rfl, rfl⟩ := hwe; exact .inl ⟨rfl, rfl, rfl, rfl⟩
      | _ => exact hwe.elim
    | mp b es c =>
      cases e with
      | mp =>
        obtain ⟨rfl, rfl, rfl⟩ := hwe
        exact hee
      | _ => exact hwe.elim
  · obtain ⟨e, he, hwe⟩ := wkH_get hw hf
    obtain ⟨e', he', hwe'⟩ := wkH_get hw hg
    exact h.inj i j e e' b he he' (wkE_blk hwe hfb) (wkE_blk hwe' hgb)

/-! ### Regions by a plan: blind operations first, then quiet ones, then the others, each alone or blind -/
section plan
variable {P : Program} {ops : Array Oper} {md : Region.Mode} {C : World → Prop}

structure PInv (md : Region.Mode) (ops : Array Oper) (pre tl : List Nat) (ls : Array Bool) : Prop where
  size : ls.size = ops.size
  closed : ∀ j oj, ops[j]? = some oj → ls.getD j false = true → ∀ e ∈ oj.after, Region.binds md e = true → ls.getD e.on false = true
  tl : ∀ t ∈ tl, ls.getD t false = false
  pre : ∀ k ∈ pre, ls.getD k false = true

theorem PInv.set {pre tl : List Nat} {i : Nat} {ls : Array Bool} (inv : PInv md ops pre tl ls) (hi : i ∈ Region.ready md ops ls) (hin : i ∉ tl) : PInv md ops pre tl (ls.setIfInBounds i true) := by
  obtain ⟨_, oi, hoi, hall⟩ := mem_ready.1 hi
  refine ⟨by simp [inv.size], fun j oj hj hl e he hb => ?_, fun t ht => by rw [getD_set_ne false (show i ≠ t from fun h => hin (by rw [h]; exact ht))]; exact inv.tl t ht, fun k hk => getD_set_true (inv.pre k hk)⟩
  by_cases hij : i = j
  · subst hij
    have : oj = oi := Option.some.inj (hj.symm.trans hoi)
    subst this
    exact getD_set_true (hall e he hb)
  · rw [getD_set_ne false hij] at hl
    exact getD_set_true (inv.closed j oj hj hl e he hb)

theorem sink_all {pre tl : List Nat} {ls : Array Bool} {t0 : Nat} (inv : PInv md ops pre tl ls) (h0 : t0 ∈ Region.ready md ops ls) : ∀ {hd : List Nat}, sinkL md ops t0 hd = true → ∀ i ∈ hd, ls.getD i false = true
  | [], _, i, hi => by cases hi
  | k :: l, h, i, hi => by
    simp only [sinkL, Bool.and_eq_true] at h
    have ih := sink_all inv h0 h.2
    cases hi with
    | tail _ hi => exact ih i hi
    | head =>
      obtain ⟨j, hj, hw⟩ := List.any_eq_true.1 h.1
      obtain ⟨oj, hoj, e, he, hb, hon⟩ := Region.waitsFor_spec hw
      cases hj with
      | head =>
        obtain ⟨_, o, ho, hall⟩ := mem_ready.1 h0
        have : oj = o := Option.some.inj (hoj.symm.trans ho)
        subst this
        rw [← hon]; exact hall e he hb
      | tail _ hj => rw [← hon]; exact inv.closed j oj hoj (ih j hj) e he hb

theorem chain_waits {pre tl hd : List Nat} {ls : Array Bool} (hc : chainL md ops hd tl = true) (inv : PInv md ops pre tl ls) {i : Nat} (hi : i ∈ hd) (hun : ls.getD i false = false) : ∀ t ∈ tl, t ∉ Region.ready md ops ls := by
  cases tl with
  | nil => intro t ht; cases ht
  | cons t0 l =>
    simp only [chainL, Bool.and_eq_true, List.all_eq_true] at hc
    intro t ht hr
    cases ht with
    | head =>
      have := sink_all inv hr hc.1 i hi
      rw [hun] at this; cases this
    | tail _ ht =>
      obtain ⟨t', ht', hw⟩ := List.any_eq_true.1 (hc.2 t ht)
      obtain ⟨oj, hoj, e, he, hb, hon⟩ := Region.waitsFor_spec hw
      obtain ⟨_, o, ho, hall⟩ := mem_ready.1 hr
      have : oj = o := Option.some.inj (hoj.symm.trans ho)
      subst this
      have := hall e he hb
      rw [hon, inv.tl t' ht'] at this
      cases this

/-- Operation k reads the same value in every world of the class. -/
def YR (P : Program) (ops : Array Oper) (C : World → Prop) (o : Oper) (v : Value) (a : Act) : Prop :=
  (Region.wanted o (yielded ops a.tmps) = true ∧ ∀ w, C w → (execOp a.eval o).run P w = .ok (.value v) w) ∨ (Region.wanted o (yielded ops a.tmps) = false ∧ v = undef)
theorem YR.same {o : Oper} {v : Value} {a a' : Act} (hy : YR P ops C o v a) (he : execOp a'.eval o = execOp a.eval o) (hw : Region.wanted o (yielded ops a'.tmps) = Region.wanted o (yielded ops a.tmps)) : YR P ops C o v a' := by
  unfold YR at *
  rw [he, hw]
  exact hy

/-- One operation apart from another one: whether the other one's value is there already makes no difference. -/
theorem wpOp_swap {j : Nat} {oi oj : Oper} {v : Value} (hj : ops[j]? = some oj) (hap : oi.apart ops oj = true) (hsi : ∀ cs b, oi.op ≠ .select cs b) (hsj : ∀ cs b, oj.op ≠ .select cs b) {K : Act → World → Prop} {a : Act} {w : World} {Q : Exit → Act → World → Prop}
    (hQ : ∀ c a w, Q (.panic c) (a.put oi.dst v) w → Q (.panic c) a w) (hy : YR P ops C oi v a) (h : wpOp P ops Q j K (a.put oi.dst v) w) : wpOp P ops Q j (fun a' w' => YR P ops C oi v a' ∧ K (a'.put oi.dst v) w') a w := by
  obtain ⟨h1, h2, h3⟩ := Oper.apart_spec hap
  have keep : ∀ u, YR P ops C oi v (a.put oj.dst u) := fun u => hy.same (execOp_put oi hsi a oj.dst u h3) (wanted_put oi a oj.dst u h3)
  unfold wpOp at *
  simp only [hj] at *
  rw [wanted_put oj a oi.dst v h1] at h
  split
  · rename_i hw
    rw [if_pos hw] at h
    rcases h with h | ⟨hasks, hlets⟩
    · refine .inl ?_
      unfold Oper.wp at *
      rw [execOp_put oj hsj a oi.dst v h1] at h
      generalize (execOp a.eval oj).run P w = r at *
      cases r with
      | ok n w' =>
        cases n <;> simp only [Oper.upon] at h ⊢
        case value u => exact ⟨keep u, by rw [← Act.put_comm a v u h2]; exact h⟩
        case skip => exact ⟨keep _, by rw [← Act.put_comm a v undef h2]; exact h⟩
        case defer d =>
          refine ⟨(hy.same (a' := { a with defers := d :: a.defers }) rfl rfl).same (execOp_put oi hsi _ oj.dst undef h3) (wanted_put oi _ oj.dst undef h3), ?_⟩
          rw [← Act.put_comm _ v undef h2, ← Act.put_defers]
          exact h
        case enter f args =>
          refine h.mono fun e w'' he => ?_
          cases e with
          | returned u => exact ⟨keep u, by rw [← Act.put_comm a v u h2]; exact he⟩
          | panicked c => exact hQ _ _ _ he
          | outgrown => exact he
        case row row args => exact h.mono fun u w'' he => ⟨keep u, by rw [← Act.put_comm a v u h2]; exact he⟩
      | halt x w' =>
        cases x <;> simp only [Oper.upon] at h ⊢
        case panic u => exact hQ _ _ _ h
    · exact .inr ⟨by unfold Oper.asks at *; rw [execOp_put oj hsj a oi.dst v h1] at hasks; exact hasks, hlets⟩
  · rename_i hw
    rw [if_neg hw] at h
    exact ⟨keep _, by rw [← Act.put_comm a v undef h2]; exact h⟩

theorem preB_inv {pre0 tl : List Nat} : ∀ (l done : List Nat) (ls : Array Bool), PInv md ops done tl ls → preB md ops l ls = true → (∀ k ∈ l, k ∉ tl) → (∀ k ∈ l, k < ops.size) → PInv md ops (done ++ l) tl (setAll ls l)
  | [], done, ls, inv, _, _, _ => by simpa [setAll] using inv
  | k :: l, done, ls, inv, hB, hn, hlt => by
    simp only [preB, Bool.and_eq_true] at hB
    have hr : k ∈ Region.ready md ops ls := by simpa using hB.1.1
    have i1 := inv.set hr (hn k (by simp))
    have i2 : PInv md ops (done ++ [k]) tl (ls.setIfInBounds k true) := ⟨i1.size, i1.closed, i1.tl, fun j hj => by
      rcases List.mem_append.1 hj with hj | hj
      · exact i1.pre j hj
      · simp at hj; subst hj
        have hlt' : j < ls.size := by rw [inv.size]; exact hlt j (by simp)
        simp [hlt']⟩
    have := preB_inv (pre0 := pre0) l (done ++ [k]) _ i2 hB.2 (fun j hj => hn j (by simp [hj])) (fun j hj => hlt j (by simp [hj]))
    simpa [setAll] using this

theorem okCs_of {ρ : List Loc} : ∀ {cs : List CV} {xs : List Value}, RelL ρ cs xs → okCs ρ.length cs
  | [], [], _ => trivial
  | c :: cs, x :: xs, h => by
    refine ⟨?_, okCs_of h.2⟩
    have h1 := h.1
    cases c with
    | any => trivial
    | v y => trivial
    | lp i off => obtain ⟨l, hl, _⟩ := h1; exact (List.getElem?_eq_some_iff.1 hl).1
    | sl i n => obtain ⟨l, hl, _⟩ := h1; exact (List.getElem?_eq_some_iff.1 hl).1
  | [], _ :: _, h => h.elim
  | _ :: _, [], h => h.elim
theorem okH_of {n : Nat} : ∀ {H : List Ent}, (∀ e ∈ H, okE n e) → okH n H
  | [], _ => trivial
  | e :: H, h => ⟨h e (by simp), okH_of fun e' he => h e' (by simp [he])⟩
theorem Sat.okH {ρ : List Loc} {S : Nat → Prop} {H : List Ent} {w : World} (h : Sat ρ S H w) : okH H.length H := by
  refine okH_of fun e he => ?_
  obtain ⟨i, hi⟩ := List.getElem?_of_mem he
  have := h.ent i e hi
  rw [← h.len]
  cases e with
  | blk T cs => obtain ⟨l, arr, _, _, hr⟩ := this; exact okCs_of hr
  | row T sz n cs => obtain ⟨l, arr, _, _, _, _, _, _, hr⟩ := this; exact okCs_of hr
  | _ => trivial

theorem Cls.up {ρ ρ1 : List Loc} {S S1 : Nat → Prop} {H H1 : List Ent} {w w1 w' : World} (hs : Sat ρ S H w) (hev : Ev ρ S H w ρ1 S1 H1 w1) (hw : wkH H1 H) (h : Cls ρ1 S1 H1 w1 w') : Cls ρ S H w w' := by
  obtain ⟨S', hs', hev'⟩ := h
  have h1 := hs'.weak hw hs.okH
  obtain ⟨t, ht⟩ := hev.pre
  have hρ : ρ1.take H.length = ρ := by rw [ht, ← hs.len]; simp
  rw [hρ] at h1
  have h12 := hev.trans hev'
  exact ⟨S', h1.1, ⟨⟨[], by simp⟩, h12.os, h12.tape, h12.output, h12.size, h12.keep, h12.imm, fun b hb => .inl hb⟩⟩

/-- Whatever order; the worlds are of the class as long as no operation of tl has come up. -/
def AnyC (P : Program) (ops : Array Oper) (Q : Exit → Act → World → Prop) (C : World → Prop) (tl : List Nat) : Nat → Array Bool → Act → World → Prop
  | 0, ls, a, w => ((∀ t ∈ tl, ls.getD t false = false) → C w) ∧ Region.ready .any ops ls = [] ∧ Q .normal a w
  | f + 1, ls, a, w => ((∀ t ∈ tl, ls.getD t false = false) → C w) ∧ (Region.ready .any ops ls = [] → Q .normal a w) ∧ ∀ i ∈ Region.ready .any ops ls, wpOp P ops Q i (AnyC P ops Q C tl f (ls.setIfInBounds i true)) a w
section
variable {Q : Exit → Act → World → Prop} {tl : List Nat}
theorem AnyC.cls {f : Nat} {ls : Array Bool} {a : Act} {w : World} (h : AnyC P ops Q C tl f ls a w) : (∀ t ∈ tl, ls.getD t false = false) → C w := by cases f <;> exact h.1
theorem AnyC.mono {C' : World → Prop} (hc : ∀ w, C w → C' w) : ∀ (f : Nat) (ls : Array Bool) (a : Act) (w : World), AnyC P ops Q C tl f ls a w → AnyC P ops Q C' tl f ls a w
  | 0, _, _, _, h => ⟨fun h0 => hc _ (h.1 h0), h.2⟩
  | f + 1, _, _, _, h => ⟨fun h0 => hc _ (h.1 h0), h.2.1, fun i hi => wpOp_mono (fun a w => AnyC.mono hc f _ a w) (h.2.2 i hi)⟩
theorem AnyC.any : ∀ (f : Nat) (ls : Array Bool) (a : Act) (w : World), AnyC P ops Q C tl f ls a w → wpAny P .any ops Q f ls a w
  | 0, _, _, _, h => h.2
  | f + 1, _, _, _, h => ⟨h.2.1, fun i hi => wpOp_mono (fun a w => AnyC.any f _ a w) (h.2.2 i hi)⟩
theorem anyC_of {t : Nat} (ht : t ∈ tl) : ∀ (f : Nat) (ls : Array Bool) (a : Act) (w : World), ls.getD t false = true → wpAny P .any ops Q f ls a w → AnyC P ops Q C tl f ls a w
  | 0, ls, _, _, hl, h => ⟨fun h0 => (by rw [h0 t ht] at hl; cases hl), h⟩
  | f + 1, ls, _, _, hl, h => ⟨fun h0 => (by rw [h0 t ht] at hl; cases hl), h.1, fun i hi => wpOp_mono (fun a w => anyC_of ht f _ a w (getD_set_true hl)) (h.2 i hi)⟩

theorem anyC_take {pre hd hq fl : List Nat} {i : Nat} {oi : Oper} {v : Value} (hi : ops[i]? = some oi) (hsel : ∀ (j : Nat) (o : Oper) cs b, ops[j]? = some o → o.op ≠ .select cs b)
    (hQ : ∀ c a w, Q (.panic c) (a.put oi.dst v) w → Q (.panic c) a w) (hc : chainL .any ops hq tl = true ∨ tl = []) (hcov : ∀ j, j < ops.size → j ∈ pre ∨ j ∈ hd ∨ j ∈ fl ∨ j ∈ tl) (hnt : ∀ j ∈ hd, j ∉ tl) (hft : ∀ j ∈ fl, j ∉ tl) (hin : i ∈ hd) (hiq : i ∈ hq) :
    ∀ (f : Nat) (ls : Array Bool) (a : Act) (w : World), PInv .any ops pre tl ls →
      (∀ j oj, ops[j]? = some oj → j ≠ i → ls.getD j true = false → (∀ e ∈ oj.after, Region.binds .any e = true → e.on ≠ i) → oi.apart ops oj = true) →
      i ∈ Region.ready .any ops ls → YR P ops C oi v a → AnyC P ops Q C tl f (ls.setIfInBounds i true) (a.put oi.dst v) w → AnyC P ops Q C tl (f + 1) ls a w := by
  have nt : ∀ (ls : Array Bool), PInv .any ops pre tl ls → i ∈ Region.ready .any ops ls → ∀ j ∈ Region.ready .any ops ls, j ∉ tl := fun ls inv hr j hj => by
    have hun := (mem_ready.1 hr).1
    obtain ⟨hjun, oj, hoj, _⟩ := mem_ready.1 hj
    rcases hcov j (Array.getElem?_eq_some_iff.1 hoj).1 with h | h | h | h
    · have := inv.pre j h; rw [getD_both hjun] at this; cases this
    · exact hnt j h
    · exact hft j h
    · rcases hc with hc | hc
      · exact absurd hj (chain_waits hc inv hiq (getD_both hun) j h)
      · rw [hc] at h; cases h
  have unl : ∀ (ls : Array Bool), PInv .any ops pre tl ls → ∀ t ∈ tl, (ls.setIfInBounds i true).getD t false = false := fun ls inv t ht => by
    rw [getD_set_ne false (show i ≠ t from fun h => hnt i hin (by rw [h]; exact ht))]; exact inv.tl t ht
  have own : ∀ (f : Nat) (ls : Array Bool) (a : Act) (w : World), PInv .any ops pre tl ls → YR P ops C oi v a → AnyC P ops Q C tl f (ls.setIfInBounds i true) (a.put oi.dst v) w → wpOp P ops Q i (AnyC P ops Q C tl f (ls.setIfInBounds i true)) a w := fun f ls a w inv hy hH => by
    unfold wpOp
    simp only [hi]
    rcases hy with ⟨hw, hv⟩ | ⟨hw, rfl⟩
    · rw [if_pos hw]
      refine .inl ?_
      unfold Oper.wp
      rw [hv w (hH.cls (unl ls inv))]
      exact hH
    · rw [if_neg (by simp [hw])]; exact hH
  intro f
  induction f with
  | zero =>
    intro ls a w inv _ hr hy hL
    refine ⟨fun _ => hL.cls (unl ls inv), fun h0 => (by rw [h0] at hr; cases hr), fun j hj => ?_⟩
    by_cases hji : j = i
    · subst hji; exact own 0 ls a w inv hy hL
    · have := ready_mono hj hji; rw [hL.2.1] at this; cases this
  | succ f ih =>
    intro ls a w inv hfree hr hy hH
    have hun := (mem_ready.1 hr).1
    refine ⟨fun _ => hH.cls (unl ls inv), fun h0 => (by rw [h0] at hr; cases hr), fun j hj => ?_⟩
    by_cases hji : j = i
    · subst hji; exact own (f + 1) ls a w inv hy hH
    · obtain ⟨hjun, oj, hoj, hall⟩ := mem_ready.1 hj
      have hno : ∀ e ∈ oj.after, Region.binds .any e = true → e.on ≠ i := fun e he hb he2 => by
        have := hall e he hb
        rw [he2, getD_both hun] at this
        cases this
      have h1 := wpOp_swap hoj (hfree j oj hoj hji hjun hno) (fun cs b => hsel i oi cs b hi) (fun cs b => hsel j oj cs b hoj) hQ hy (hH.2.2 j (ready_mono hj hji))
      refine wpOp_mono (fun a' w' h3 => ih (ls.setIfInBounds j true) a' w' (inv.set hj (nt ls inv hr j hj)) (fun k ok hk hki hun' hno' => ?_) (ready_mono hr (Ne.symm hji)) h3.1 ?_) h1
      · refine hfree k ok hk hki ?_ hno'
        by_cases hjk : j = k
        · subst hjk; exact hjun
        · rw [getD_set_ne true hjk] at hun'; exact hun'
      · rw [Array.setIfInBounds_comm _ _ hji]; exact h3.2

/-- A blind operation. -/
theorem anyC_blind {i : Nat} {oi : Oper} {v : Value} (hi : ops[i]? = some oi) (hsel : ∀ (j : Nat) (o : Oper) cs b, ops[j]? = some o → o.op ≠ .select cs b)
    (hQ : ∀ c a w, Q (.panic c) (a.put oi.dst v) w → Q (.panic c) a w) (hin : i ∉ tl) :
    ∀ (f : Nat) (ls : Array Bool) (a : Act) (w : World),
      (∀ j oj, ops[j]? = some oj → j ≠ i → ls.getD j true = false → (∀ e ∈ oj.after, Region.binds .any e = true → e.on ≠ i) → oi.apart ops oj = true) →
      i ∈ Region.ready .any ops ls → Yields P ops oi v a → AnyC P ops Q C tl f (ls.setIfInBounds i true) (a.put oi.dst v) w → AnyC P ops Q C tl (f + 1) ls a w := by
  have unl : ∀ (ls : Array Bool), (∀ t ∈ tl, ls.getD t false = false) → ∀ t ∈ tl, (ls.setIfInBounds i true).getD t false = false := fun ls h t ht => by
    rw [getD_set_ne false (show i ≠ t from fun e => hin (by rw [e]; exact ht))]; exact h t ht
  intro f
  induction f with
  | zero =>
    intro ls a w _ hr hy hL
    refine ⟨fun h => hL.cls (unl ls h), fun h0 => (by rw [h0] at hr; cases hr), fun j hj => ?_⟩
    by_cases hji : j = i
    · subst hji; exact hy.wpOp hi hL
    · have := ready_mono hj hji; rw [hL.2.1] at this; cases this
  | succ f ih =>
    intro ls a w hfree hr hy hH
    have hun := (mem_ready.1 hr).1
    refine ⟨fun h => hH.cls (unl ls h), fun h0 => (by rw [h0] at hr; cases hr), fun j hj => ?_⟩
    by_cases hji : j = i
    · subst hji; exact hy.wpOp hi hH
    · obtain ⟨hjun, oj, hoj, hall⟩ := mem_ready.1 hj
      have hno : ∀ e ∈ oj.after, Region.binds .any e = true → e.on ≠ i := fun e he hb he2 => by
        have := hall e he hb
        rw [he2, getD_both hun] at this
        cases this
      have h1 := wpOp_put hoj (hfree j oj hoj hji hjun hno) (fun cs b => hsel i oi cs b hi) (fun cs b => hsel j oj cs b hoj) hQ hy (hH.2.2 j (ready_mono hj hji))
      refine wpOp_mono (fun a' w' h3 => ih (ls.setIfInBounds j true) a' w' (fun k ok hk hki hun' hno' => ?_) (ready_mono hr (Ne.symm hji)) h3.1 ?_) h1
      · refine hfree k ok hk hki ?_ hno'
        by_cases hjk : j = k
        · subst hjk; exact hjun
        · rw [getD_set_ne true hjk] at hun'; exact hun'
      · rw [Array.setIfInBounds_comm _ _ hji]; exact h3.2
end

/-! ### Variables that are made whenever the order has it -/
structure Fl where
  i : Nat
  d : Nat
  b : Nat
def Fl.ptr (e : Fl) : Value := .pointer (some ⟨e.b, 0, none⟩)
def pt : Act → List Fl → Act
  | a, [] => a
  | a, e :: E => (pt a E).put (some e.d) e.ptr
/-- What was made ahead of its turn: a block that nobody else knows of. -/
structure Hid (P : Program) (ops : Array Oper) (ρ : List Loc) (S : Nat → Prop) (H : List Ent) (w : World) (base : Nat) (e : Fl) : Prop where
  mk ::
  op : ∃ o T inf z, ops[e.i]? = some o ∧ o.op = .alloc T ∧ o.guard = none ∧ o.dst = some e.d ∧ P.info? T = some inf ∧ inf.zero = some z ∧ w.heap[e.b]? = some (.cells z.cells T (0, 0))
  s : ¬ S e.b
  m : ¬ mb ρ H e.b
  lo : base ≤ e.b

theorem Hid.lt {ρ : List Loc} {S : Nat → Prop} {H : List Ent} {w : World} {base : Nat} {e : Fl} (h : Hid P ops ρ S H w base e) : e.b < w.heap.size := by
  obtain ⟨o, T, inf, z, _, _, _, _, _, _, hb⟩ := h.op
  exact (Array.getElem?_eq_some_iff.1 hb).1
theorem Hid.step {ρ ρ1 : List Loc} {S S1 : Nat → Prop} {H H1 : List Ent} {w w1 : World} {base : Nat} {e : Fl} (h : Hid P ops ρ S H w base e) (hev : Ev ρ S H w ρ1 S1 H1 w1) : Hid P ops ρ1 S1 H1 w1 base e := by
  have hlt := h.lt
  obtain ⟨o, T, inf, z, h1, h2, h3, h4, h5, h6, hb⟩ := h.op
  refine ⟨⟨o, T, inf, z, h1, h2, h3, h4, h5, h6, by rw [hev.keep e.b hlt h.m]; exact hb⟩, fun hS => ?_, fun hm => ?_, h.lo⟩
  · rcases hev.imm e.b hS with h' | h' | h'
    · exact h.s h'
    · exact h.m h'
    · omega
  · rcases hev.own e.b hm with h' | h'
    · exact h.m h'
    · omega

/-- The operation stands apart from what was made ahead of its turn. -/
def Off (ops : Array Oper) (ok : Oper) (e : Fl) : Prop := e.d ∉ ok.looksAt ops ∧ ok.dst ≠ some e.d
theorem exec_pt {o : Oper} (hs : ∀ cs b, o.op ≠ .select cs b) (a : Act) : ∀ E : List Fl, (∀ e ∈ E, Off ops o e) → execOp (pt a E).eval o = execOp a.eval o ∧ Region.wanted o (yielded ops (pt a E).tmps) = Region.wanted o (yielded ops a.tmps)
  | [], _ => ⟨rfl, rfl⟩
  | e :: E, h => by
    have ih := exec_pt hs a E fun e' he => h e' (by simp [he])
    have h1 := (h e (by simp)).1
    exact ⟨(execOp_put (ops := ops) o hs (pt a E) (some e.d) e.ptr fun d hd => by cases hd; exact h1).trans ih.1, (wanted_put o (pt a E) (some e.d) e.ptr fun d hd => by cases hd; exact h1).trans ih.2⟩
theorem put_pt (a : Act) (d : Option Nat) (v : Value) : ∀ E : List Fl, (∀ e ∈ E, d ≠ some e.d) → (pt a E).put d v = pt (a.put d v) E
  | [], _ => rfl
  | e :: E, h => by
    rw [pt, pt, Act.put_comm _ e.ptr v fun d' hd => by cases hd; exact h e (by simp), put_pt a d v E fun e' he => h e' (by simp [he])]

theorem op_pt {k : Nat} {o : Oper} {Q : Exit → Act → World → Prop} {G : Act → World → Prop} (ho : ops[k]? = some o) (hs : ∀ cs b, o.op ≠ .select cs b) {a : Act} {w : World} {E : List Fl} (hE : ∀ e ∈ E, Off ops o e)
    (hQ : ∀ c a d v w, Q (.panic c) a w → Q (.panic c) (Act.put a d v) w) (h : wpOp P ops Q k (fun a' w' => G (pt a' E) w') a w) : wpOp P ops Q k G (pt a E) w := by
  have hQE : ∀ c a w, Q (.panic c) a w → ∀ E, Q (.panic c) (pt a E) w := fun c a w hq E => by
    induction E with
    | nil => exact hq
    | cons e E ih => exact hQ c _ _ _ w ih
  obtain ⟨e1, e2⟩ := exec_pt (ops := ops) hs a E hE
  have hd : ∀ e ∈ E, o.dst ≠ some e.d := fun e he => (hE e he).2
  unfold wpOp at *
  simp only [ho] at *
  rw [e2]
  split
  · rename_i hw
    rw [if_pos hw] at h
    rcases h with h | ⟨hasks, hlets⟩
    · refine .inl ?_
      unfold Oper.wp at *
      rw [e1]
      generalize (execOp a.eval o).run P w = r at *
      cases r with
      | ok n w' =>
        cases n <;> simp only [Oper.upon] at h ⊢
        case value u => rw [put_pt _ _ _ _ hd]; exact h
        case skip => rw [put_pt _ _ _ _ hd]; exact h
        case defer d =>
          have : ∀ E : List Fl, ({ pt a E with defers := d :: (pt a E).defers } : Act) = pt { a with defers := d :: a.defers } E := fun E => by
            induction E with
            | nil => rfl
            | cons e E ih => rw [pt, pt, Act.put_defers, ih]
          have h2 : ∀ b : Act, ({ b.put o.dst undef with defers := d :: (b.put o.dst undef).defers } : Act) = ({ b with defers := d :: b.defers } : Act).put o.dst undef := fun b => Act.put_defers b _ _ _
          revert h
          simp only [this, put_pt _ _ _ _ hd]
          exact fun h => h
        case enter f args =>
          refine h.mono fun e w'' he => ?_
          cases e with
          | returned u => show G ((pt a E).put o.dst u) w''; rw [put_pt _ _ _ _ hd]; exact he
          | panicked c => exact hQE _ _ _ he E
          | outgrown => exact he
        case row row args => exact h.mono fun u w'' he => by show G ((pt a E).put o.dst u) w''; rw [put_pt _ _ _ _ hd]; exact he
      | halt x w' =>
        cases x <;> simp only [Oper.upon] at h ⊢
        case panic u => exact hQE _ _ _ h E
    · exact .inr ⟨by unfold Oper.asks at *; rw [e1]; exact hasks, hlets⟩
  · rename_i hw
    rw [if_neg hw] at h
    rw [put_pt _ _ _ _ hd]; exact h

/-- What has come up: the plan's own turn, and what was made ahead of it. -/
structure Lst (ops : Array Oper) (lc : Array Bool) (E : List Fl) (ls : Array Bool) : Prop where
  s1 : ls.size = ops.size
  s2 : lc.size = ops.size
  get : ∀ j, ls.getD j false = (lc.getD j false || (E.map Fl.i).contains j)
theorem getD_set_self {ls : Array Bool} {i : Nat} (h : i < ls.size) : (ls.setIfInBounds i true).getD i false = true := by simp [h]
theorem Lst.set {lc ls : Array Bool} {E : List Fl} {k : Nat} (h : Lst ops lc E ls) (hk : k < ops.size) : Lst ops (lc.setIfInBounds k true) E (ls.setIfInBounds k true) := by
  refine ⟨by simp [h.s1], by simp [h.s2], fun j => ?_⟩
  by_cases hkj : k = j
  · subst hkj
    rw [getD_set_self (by rw [h.s1]; exact hk), getD_set_self (by rw [h.s2]; exact hk)]; rfl
  · rw [getD_set_ne false hkj, getD_set_ne false hkj]; exact h.get j
theorem Lst.add {lc ls : Array Bool} {E : List Fl} {e : Fl} (h : Lst ops lc E ls) (hk : e.i < ops.size) : Lst ops lc (e :: E) (ls.setIfInBounds e.i true) := by
  refine ⟨by simp [h.s1], h.s2, fun j => ?_⟩
  by_cases hkj : e.i = j
  · subst hkj
    rw [getD_set_self (by rw [h.s1]; exact hk)]; simp
  · rw [getD_set_ne false hkj, h.get j]
    simp [Ne.symm hkj]
theorem Lst.take {lc ls : Array Bool} {E E' : List Fl} {e : Fl} (h : Lst ops lc E ls) (hp : E.Perm (e :: E')) (hk : e.i < ops.size) : Lst ops (lc.setIfInBounds e.i true) E' ls := by
  refine ⟨h.s1, by simp [h.s2], fun j => ?_⟩
  have hc : (E.map Fl.i).contains j = ((e :: E').map Fl.i).contains j := by
    rw [Bool.eq_iff_iff, List.contains_iff_mem, List.contains_iff_mem]
    exact (hp.map Fl.i).mem_iff
  rw [h.get j, hc]
  by_cases hkj : e.i = j
  · subst hkj
    rw [getD_set_self (by rw [h.s2]; exact hk)]; simp
  · rw [getD_set_ne false hkj]
    simp [Ne.symm hkj]
theorem setAll_get : ∀ (l : List Nat) (ls : Array Bool) (j : Nat), j < ls.size → (setAll ls l).getD j false = (ls.getD j false || l.contains j)
  | [], ls, j, _ => by simp [setAll]
  | k :: l, ls, j, hj => by
    rw [setAll, setAll_get l _ j (by simpa using hj)]
    by_cases hkj : k = j
    · subst hkj; rw [getD_set_self hj]; simp
    · rw [getD_set_ne false hkj]; simp [Ne.symm hkj]
theorem setAll_size : ∀ (l : List Nat) (ls : Array Bool), (setAll ls l).size = ls.size
  | [], _ => rfl
  | k :: l, ls => by rw [setAll, setAll_size l]; simp

theorem Lst.ready {lc ls : Array Bool} {E : List Fl} {rem : List Nat} {j : Nat} (h : Lst ops lc E ls) (hE : ∀ e ∈ E, e.i ∈ rem) (hj : j ∈ Region.ready .any ops ls) :
    (j ∈ Region.ready .any ops (setAll lc rem) ∨ j ∈ rem) ∧ j ∉ E.map Fl.i ∧ lc.getD j false = false := by
  obtain ⟨hun, o, ho, hall⟩ := mem_ready.1 hj
  have hjl : j < ops.size := (Array.getElem?_eq_some_iff.1 ho).1
  have h1 := h.get j
  rw [getD_both hun] at h1
  have h2 := Bool.or_eq_false_iff.1 h1.symm
  refine ⟨?_, fun hm => ?_, h2.1⟩
  · by_cases hjr : j ∈ rem
    · exact .inr hjr
    · refine .inl (mem_ready.2 ⟨getD_in (by rw [setAll_size, h.s2]; exact hjl) ?_, o, ho, fun e he hb => ?_⟩)
      · rw [setAll_get _ _ _ (by rw [h.s2]; exact hjl), h2.1]; simpa using hjr
      · have h3 := hall e he hb
        rw [h.get] at h3
        rcases Bool.or_eq_true_iff.1 h3 with h4 | h4
        · have hlt : e.on < lc.size := by
            rcases Nat.lt_or_ge e.on lc.size with h' | h'
            · exact h'
            · simp [Array.getElem?_eq_none h'] at h4
          rw [setAll_get _ _ _ hlt, h4]; rfl
        · rw [List.contains_iff_mem] at h4
          obtain ⟨e', he', hi⟩ := List.mem_map.1 h4
          have hrem := hE e' he'
          rw [hi] at hrem
          have hlt : e.on < lc.size := by
            rw [h.s2]
            rcases Nat.lt_or_ge e.on ops.size with h' | h'
            · exact h'
            · rw [← h.get] at h3
              have : ls.size ≤ e.on := by rw [h.s1]; exact h'
              simp [Array.getElem?_eq_none this] at h3
          rw [setAll_get _ _ _ hlt]; simp [hrem]
  · have : (E.map Fl.i).contains j = true := by rw [List.contains_iff_mem]; exact hm
    rw [this] at h2; cases h2.2
theorem Lst.own {lc ls : Array Bool} {E : List Fl} {k : Nat} (h : Lst ops lc E ls) (hk : k ∈ Region.ready .any ops lc) (hn : k ∉ E.map Fl.i) : k ∈ Region.ready .any ops ls := by
  obtain ⟨hun, o, ho, hall⟩ := mem_ready.1 hk
  have hkl : k < ops.size := (Array.getElem?_eq_some_iff.1 ho).1
  refine mem_ready.2 ⟨getD_in (by rw [h.s1]; exact hkl) ?_, o, ho, fun e he hb => by rw [h.get, hall e he hb]; rfl⟩
  rw [h.get, getD_both hun]
  have : (E.map Fl.i).contains k = false := by
    rw [← Bool.not_eq_true, List.contains_iff_mem]; exact hn
  rw [this]; rfl
theorem Lst.un {lc ls : Array Bool} {E : List Fl} {k : Nat} (h : Lst ops lc E ls) (hk : ls.getD k true = false) : lc.getD k true = false := by
  have h1 := h.get k
  rw [getD_both hk] at h1
  have hlt : k < lc.size := by
    rcases Nat.lt_or_ge k ls.size with h' | h'
    · rw [h.s2, ← h.s1]; exact h'
    · simp [Array.getElem?_eq_none h'] at hk
  exact getD_in hlt (Bool.or_eq_false_iff.1 h1.symm).1

/-- What is fixed in the proof of a plan. -/
structure Ctx (P : Program) (ops : Array Oper) (pre hd hq : List Nat) (tl : List (Nat × Nat)) : Prop where
  sel : Region.noSelect ops = true
  cov : ∀ j, j < ops.size → j ∈ pre ∨ j ∈ hd ∨ j ∈ floats tl ∨ j ∈ wraps tl
  hw : ∀ j ∈ hd, j ∉ wraps tl
  fw : ∀ j ∈ floats tl, j ∉ wraps tl
  hf : ∀ j ∈ hd, j ∉ floats tl
  pf : ∀ j ∈ pre, j ∉ floats tl
  op : ∀ i ∈ floats tl, floatB P .any ops i = true
  ap : ∀ i ∈ floats tl, ∀ oi, ops[i]? = some oi → ∀ k ok, ops[k]? = some ok → k ≠ i → k ∉ pre → (∀ e ∈ ok.after, Region.binds .any e = true → e.on ≠ i) → oi.apart ops ok = true
  ch : chainL .any ops hq (wraps tl) = true ∨ wraps tl = []

theorem floatB_spec {i : Nat} (h : floatB P .any ops i = true) : ∃ o d T inf z, ops[i]? = some o ∧ o.op = .alloc T ∧ o.guard = none ∧ o.dst = some d ∧ P.info? T = some inf ∧ inf.zero = some z ∧ ∀ e ∈ o.after, Region.binds .any e = false := by
  unfold floatB at h
  split at h
  · rename_i o ho
    simp only [Bool.and_eq_true, Array.all_eq_true_iff_forall_mem, Bool.not_eq_true'] at h
    obtain ⟨⟨⟨h1, h2⟩, h3⟩, h4⟩ := h
    split at h1
    · rename_i T hT
      split at h1
      · rename_i inf hi
        obtain ⟨z, hz⟩ := Option.isSome_iff_exists.1 h1
        obtain ⟨d, hd⟩ := Option.isSome_iff_exists.1 h3
        exact ⟨o, d, T, inf, z, ho, hT, by simpa using h2, hd, hi, hz, h4⟩
      · cases h1
    · cases h1
  · cases h

theorem run_alloc {o : Oper} {T : TypeId} {inf : TypeInfo} {z : Value} (ho : o.op = .alloc T) (hi : P.info? T = some inf) (hz : inf.zero = some z) (ev : Operand → Value) (w : World) :
    (execOp ev o).run P w = .ok (.value (.pointer (some ⟨w.heap.size, 0, none⟩))) (w.alloc (.cells z.cells T)) := by
  unfold execOp
  simp only [ho, Instr.alloc, Sem.run_bind, run_zeroValue hi hz, Result.andThen_ok]
  rfl

/-- A variable is made ahead of its turn. -/
theorem make_ahead {pre hd hq : List Nat} {tl : List (Nat × Nat)} (cx : Ctx P ops pre hd hq tl) {ρ : List Loc} {S : Nat → Prop} {H : List Ent} {w : World} {base i : Nat} {a : Act} {E : List Fl} {G : Act → World → Prop} {Q : Exit → Act → World → Prop} (hi : i ∈ floats tl) (hs : Sat ρ S H w) (hb : base ≤ w.heap.size)
    (hE : ∀ e ∈ E, Hid P ops ρ S H w base e)
    (next : ∀ (e : Fl) (w' : World), e.i = i → (∃ o, ops[i]? = some o ∧ o.dst = some e.d) → Sat ρ S H w' → Ev ρ S H w ρ S H w' → (∀ e' ∈ e :: E, Hid P ops ρ S H w' base e') → (∀ e' ∈ E, e'.b ≠ e.b) → G (pt a (e :: E)) w') : wpOp P ops Q i G (pt a E) w := by
  obtain ⟨o, d, T, inf, z, ho, hop, hg, hd, hinf, hz, _⟩ := floatB_spec (cx.op i hi)
  have hwant : Region.wanted o (yielded ops (pt a E).tmps) = true := by unfold Region.wanted; rw [hg]
  unfold wpOp
  simp only [ho]
  rw [if_pos hwant]
  refine .inl ?_
  unfold Oper.wp
  rw [run_alloc hop hinf hz]
  have hold : ∀ k, k < w.heap.size → (w.alloc (.cells z.cells T)).heap[k]? = w.heap[k]? := fun k hk => by
    show (w.heap.push _)[k]? = _
    rw [Array.getElem?_push, if_neg (by omega)]
  have hs' : Sat ρ S H (w.alloc (.cells z.cells T)) := ⟨hs.len, fun j e he => by
      have := (hs.ent j e he).move (w' := w.alloc (.cells z.cells T)) [] (fun b hb => hold b (hs.blk_lt he hb)) fun b hb => hold b (hs.low b hb)
      simpa using this, hs.inj, hs.out, fun b hb => by show b < (w.heap.push _).size; have := hs.low b hb; simp; omega⟩
  have hev : Ev ρ S H w ρ S H (w.alloc (.cells z.cells T)) := ⟨⟨[], by simp⟩, rfl, rfl, rfl, by show _ ≤ (w.heap.push _).size; simp, fun b hb _ => hold b hb, fun _ h => .inl h, fun _ h => .inl h⟩
  have hnew : Hid P ops ρ S H (w.alloc (.cells z.cells T)) base ⟨i, d, w.heap.size⟩ := by
    refine ⟨⟨o, T, inf, z, ho, hop, hg, hd, hinf, hz, heap_alloc_new w _⟩, fun hS => ?_, fun hm => ?_, hb⟩
    · exact Nat.lt_irrefl _ (hs.low _ hS)
    · obtain ⟨j, e, he, heb⟩ := hm
      exact Nat.lt_irrefl _ (hs.blk_lt he heb)
  have hn := next ⟨i, d, w.heap.size⟩ _ rfl ⟨o, ho, hd⟩ hs' hev (fun e' he' => by
    cases he' with
    | head => exact hnew
    | tail _ he' => exact (hE e' he').step hev) fun e' he' => by
      have := (hE e' he').lt
      show e'.b ≠ w.heap.size
      omega
  show G ((pt a E).put o.dst _) _
  rw [hd]
  exact hn

theorem Ev.base {ρ0 ρ : List Loc} {S0 S : Nat → Prop} {H0 H : List Ent} {w0 w : World} (h : Ev ρ0 S0 H0 w0 ρ S H w) : w0.heap.size ≤ w.heap.size := h.size

/-- Its turn has come: what was made ahead is known now. -/
theorem known {ρ0 ρ : List Loc} {S0 S : Nat → Prop} {H0 H : List Ent} {w0 w : World} {e : Fl} (hs : Sat ρ S H w) (hev : Ev ρ0 S0 H0 w0 ρ S H w) (he : Hid P ops ρ S H w w0.heap.size e) {T : TypeId} {z : Value} (hb : w.heap[e.b]? = some (.cells z.cells T (0, 0))) :
    Sat (ρ ++ [⟨e.b, 0⟩]) S (H ++ [.blk T (cellsV z)]) w ∧ Ev ρ0 S0 H0 w0 (ρ ++ [⟨e.b, 0⟩]) S (H ++ [.blk T (cellsV z)]) w := by
  have hcase : ∀ (i : Nat) (f : Ent), (H ++ [Ent.blk T (cellsV z)])[i]? = some f → (i < H.length ∧ H[i]? = some f) ∨ (i = H.length ∧ f = .blk T (cellsV z)) := fun i f hf => by
    by_cases hi : i < H.length
    · rw [List.getElem?_append_left hi] at hf; exact .inl ⟨hi, hf⟩
    · have hi2 : i = H.length := by
        have := (List.getElem?_eq_some_iff.1 hf).1
        simp at this; omega
      subst hi2
      simp at hf
      exact .inr ⟨rfl, hf.symm⟩
  have hb2 : ∀ (i : Nat) (f : Ent) (b : Nat), (H ++ [Ent.blk T (cellsV z)])[i]? = some f → entB (ρ ++ [⟨e.b, 0⟩]) i f = some b → (H[i]? = some f ∧ entB ρ i f = some b) ∨ (i = H.length ∧ b = e.b) := fun i f b hf hfb => by
    rcases hcase i f hf with ⟨hi, hf'⟩ | ⟨rfl, rfl⟩
    · rw [entB_pre _ (by rw [hs.len]; exact hi)] at hfb
      exact .inl ⟨hf', hfb⟩
    · refine .inr ⟨rfl, ?_⟩
      rw [← hs.len] at hfb
      simp [entB] at hfb
      exact hfb.symm
  refine ⟨⟨by simp [hs.len], fun i f hf => ?_, fun i j f g b hf hg hfb hgb => ?_, fun b ⟨i, f, hf, hfb⟩ hS => ?_, hs.low⟩, ⟨?_, hev.os, hev.tape, hev.output, hev.size, hev.keep, hev.imm, fun b ⟨i, f, hf, hfb⟩ => ?_⟩⟩
  · rcases hcase i f hf with ⟨hi, hf'⟩ | ⟨rfl, rfl⟩
    · exact (hs.ent i f hf').move [⟨e.b, 0⟩] (fun _ _ => rfl) fun _ _ => rfl
    · exact ⟨⟨e.b, 0⟩, z.cells, by rw [← hs.len]; simp, hb, cellsV_rel _ z⟩
  · rcases hb2 i f b hf hfb with ⟨a1, a2⟩ | ⟨a1, a2⟩ <;> rcases hb2 j g b hg hgb with ⟨b1, b2⟩ | ⟨b1, b2⟩
    · exact hs.inj i j f g b a1 b1 a2 b2
    · exact absurd ⟨i, f, a1, b2 ▸ a2⟩ he.m
    · exact absurd ⟨j, g, b1, a2 ▸ b2⟩ he.m
    · omega
  · rcases hb2 i f b hf hfb with ⟨a1, a2⟩ | ⟨_, a2⟩
    · exact hs.out b ⟨i, f, a1, a2⟩ hS
    · exact he.s (a2 ▸ hS)
  · obtain ⟨t, ht⟩ := hev.pre
    exact ⟨t ++ [⟨e.b, 0⟩], by rw [ht, List.append_assoc]⟩
  · rcases hb2 i f b hf hfb with ⟨a1, a2⟩ | ⟨_, a2⟩
    · exact hev.own b ⟨i, f, a1, a2⟩
    · exact .inr (a2 ▸ he.lo)

theorem off_of {pre hd hq : List Nat} {tl : List (Nat × Nat)} (cx : Ctx P ops pre hd hq tl) {ρ : List Loc} {S : Nat → Prop} {H : List Ent} {w : World} {base : Nat} {E : List Fl} {k : Nat} {o : Oper} {lc : Array Bool} (ho : ops[k]? = some o) (hk : k ∈ Region.ready .any ops lc) (hpre : ∀ j ∈ pre, lc.getD j false = true)
    (hEf : ∀ e ∈ E, e.i ∈ floats tl ∧ lc.getD e.i false = false ∧ e.i ≠ k) (hE : ∀ e ∈ E, Hid P ops ρ S H w base e) : ∀ e ∈ E, Off ops o e := fun e he => by
  obtain ⟨hun, o', ho', hall⟩ := mem_ready.1 hk
  obtain rfl : o' = o := Option.some.inj (ho'.symm.trans ho)
  obtain ⟨oi, T, inf, z, hoi, _, _, hdst, _⟩ := (hE e he).op
  have hf := hEf e he
  have hap := cx.ap e.i hf.1 oi hoi k o' ho (Ne.symm hf.2.2) (fun hp => by have := hpre k hp; rw [getD_both hun] at this; cases this) fun x hx hb hon => by
    have := hall x hx hb
    rw [hon, hf.2.1] at this; cases this
  obtain ⟨h1, h2, _⟩ := Oper.apart_spec hap
  exact ⟨h1 e.d hdst, h2 e.d hdst⟩

theorem pt_perm (a : Act) {E E' : List Fl} (h : E.Perm E') (hd : (E.map Fl.d).Nodup) : pt a E = pt a E' := by
  induction h with
  | nil => rfl
  | cons e _ ih => rw [pt, pt, ih (List.nodup_cons.1 hd).2]
  | swap e f E =>
    rw [pt, pt, pt, pt]
    refine Act.put_comm _ _ _ fun d hd' heq => ?_
    have h1 := Option.some.inj hd'
    have h2 := Option.some.inj heq
    have h3 := (List.nodup_cons.1 hd).1
    exact h3 (by simp; exact .inl (by rw [h1, h2]))
  | trans h1 _ ih1 ih2 => rw [ih1 hd, ih2 ((h1.map Fl.d).nodup_iff.1 hd)]

/-- The state in the midst of a plan. -/
structure Mid (P : Program) (ops : Array Oper) (pre : List Nat) (tl : List (Nat × Nat)) (rem : List Nat) (w0 : World) (lc : Array Bool) (E : List Fl) (ls : Array Bool) (ρ : List Loc) (S : Nat → Prop) (H : List Ent) (w : World) : Prop where
  lst : Lst ops lc E ls
  pre : ∀ j ∈ pre, lc.getD j false = true
  sub : ∀ e ∈ E, e.i ∈ rem
  ndi : (E.map Fl.i).Nodup
  ndd : (E.map Fl.d).Nodup
  ndb : (E.map Fl.b).Nodup
  rf : ∀ i ∈ rem, i ∈ floats tl ∧ lc.getD i false = false
  ndr : rem.Nodup
  hid : ∀ e ∈ E, Hid P ops ρ S H w w0.heap.size e

theorem nodup_len : ∀ {a b : List Nat}, a.Nodup → (∀ x ∈ a, x ∈ b) → a.length ≤ b.length
  | [], _, _, _ => by simp
  | x :: a, b, h, hs => by
    have hx := hs x (by simp)
    have h1 := List.nodup_cons.1 h
    have := nodup_len (a := a) (b := b.erase x) h1.2 fun y hy => (List.mem_erase_of_ne (fun e => h1.1 (by rw [← e]; exact hy))).2 (hs y (by simp [hy]))
    rw [List.length_erase_of_mem hx] at this
    have := List.length_pos_of_mem hx
    simp; omega
theorem Mid.len {pre rem : List Nat} {tl : List (Nat × Nat)} {w0 w : World} {lc ls : Array Bool} {E : List Fl} {ρ : List Loc} {S : Nat → Prop} {H : List Ent} (m : Mid P ops pre tl rem w0 lc E ls ρ S H w) : E.length ≤ rem.length := by
  have := nodup_len (b := rem) m.ndi fun x hx => by
    obtain ⟨e, he, rfl⟩ := List.mem_map.1 hx
    exact m.sub e he
  simpa using this

/-- Two variables made in the region lie in two slots. -/
theorem Ctx.dne {pre hd hq : List Nat} {tl : List (Nat × Nat)} (cx : Ctx P ops pre hd hq tl) {i j : Nat} (hi : i ∈ floats tl) (hj : j ∈ floats tl) (hij : i ≠ j) {oi oj : Oper} (h1 : ops[i]? = some oi) (h2 : ops[j]? = some oj) {d e : Nat} (hd1 : oi.dst = some d) (he : oj.dst = some e) : d ≠ e := by
  obtain ⟨oj', _, _, _, _, hoj', _, _, _, _, _, haft⟩ := floatB_spec (cx.op j hj)
  obtain rfl := Option.some.inj (hoj'.symm.trans h2)
  have hap := cx.ap i hi oi h1 j oj' h2 (Ne.symm hij) (fun hp => cx.pf j hp hj) fun x hx hb => by rw [haft x hx] at hb; cases hb
  have := (Oper.apart_spec hap).2.1 d hd1
  intro heq
  exact this (by rw [heq]; exact he)

theorem Mid.step {pre rem : List Nat} {tl : List (Nat × Nat)} {w0 w w1 : World} {lc ls : Array Bool} {E : List Fl} {ρ ρ1 : List Loc} {S S1 : Nat → Prop} {H H1 : List Ent} (m : Mid P ops pre tl rem w0 lc E ls ρ S H w) {k : Nat} (hk : k < ops.size) (hkr : k ∉ rem) (hev : Ev ρ S H w ρ1 S1 H1 w1) :
    Mid P ops pre tl rem w0 (lc.setIfInBounds k true) E (ls.setIfInBounds k true) ρ1 S1 H1 w1 :=
  ⟨m.lst.set hk, fun j hj => getD_set_true (m.pre j hj), m.sub, m.ndi, m.ndd, m.ndb, fun i hi => ⟨(m.rf i hi).1, by rw [getD_set_ne false (show k ≠ i from fun h => hkr (h ▸ hi))]; exact (m.rf i hi).2⟩, m.ndr, fun e he => (m.hid e he).step hev⟩

theorem Mid.ahead {pre hd hq rem : List Nat} {tl : List (Nat × Nat)} (cx : Ctx P ops pre hd hq tl) {w0 w w1 : World} {lc ls : Array Bool} {E : List Fl} {ρ : List Loc} {S : Nat → Prop} {H : List Ent} (m : Mid P ops pre tl rem w0 lc E ls ρ S H w) {e : Fl} (hi : e.i ∈ rem) (hn : e.i ∉ E.map Fl.i)
    (hd : ∃ o, ops[e.i]? = some o ∧ o.dst = some e.d) (hb : ∀ e' ∈ E, e'.b ≠ e.b) (hh : ∀ e' ∈ e :: E, Hid P ops ρ S H w1 w0.heap.size e') : Mid P ops pre tl rem w0 lc (e :: E) (ls.setIfInBounds e.i true) ρ S H w1 := by
  obtain ⟨o, ho, hdst⟩ := hd
  refine ⟨m.lst.add (Array.getElem?_eq_some_iff.1 ho).1, m.pre, fun e' he' => ?_, List.nodup_cons.2 ⟨hn, m.ndi⟩, List.nodup_cons.2 ⟨fun hm => ?_, m.ndd⟩, List.nodup_cons.2 ⟨fun hm => ?_, m.ndb⟩, m.rf, m.ndr, hh⟩
  · cases he' with
    | head => exact hi
    | tail _ he' => exact m.sub e' he'
  · obtain ⟨e', he', hde⟩ := List.mem_map.1 hm
    obtain ⟨o', _, _, _, ho', _, _, hd', _⟩ := (m.hid e' he').op
    exact cx.dne (m.rf _ hi).1 (m.rf _ (m.sub e' he')).1 (fun heq => hn (heq ▸ List.mem_map.2 ⟨e', he', rfl⟩)) ho ho' hdst hd' hde.symm
  · obtain ⟨e', he', hbe⟩ := List.mem_map.1 hm
    exact hb e' he' hbe

/-- What is ready besides the plan's own turn was to be made anyway: it is made. -/
theorem Mid.others {pre hd hq rem : List Nat} {tl : List (Nat × Nat)} (cx : Ctx P ops pre hd hq tl) {w0 w : World} {lc ls : Array Bool} {E : List Fl} {ρ ρ0 : List Loc} {S S0 : Nat → Prop} {H H0 : List Ent} (m : Mid P ops pre tl rem w0 lc E ls ρ S H w) {a : Act} {Q : Exit → Act → World → Prop} {G : Act → World → Prop} {i : Nat} (hs : Sat ρ S H w) (hev : Ev ρ0 S0 H0 w0 ρ S H w)
    (hi : i ∈ rem) (hn : i ∉ E.map Fl.i) (next : ∀ (e : Fl) (w1 : World), e.i = i → Sat ρ S H w1 → Ev ρ S H w ρ S H w1 → Mid P ops pre tl rem w0 lc (e :: E) (ls.setIfInBounds i true) ρ S H w1 → G (pt a (e :: E)) w1) : wpOp P ops Q i G (pt a E) w := by
  refine make_ahead cx (m.rf i hi).1 hs hev.size m.hid fun e w1 he hd hs1 hev1 hh hb => ?_
  subst he
  exact next e w1 rfl hs1 hev1 (m.ahead cx hi hn hd hb hh)

section
variable {K : Ex → List AV → List Ent → Prop} {ρ0 : List Loc} {S0 : Nat → Prop} {H0 : List Ent} {w0 : World} {dfs : List Deferred}

theorem post_put (c : List PanicEntry) (a : Act) (d : Option Nat) (v : Value) (w : World) (h : Post ρ0 S0 H0 w0 dfs K (.panic c) a w) : Post ρ0 S0 H0 w0 dfs K (.panic c) (a.put d v) w := by
  obtain ⟨ρ', S', s', H', ex, h1, h2, h3, h4, h5, h6⟩ := h
  cases ex with
  | pan c' => exact ⟨ρ', S', s', H', .pan c', h1, h2, trivial, by rw [put_defers]; exact h4, h5, h6⟩
  | normal => exact h5.elim
  | ret => exact h5.elim
  | exit n => exact h5.elim

theorem rem_le : ∀ (l : List (Nat × Nat)) (rem : List Nat) (lc : Array Bool), tlB .any ops l rem lc = true → rem.Nodup → rem.length ≤ l.length
  | [], rem, lc, h, _ => by simp [tlB] at h; rw [h.1]; simp
  | (k, q) :: l, rem, lc, h, hn => by
    match q with
    | 0 => simp only [tlB, Bool.and_eq_true] at h; have := rem_le l rem _ h.2 hn; simp; omega
    | 1 => simp only [tlB, Bool.and_eq_true] at h; have := rem_le l rem _ h.2 hn; simp; omega
    | q + 2 =>
      simp only [tlB, Bool.and_eq_true] at h
      have := rem_le l _ _ h.2 (hn.erase k)
      have h2 := List.length_erase_of_mem (a := k) (l := rem) (by simpa using h.1.1)
      simp; omega

theorem tail_any {pre hd hq : List Nat} {tl : List (Nat × Nat)} (cx : Ctx P ops pre hd hq tl) : ∀ (l : List (Nat × Nat)) (s : List AV) (H : List Ent), execT P ops l s H K → ∀ (rem : List Nat) (lc : Array Bool), tlB .any ops l rem lc = true →
    ∀ (n : Nat) (E : List Fl), n + E.length = rem.length → ∀ (ls : Array Bool) (ρ : List Loc) (S : Nat → Prop) (w : World) (a : Act), Mid P ops pre tl rem w0 lc E ls ρ S H w → Ev ρ0 S0 H0 w0 ρ S H w → a.defers = dfs → Sat ρ S H w → RelS ρ s a.tmps.toList →
      wpAny P .any ops (Post ρ0 S0 H0 w0 dfs K) (l.length - E.length) ls (pt a E) w
  | [], s, H, h, rem, lc, hB, n, E, hn, ls, ρ, S, w, a, m, hev, hdf, hs, hr => by
    simp only [tlB, Bool.and_eq_true, List.isEmpty_iff] at hB
    have hE : E = [] := by rw [hB.1] at hn; simp at hn; exact hn.2
    subst hE
    refine ⟨?_, ρ, S, s, H, .normal, hs, hev, hr, hdf, trivial, h⟩
    rw [List.eq_nil_iff_forall_not_mem]
    intro j hj
    rcases (m.lst.ready (rem := rem) m.sub hj).1 with h1 | h1
    · rw [hB.1] at h1; rw [show setAll lc [] = lc from rfl, hB.2] at h1; cases h1
    · rw [hB.1] at h1; cases h1
  | (k, q) :: l, s, H, h0, rem, lc, hB, n, E, hn, ls, ρ, S, w, a, m, hev, hdf, hs, hr => by
    have hp : pickK ops k fun o => wantK ops o s (fun s => tailK P o s H q fun out H' => match out with
        | .val av => putK s o.dst av fun s' => execT P ops l s' H' K
        | .vals _ => False
        | .pan c => K (.pan c) s H') (fun s => putK s o.dst (.c (.v undef)) fun s' => execT P ops l s' H K) := h0
    obtain ⟨o, ho, hq⟩ := pickK_spec hp
    clear hp
    have hkl : k < ops.size := (Array.getElem?_eq_some_iff.1 ho).1
    have hrl := rem_le _ _ _ hB m.ndr
    have hEl := m.len
    have hsel := Region.noSelect_spec cx.sel k o
    match q with
    | 0 =>
      simp only [tlB, Bool.and_eq_true, decide_eq_true_eq, Bool.not_eq_true', List.contains_iff_mem] at hB
      obtain ⟨⟨⟨hk1, hk2⟩, hk3⟩, hB⟩ := hB
      have hk1 : k ∈ Region.ready .any ops lc := by simpa using hk1
      have hk3 : k ∉ rem := by intro hm; rw [← List.contains_iff_mem] at hm; rw [hm] at hk3; cases hk3
      have hrl2 := rem_le _ _ _ hB m.ndr
      have hkE : k ∉ E.map Fl.i := fun hm => by obtain ⟨e, he, hi⟩ := List.mem_map.1 hm; exact hk3 (hi ▸ m.sub e he)
      rw [show ((k, 0) :: l).length - E.length = (l.length - E.length) + 1 by simp; omega]
      have hoff := off_of cx ho hk1 m.pre (fun e he => ⟨(m.rf _ (m.sub e he)).1, (m.rf _ (m.sub e he)).2, fun h => hk3 (h ▸ m.sub e he)⟩) m.hid
      refine ⟨fun h1 => absurd (m.lst.own hk1 hkE) (by rw [h1]; simp), fun i hi => ?_⟩
      have hrd := m.lst.ready m.sub hi
      by_cases hik : i = k
      · subst hik
        refine op_pt ho (fun cs b => hsel cs b ho) hoff (fun c a d v w h => post_put c a d v w h) ?_
        unfold wpOp
        simp only [ho]
        rcases wantK_spec hq hr with ⟨hw, s', h', hr'⟩ | ⟨hw, s', h', hr'⟩
        · rw [if_pos hw]
          refine .inl (step_sound (K := fun out H' => match out with
            | .val av => putK s' o.dst av fun s2 => execT P ops l s2 H' K
            | .vals _ => False
            | .pan c => K (.pan c) s' H') h' hs hr' (fun ρ1 S1 H1 w1 av v hs1 hev1 hrel hK => ?_) (fun ρ1 S1 H1 w1 c hs1 hev1 hK => ?_) fun _ _ h => h)
          · obtain ⟨s2, hK2, hput⟩ := putK_spec hK
            have hrs : RelS ρ1 s' a.tmps.toList := by obtain ⟨t, ht⟩ := hev1.pre; rw [ht]; exact RelS_pre t hr'
            exact tail_any cx l s2 H1 hK2 rem _ hB n E hn _ ρ1 S1 w1 _ (m.step hkl hk3 hev1) (hev.trans hev1) (by rw [put_defers]; exact hdf) hs1 (hput ρ1 a v hrs hrel)
          · exact ⟨ρ1, S1, s', H1, .pan c, hs1, hev.trans hev1, trivial, hdf, rfl, hK⟩
        · rw [if_neg (by simp [hw])]
          obtain ⟨s2, hK2, hput⟩ := putK_spec h'
          exact tail_any cx l s2 H hK2 rem _ hB n E hn _ ρ S w _ (m.step hkl hk3 (Ev.refl _ _ _ _)) hev (by rw [put_defers]; exact hdf) hs (hput ρ a undef hr' rfl)
      · have hir : i ∈ rem := by
          rcases hrd.1 with h1 | h1
          · rw [hk2] at h1; simp at h1; exact absurd h1 hik
          · exact h1
        have hEl2 : E.length + 1 ≤ rem.length := by
          have := nodup_len (b := rem) (a := i :: E.map Fl.i) (List.nodup_cons.2 ⟨hrd.2.1, m.ndi⟩) fun x hx => by
            cases hx with
            | head => exact hir
            | tail _ hx => obtain ⟨e, he, rfl⟩ := List.mem_map.1 hx; exact m.sub e he
          simpa using this
        refine m.others cx hs hev hir hrd.2.1 fun e w1 he hs1 hev1 hm1 => ?_
        have := tail_any cx ((k, 0) :: l) s H h0 rem lc (by simp only [tlB, Bool.and_eq_true, decide_eq_true_eq]; exact ⟨⟨⟨by simpa using hk1, hk2⟩, by simpa using hk3⟩, hB⟩) (n - 1) (e :: E) (by simp; omega) _ ρ S w1 a hm1 (hev.trans hev1) hdf hs1 hr
        rw [show ((k, 0) :: l).length - (e :: E).length = l.length - E.length by simp] at this
        exact this
    | 1 =>
      simp only [tlB, Bool.and_eq_true, Bool.not_eq_true', List.contains_iff_mem] at hB
      obtain ⟨⟨⟨hk1, hfr⟩, hk3⟩, hB⟩ := hB
      have hk1 : k ∈ Region.ready .any ops lc := by simpa using hk1
      have hk3 : k ∉ rem := by intro hm; rw [← List.contains_iff_mem] at hm; rw [hm] at hk3; cases hk3
      have hrl2 := rem_le _ _ _ hB m.ndr
      have hkE : k ∉ E.map Fl.i := fun hm => by obtain ⟨e, he, hi⟩ := List.mem_map.1 hm; exact hk3 (hi ▸ m.sub e he)
      rw [show ((k, 1) :: l).length - E.length = (l.length - E.length) + 1 by simp; omega]
      have hoff := off_of cx ho hk1 m.pre (fun e he => ⟨(m.rf _ (m.sub e he)).1, (m.rf _ (m.sub e he)).2, fun h => hk3 (h ▸ m.sub e he)⟩) m.hid
      have hd' : ∀ e ∈ E, o.dst ≠ some e.d := fun e he => (hoff e he).2
      have fin : ∀ (v : Value) (s2 : List AV), Yields P ops o v a → execT P ops l s2 H K → RelS ρ s2 (a.put o.dst v).tmps.toList → wpAny P .any ops (Post ρ0 S0 H0 w0 dfs K) (l.length - E.length + 1) ls (pt a E) w := fun v s2 hy hK hr2 => by
        have he := exec_pt (ops := ops) (fun cs b => hsel cs b ho) a E hoff
        refine wpAny_first ho (Region.noSelect_spec cx.sel) (fun c a w h => h.put) _ ls _ w (fun j oj hj hne hun hno => Region.free_spec ho hfr j oj hj hne (m.lst.un hun) hno) (m.lst.own hk1 hkE) (hy.of_same he.1 he.2) ?_
        rw [put_pt _ _ _ _ hd']
        exact tail_any cx l s2 H hK rem _ hB n E hn _ ρ S w _ (m.step hkl hk3 (Ev.refl _ _ _ _)) hev (by rw [put_defers]; exact hdf) hs hr2
      rcases wantK_spec hq hr with ⟨hw, s', h', hr'⟩ | ⟨hw, s', h', hr'⟩
      · obtain ⟨av, v, hK, hrel, hrun⟩ := blind_sound (K := fun av => putK s' o.dst av fun s2 => execT P ops l s2 H K) h' hr'
        obtain ⟨s2, hK2, hput⟩ := putK_spec hK
        exact fin v s2 (.inl ⟨hw, hrun⟩) hK2 (hput ρ a v hr' hrel)
      · obtain ⟨s2, hK2, hput⟩ := putK_spec h'
        exact fin undef s2 (.inr ⟨hw, rfl⟩) hK2 (hput ρ a undef hr' rfl)
    | q + 2 =>
      have hB0 := hB
      simp only [tlB, Bool.and_eq_true, decide_eq_true_eq, List.contains_iff_mem] at hB
      obtain ⟨⟨hk1, hk2⟩, hB⟩ := hB
      have hk1 : k ∈ rem := by simpa using hk1
      have hrl2 := rem_le _ _ _ hB (m.ndr.erase k)
      have hle := List.length_erase_of_mem hk1
      have hpos : 0 < rem.length := List.length_pos_of_mem hk1
      obtain ⟨o', d, T, inf, z, ho', hop, hg, hdst, hinf, hz, haft⟩ := floatB_spec (cx.op k (m.rf k hk1).1)
      obtain rfl : o' = o := Option.some.inj (ho'.symm.trans ho)
      -- the plan's own state behind its turn
      have hst : ∃ s2, execT P ops l s2 (H ++ [.blk T (cellsV z)]) K ∧ ∀ (ρ : List Loc) (a : Act) (v : Value), RelS ρ s a.tmps.toList → (AV.c (.lp H.length 0)).rel ρ v → RelS ρ s2 (a.put o'.dst v).tmps.toList := by
        have h1 : ownK P o' H fun out H' => match out with
          | .val av => putK s o'.dst av fun s' => execT P ops l s' H' K
          | .vals _ => False
          | .pan c => K (.pan c) s H' := by
          have h2 := hq
          unfold wantK at h2
          rw [hg] at h2
          exact h2
        simp only [ownK, hop, hinf, hz] at h1
        rw [snocK_eq, Nat.zero_add] at h1
        exact putK_spec h1
      obtain ⟨s2, hK2, hput⟩ := hst
      have mid2 : ∀ (E' : List Fl) (ls' : Array Bool) (ρ1 : List Loc) (S1 : Nat → Prop) (H1 : List Ent) (w1 : World), Lst ops (lc.setIfInBounds k true) E' ls' → (∀ e ∈ E', e ∈ E) → (E'.map Fl.i).Nodup → (E'.map Fl.d).Nodup → (E'.map Fl.b).Nodup → (∀ e ∈ E', e.i ≠ k) → (∀ e ∈ E', Hid P ops ρ1 S1 H1 w1 w0.heap.size e) →
          Mid P ops pre tl (rem.erase k) w0 (lc.setIfInBounds k true) E' ls' ρ1 S1 H1 w1 := fun E' ls' ρ1 S1 H1 w1 hl hsub h1 h2 h3b hne hh =>
        ⟨hl, fun j hj => getD_set_true (m.pre j hj), fun e he => (List.mem_erase_of_ne (hne e he)).2 (m.sub e (hsub e he)), h1, h2, h3b, fun i hi => by
          have h3 : i ∈ rem := List.mem_of_mem_erase hi
          have hne' : k ≠ i := fun h => by subst h; exact (List.Nodup.not_mem_erase m.ndr) hi
          exact ⟨(m.rf i h3).1, by rw [getD_set_ne false hne']; exact (m.rf i h3).2⟩, m.ndr.erase k, hh⟩
      by_cases hkE : k ∈ E.map Fl.i
      · obtain ⟨e, he, hei⟩ := List.mem_map.1 hkE
        obtain ⟨E', hE'⟩ : ∃ E', E.Perm (e :: E') := by
          obtain ⟨l1, l2, rfl⟩ := List.append_of_mem he
          exact ⟨l1 ++ l2, List.perm_middle⟩
        have hh := m.hid e he
        obtain ⟨oe, Te, infe, ze, hoe, hope, _, hde, hinfe, hze, hheap⟩ := hh.op
        rw [hei, ho] at hoe
        obtain rfl := Option.some.inj hoe
        rw [hop] at hope; cases hope
        rw [hinf] at hinfe; cases hinfe
        rw [hz] at hze; cases hze
        have hkn := known hs hev hh hheap
        have hEmem : ∀ e' ∈ E', e' ∈ E := fun e' he' => hE'.mem_iff.2 (by simp [he'])
        have hndi := (hE'.map Fl.i).nodup_iff.1 m.ndi
        have hndd := (hE'.map Fl.d).nodup_iff.1 m.ndd
        have hndb := (hE'.map Fl.b).nodup_iff.1 m.ndb
        have hbne : ∀ e' ∈ E', ¬ mb (ρ ++ [⟨e.b, 0⟩]) (H ++ [.blk T (cellsV z)]) e'.b := fun e' he' ⟨j, f, hf, hfb⟩ => by
          by_cases hj : j < H.length
          · rw [List.getElem?_append_left hj] at hf
            rw [entB_pre _ (by rw [hs.len]; exact hj)] at hfb
            exact (m.hid e' (hEmem e' he')).m ⟨j, f, hf, hfb⟩
          · have hj2 : j = H.length := by
              have := (List.getElem?_eq_some_iff.1 hf).1
              simp at this; omega
            subst hj2
            simp at hf
            subst hf
            rw [← hs.len] at hfb
            simp [entB] at hfb
            exact (List.nodup_cons.1 hndb).1 (List.mem_map.2 ⟨e', he', hfb.symm⟩)
        have hlen : E.length = E'.length + 1 := by rw [hE'.length_eq]; rfl
        rw [show ((k, q + 2) :: l).length - E.length = l.length - E'.length by simp; omega]
        rw [pt_perm a hE' m.ndd, pt, put_pt _ _ _ _ (fun e' he' heq => (List.nodup_cons.1 hndd).1 (List.mem_map.2 ⟨e', he', (Option.some.inj heq).symm⟩))]
        have := tail_any cx l s2 _ hK2 (rem.erase k) _ hB n E' (by omega) ls _ S w (a.put (some e.d) e.ptr) (mid2 E' ls _ S _ w (by rw [← hei]; exact m.lst.take hE' (by rw [hei]; exact hkl)) hEmem (List.nodup_cons.1 hndi).2 (List.nodup_cons.1 hndd).2 (List.nodup_cons.1 hndb).2 (fun e' he' h => (List.nodup_cons.1 hndi).1 (by rw [hei, ← h]; exact List.mem_map.2 ⟨e', he', rfl⟩)) fun e' he' => by
            have h1 := m.hid e' (hEmem e' he')
            exact ⟨h1.op, h1.s, hbne e' he', h1.lo⟩) hkn.2 (by rw [put_defers]; exact hdf) hkn.1 (by
            have h1 := hput (ρ ++ [⟨e.b, 0⟩]) a e.ptr (RelS_pre _ hr) ⟨⟨e.b, 0⟩, by rw [← hs.len]; simp, rfl⟩
            rw [hde] at h1
            exact h1)
        exact this
      · have hEk : ∀ e ∈ E, e.i ∈ rem.erase k := fun e he => (List.mem_erase_of_ne (fun h => hkE (List.mem_map.2 ⟨e, he, h⟩))).2 (m.sub e he)
        have hEl3 : E.length + 1 ≤ rem.length := by
          have := nodup_len (b := rem.erase k) m.ndi fun x hx => by obtain ⟨e, he, rfl⟩ := List.mem_map.1 hx; exact hEk e he
          simp at this; omega
        rw [show ((k, q + 2) :: l).length - E.length = (l.length - E.length) + 1 by simp; omega]
        have hkc : k ∈ Region.ready .any ops lc := mem_ready.2 ⟨getD_in (by rw [m.lst.s2]; exact hkl) (m.rf k hk1).2, o', ho, fun e he hb => by rw [haft e he] at hb; cases hb⟩
        refine ⟨fun h1 => absurd (m.lst.own hkc hkE) (by rw [h1]; simp), fun i hi => ?_⟩
        have hrd := m.lst.ready hEk hi
        have hir : i ∈ rem := by
          rcases hrd.1 with h1 | h1
          · rw [hk2] at h1; simp at h1; rw [h1]; exact hk1
          · exact List.mem_of_mem_erase h1
        refine m.others cx hs hev hir hrd.2.1 fun e w1 he hs1 hev1 hm1 => ?_
        have := tail_any cx ((k, q + 2) :: l) s H h0 rem lc hB0 (n - 1) (e :: E) (by simp; omega) _ ρ S w1 a hm1 (hev.trans hev1) hdf hs1 hr
        rw [show ((k, q + 2) :: l).length - (e :: E).length = l.length - E.length by simp] at this
        exact this
termination_by l _ _ _ _ _ _ n => (l.length, n)
decreasing_by all_goals (simp_wf; first | omega | (right; omega) | (left; omega))
end

section
variable {K : Ex → List AV → List Ent → Prop} {ρ0 : List Loc} {S0 : Nat → Prop} {H0 : List Ent} {w0 : World} {dfs : List Deferred}

theorem tail_C {pre hd hq : List Nat} {tl : List (Nat × Nat)} (cx : Ctx P ops pre hd hq tl) {s : List AV} {H : List Ent} (hx : execT P ops tl s H K) {lc : Array Bool} (hB : tlB .any ops tl (floats tl) lc = true) (hcov : ∀ j, j < ops.size → lc.getD j false = false → j ∈ floats tl ∨ j ∈ wraps tl) :
    ∀ (n : Nat) (E : List Fl), n + E.length = (floats tl).length → ∀ (ls : Array Bool) (ρ : List Loc) (S : Nat → Prop) (w : World) (a : Act), Mid P ops pre tl (floats tl) w0 lc E ls ρ S H w → Ev ρ0 S0 H0 w0 ρ S H w → a.defers = dfs → Sat ρ S H w → RelS ρ s a.tmps.toList →
      AnyC P ops (Post ρ0 S0 H0 w0 dfs K) (Cls ρ S H w) (wraps tl) (tl.length - E.length) ls (pt a E) w := by
  intro n
  induction n with
  | zero =>
    intro E hn ls ρ S w a m hev hdf hs hr
    have hA := tail_any cx tl s H hx (floats tl) lc hB 0 E hn ls ρ S w a m hev hdf hs hr
    have hself : Cls ρ S H w w := ⟨S, hs, Ev.refl _ _ _ _⟩
    generalize tl.length - E.length = f at hA ⊢
    cases f with
    | zero => exact ⟨fun _ => hself, hA⟩
    | succ f =>
      refine ⟨fun _ => hself, hA.1, fun i hi => ?_⟩
      have hrd := m.lst.ready m.sub hi
      have hil : i < ops.size := by obtain ⟨_, o, ho, _⟩ := mem_ready.1 hi; exact (Array.getElem?_eq_some_iff.1 ho).1
      rcases hcov i hil hrd.2.2 with h | h
      · have : E.length + 1 ≤ (floats tl).length := by
          have := nodup_len (b := floats tl) (a := i :: E.map Fl.i) (List.nodup_cons.2 ⟨hrd.2.1, m.ndi⟩) fun x hx => by
            cases hx with
            | head => exact h
            | tail _ hx => obtain ⟨e, he, rfl⟩ := List.mem_map.1 hx; exact m.sub e he
          simpa using this
        omega
      · exact wpOp_mono (fun a w => anyC_of h f _ a w (getD_set_self (by rw [m.lst.s1]; exact hil))) (hA.2 i hi)
  | succ n ih =>
    intro E hn ls ρ S w a m hev hdf hs hr
    have hA := tail_any cx tl s H hx (floats tl) lc hB (n + 1) E hn ls ρ S w a m hev hdf hs hr
    have hself : Cls ρ S H w w := ⟨S, hs, Ev.refl _ _ _ _⟩
    have hrl := rem_le _ _ _ hB m.ndr
    rw [show tl.length - E.length = (tl.length - (E.length + 1)) + 1 by omega] at hA ⊢
    refine ⟨fun _ => hself, hA.1, fun i hi => ?_⟩
    have hrd := m.lst.ready m.sub hi
    have hil : i < ops.size := by obtain ⟨_, o, ho, _⟩ := mem_ready.1 hi; exact (Array.getElem?_eq_some_iff.1 ho).1
    rcases hcov i hil hrd.2.2 with h | h
    · refine m.others cx hs hev h hrd.2.1 fun e w1 he hs1 hev1 hm1 => ?_
      have := ih (e :: E) (by simp; omega) _ ρ S w1 a hm1 (hev.trans hev1) hdf hs1 hr
      exact AnyC.mono (fun w' ⟨S', h1, h2⟩ => ⟨S', h1, hev1.trans h2⟩) _ _ _ _ this
    · exact wpOp_mono (fun a w => anyC_of h _ _ a w (getD_set_self (by rw [m.lst.s1]; exact hil))) (hA.2 i hi)

theorem Mid.inv {pre hd hq : List Nat} {tl : List (Nat × Nat)} (cx : Ctx P ops pre hd hq tl) {w : World} {lc ls : Array Bool} {E : List Fl} {ρ : List Loc} {S : Nat → Prop} {H : List Ent} (m : Mid P ops pre tl (floats tl) w0 lc E ls ρ S H w) (inv : PInv .any ops pre (wraps tl) lc) : PInv .any ops pre (wraps tl) ls := by
  have hin : ∀ j, (E.map Fl.i).contains j = true → j ∈ floats tl := fun j hj => by
    rw [List.contains_iff_mem] at hj
    obtain ⟨e, he, rfl⟩ := List.mem_map.1 hj
    exact m.sub e he
  refine ⟨m.lst.s1, fun j oj hj hl e he hb => ?_, fun t ht => ?_, fun k hk => by rw [m.lst.get, inv.pre k hk]; rfl⟩
  · rw [m.lst.get] at hl ⊢
    rcases Bool.or_eq_true_iff.1 hl with h | h
    · rw [inv.closed j oj hj h e he hb]; rfl
    · obtain ⟨o', _, _, _, _, ho', _, _, _, _, _, haft⟩ := floatB_spec (cx.op j (hin j h))
      obtain rfl := Option.some.inj (ho'.symm.trans hj)
      rw [haft e he] at hb; cases hb
  · rw [m.lst.get, inv.tl t ht]
    cases h : (E.map Fl.i).contains t with
    | false => rfl
    | true => exact absurd ht (cx.fw t (hin t h))

theorem head_C {pre hd hq : List Nat} {tl : List (Nat × Nat)} (cx : Ctx P ops pre hd hq tl) {lc2 : Array Bool} (hB2 : tlB .any ops tl (floats tl) lc2 = true) (hcov : ∀ j, j < ops.size → lc2.getD j false = false → j ∈ floats tl ∨ j ∈ wraps tl) :
    ∀ (l : List (Nat × Nat)) (s : List AV) (H : List Ent), execH P ops l s H (fun s2 H2 => execT P ops tl s2 H2 K) → ∀ (lc : Array Bool), hdB .any ops (floats tl) l lc = true → (∀ j ∈ l.map Prod.fst, j ∈ hd) → (∀ j ∈ reads l, j ∈ hq) → setAll lc (l.map Prod.fst) = lc2 → PInv .any ops pre (wraps tl) lc →
    ∀ (n : Nat) (E : List Fl), n + E.length = (floats tl).length → ∀ (ls : Array Bool) (ρ : List Loc) (S : Nat → Prop) (w : World) (a : Act), Mid P ops pre tl (floats tl) w0 lc E ls ρ S H w → Ev ρ0 S0 H0 w0 ρ S H w → a.defers = dfs → Sat ρ S H w → RelS ρ s a.tmps.toList →
      AnyC P ops (Post ρ0 S0 H0 w0 dfs K) (Cls ρ S H w) (wraps tl) (l.length + (tl.length - E.length)) ls (pt a E) w
  | [], s, H, h, lc, _, _, _, he, _, n, E, hn, ls, ρ, S, w, a, m, hev, hdf, hs, hr => by
    have he' : lc = lc2 := he
    subst he'
    rw [List.length_nil, Nat.zero_add]
    exact tail_C cx h hB2 hcov n E hn ls ρ S w a m hev hdf hs hr
  | (k, q) :: l, s, H, h0, lc, hB, hl, hlq, he, inv, n, E, hn, ls, ρ, S, w, a, m, hev, hdf, hs, hr => by
    have hp : pickK ops k fun o => wantK ops o s (fun s => headK P o s H q fun av H' => putK s o.dst av fun s' => execH P ops l s' H' (fun s2 H2 => execT P ops tl s2 H2 K)) (fun s => putK s o.dst (.c (.v undef)) fun s' => execH P ops l s' H (fun s2 H2 => execT P ops tl s2 H2 K)) := h0
    obtain ⟨o, ho, hq'⟩ := pickK_spec hp
    clear hp
    have hkl : k < ops.size := (Array.getElem?_eq_some_iff.1 ho).1
    have hself : Cls ρ S H w w := ⟨S, hs, Ev.refl _ _ _ _⟩
    have hkd : k ∈ hd := hl k (by simp)
    have hkr : k ∉ floats tl := cx.hf k hkd
    have hkE : k ∉ E.map Fl.i := fun hm => by obtain ⟨e, he, hi⟩ := List.mem_map.1 hm; exact hkr (hi ▸ m.sub e he)
    have hl' : ∀ j ∈ l.map Prod.fst, j ∈ hd := fun j hj => hl j (by simp at hj ⊢; exact .inr hj)
    have hsel := Region.noSelect_spec cx.sel k o
    have hlq' : ∀ j ∈ reads l, j ∈ hq := fun j hj => hlq j (by unfold reads at hj ⊢; rw [List.filter_cons]; split <;> simp_all)
    match q with
    | 1 =>
      have hB0 := hB
      simp only [hdB, Bool.and_eq_true] at hB
      have hrd : k ∈ Region.ready .any ops lc := by simpa using hB.1.1
      have inv' := inv.set hrd (cx.hw k hkd)
      have hoff := off_of cx ho hrd m.pre (fun e he => ⟨m.sub e he, (m.rf _ (m.sub e he)).2, fun h => hkr (h ▸ m.sub e he)⟩) m.hid
      have hd' : ∀ e ∈ E, o.dst ≠ some e.d := fun e he => (hoff e he).2
      have hex := exec_pt (ops := ops) (fun cs b => hsel cs b ho) a E hoff
      have fin : ∀ (v : Value) (s2 : List AV), YR P ops (Cls ρ S H w) o v a → execH P ops l s2 H (fun s2 H2 => execT P ops tl s2 H2 K) → RelS ρ s2 (a.put o.dst v).tmps.toList → AnyC P ops (Post ρ0 S0 H0 w0 dfs K) (Cls ρ S H w) (wraps tl) (l.length + (tl.length - E.length) + 1) ls (pt a E) w := fun v s2 hy hK hr2 => by
        refine anyC_take (fl := floats tl) ho (Region.noSelect_spec cx.sel) (fun c a w h => h.put) cx.ch cx.cov cx.hw cx.fw hkd (hlq k (by unfold reads; simp)) _ ls _ w (m.inv cx inv) (fun j oj hj hne hun hno => Region.free_spec ho hB.1.2 j oj hj hne (m.lst.un hun) hno) (m.lst.own hrd hkE) (hy.same hex.1 hex.2) ?_
        rw [put_pt _ _ _ _ hd']
        exact head_C cx hB2 hcov l s2 H hK _ hB.2 hl' hlq' he inv' n E hn _ ρ S w _ (m.step hkl hkr (Ev.refl _ _ _ _)) hev (by rw [put_defers]; exact hdf) hs hr2
      rw [show ((k, 1) :: l).length + (tl.length - E.length) = l.length + (tl.length - E.length) + 1 by simp; omega]
      rcases wantK_spec hq' hr with ⟨hw, s', h', hr'⟩ | ⟨hw, s', h', hr'⟩
      · obtain ⟨av, hK, hreads⟩ := read_sound (show readK P o s' H _ from h')
        split at hK
        · rename_i hdet
          obtain ⟨v, hrun, hrel⟩ := hreads ρ S w a hs hr'
          obtain ⟨s2, hK2, hput⟩ := putK_spec hK
          refine fin v s2 (.inl ⟨hw, fun w' ⟨S', hs', _⟩ => ?_⟩) hK2 (hput ρ a v hr' hrel)
          obtain ⟨v', hrun', hrel'⟩ := hreads ρ S' w' a hs' hr'
          rw [detA_uniq hdet hrel hrel']; exact hrun'
        · exact hK.elim
      · obtain ⟨s2, hK2, hput⟩ := putK_spec h'
        exact fin undef s2 (.inr ⟨hw, rfl⟩) hK2 (hput ρ a undef hr' rfl)
    | q + 2 =>
      simp only [hdB, Bool.and_eq_true] at hB
      have hrd : k ∈ Region.ready .any ops lc := by simpa using hB.1.1
      have inv' := inv.set hrd (cx.hw k hkd)
      have hoff := off_of cx ho hrd m.pre (fun e he => ⟨m.sub e he, (m.rf _ (m.sub e he)).2, fun h => hkr (h ▸ m.sub e he)⟩) m.hid
      have hd' : ∀ e ∈ E, o.dst ≠ some e.d := fun e he => (hoff e he).2
      have hex := exec_pt (ops := ops) (fun cs b => hsel cs b ho) a E hoff
      have fin : ∀ (v : Value) (s2 : List AV), Yields P ops o v a → execH P ops l s2 H (fun s2 H2 => execT P ops tl s2 H2 K) → RelS ρ s2 (a.put o.dst v).tmps.toList → AnyC P ops (Post ρ0 S0 H0 w0 dfs K) (Cls ρ S H w) (wraps tl) (l.length + (tl.length - E.length) + 1) ls (pt a E) w := fun v s2 hy hK hr2 => by
        refine anyC_blind ho (Region.noSelect_spec cx.sel) (fun c a w h => h.put) (cx.hw k hkd) _ ls _ w (fun j oj hj hne hun hno => Region.free_spec ho hB.1.2 j oj hj hne (m.lst.un hun) hno) (m.lst.own hrd hkE) (hy.of_same hex.1 hex.2) ?_
        rw [put_pt _ _ _ _ hd']
        exact head_C cx hB2 hcov l s2 H hK _ hB.2 hl' hlq' he inv' n E hn _ ρ S w _ (m.step hkl hkr (Ev.refl _ _ _ _)) hev (by rw [put_defers]; exact hdf) hs hr2
      rw [show ((k, q + 2) :: l).length + (tl.length - E.length) = l.length + (tl.length - E.length) + 1 by simp; omega]
      rcases wantK_spec hq' hr with ⟨hw, s', h', hr'⟩ | ⟨hw, s', h', hr'⟩
      · obtain ⟨av, v, hK, hrel, hrun⟩ := blind_sound (show blindK P o s' _ from h') hr'
        obtain ⟨s2, hK2, hput⟩ := putK_spec hK
        exact fin v s2 (.inl ⟨hw, hrun⟩) hK2 (hput ρ a v hr' hrel)
      · obtain ⟨s2, hK2, hput⟩ := putK_spec h'
        exact fin undef s2 (.inr ⟨hw, rfl⟩) hK2 (hput ρ a undef hr' rfl)
    | 0 =>
      have hB0 := hB
      simp only [hdB, Bool.and_eq_true, decide_eq_true_eq] at hB
      have hrd : k ∈ Region.ready .any ops lc := by simpa using hB.1.1
      have inv' := inv.set hrd (cx.hw k hkd)
      have hoff := off_of cx ho hrd m.pre (fun e he => ⟨m.sub e he, (m.rf _ (m.sub e he)).2, fun h => hkr (h ▸ m.sub e he)⟩) m.hid
      rw [show ((k, 0) :: l).length + (tl.length - E.length) = l.length + (tl.length - E.length) + 1 by simp; omega]
      refine ⟨fun _ => hself, fun h1 => absurd (m.lst.own hrd hkE) (by rw [h1]; simp), fun i hi => ?_⟩
      have hri := m.lst.ready m.sub hi
      by_cases hik : i = k
      · subst hik
        refine op_pt ho (fun cs b => hsel cs b ho) hoff (fun c a d v w h => post_put c a d v w h) ?_
        unfold wpOp
        simp only [ho]
        rcases wantK_spec hq' hr with ⟨hw, s', h', hr'⟩ | ⟨hw, s', h', hr'⟩
        · rw [if_pos hw]
          refine .inl (step_sound (K := fun out H' => match out with | .val av => Nd (wkH H' H) (putK s' o.dst av fun s2 => execH P ops l s2 H' (fun s2 H2 => execT P ops tl s2 H2 K)) | _ => False) h' hs hr' (fun ρ1 S1 H1 w1 av v hs1 hev1 hrel hK => ?_) (fun _ _ _ _ _ _ _ hK => hK.elim) fun _ _ h => h)
          obtain ⟨hwk, hK⟩ := hK
          obtain ⟨s2, hK2, hput⟩ := putK_spec hK
          have hrs : RelS ρ1 s' a.tmps.toList := by obtain ⟨t, ht⟩ := hev1.pre; rw [ht]; exact RelS_pre t hr'
          exact AnyC.mono (fun w' hw' => Cls.up hs hev1 hwk hw') _ _ _ _ (head_C cx hB2 hcov l s2 H1 hK2 _ hB.2 hl' hlq' he inv' n E hn _ ρ1 S1 w1 _ (m.step hkl hkr hev1) (hev.trans hev1) (by rw [put_defers]; exact hdf) hs1 (hput ρ1 a v hrs hrel))
        · rw [if_neg (by simp [hw])]
          obtain ⟨s2, hK2, hput⟩ := putK_spec h'
          exact head_C cx hB2 hcov l s2 H hK2 _ hB.2 hl' hlq' he inv' n E hn _ ρ S w _ (m.step hkl hkr (Ev.refl _ _ _ _)) hev (by rw [put_defers]; exact hdf) hs (hput ρ a undef hr' rfl)
      · have hir : i ∈ floats tl := by
          rcases hri.1 with h1 | h1
          · rw [hB.1.2] at h1; simp at h1; exact absurd h1 hik
          · exact h1
        have hEl2 : E.length + 1 ≤ (floats tl).length := by
          have := nodup_len (b := floats tl) (a := i :: E.map Fl.i) (List.nodup_cons.2 ⟨hri.2.1, m.ndi⟩) fun x hx => by
            cases hx with
            | head => exact hir
            | tail _ hx => obtain ⟨e, he, rfl⟩ := List.mem_map.1 hx; exact m.sub e he
          simpa using this
        have hrl := rem_le _ _ _ hB2 m.ndr
        refine m.others cx hs hev hir hri.2.1 fun e w1 he1 hs1 hev1 hm1 => ?_
        have := head_C cx hB2 hcov ((k, 0) :: l) s H h0 lc hB0 hl hlq he inv (n - 1) (e :: E) (by simp; omega) _ ρ S w1 a hm1 (hev.trans hev1) hdf hs1 hr
        rw [show ((k, 0) :: l).length + (tl.length - (e :: E).length) = l.length + (tl.length - E.length) by simp; omega] at this
        exact AnyC.mono (fun w' ⟨S', h1, h2⟩ => ⟨S', h1, hev1.trans h2⟩) _ _ _ _ this
termination_by l _ _ _ _ _ _ _ _ _ n => (l.length, n)
decreasing_by all_goals (simp_wf; first | omega | (right; omega) | (left; omega))
theorem head_CC {pre hd hq : List Nat} {tl : List (Nat × Nat)} (cx : Ctx P ops pre hd hq tl) {C : World → Prop} {lc2 : Array Bool} (hB2 : tlB .any ops tl (floats tl) lc2 = true) (hcov : ∀ j, j < ops.size → lc2.getD j false = false → j ∈ floats tl ∨ j ∈ wraps tl) :
    ∀ (l : List (Nat × Nat)) (s : List AV) (H : List Ent), (∀ w, Facts H w → C w) → execC P C ops l s H (fun s2 H2 => execT P ops tl s2 H2 K) → ∀ (lc : Array Bool), hdB .any ops (floats tl) l lc = true → (∀ j ∈ l.map Prod.fst, j ∈ hd) → (∀ j ∈ reads l, j ∈ hq) → setAll lc (l.map Prod.fst) = lc2 → PInv .any ops pre (wraps tl) lc →
    ∀ (n : Nat) (E : List Fl), n + E.length = (floats tl).length → ∀ (ls : Array Bool) (ρ : List Loc) (S : Nat → Prop) (w : World) (a : Act), Mid P ops pre tl (floats tl) w0 lc E ls ρ S H w → Ev ρ0 S0 H0 w0 ρ S H w → a.defers = dfs → Sat ρ S H w → RelS ρ s a.tmps.toList →
      AnyC P ops (Post ρ0 S0 H0 w0 dfs K) C (wraps tl) (l.length + (tl.length - E.length)) ls (pt a E) w
  | [], s, H, hC, h, lc, _, _, _, he, _, n, E, hn, ls, ρ, S, w, a, m, hev, hdf, hs, hr => by
    have he' : lc = lc2 := he
    subst he'
    rw [List.length_nil, Nat.zero_add]
    exact AnyC.mono (fun w' ⟨S', hs', _⟩ => hC w' hs'.facts) _ _ _ _ (tail_C cx h hB2 hcov n E hn ls ρ S w a m hev hdf hs hr)
  | (k, q) :: l, s, H, hC, h0, lc, hB, hl, hlq, he, inv, n, E, hn, ls, ρ, S, w, a, m, hev, hdf, hs, hr => by
    have hp : pickK ops k fun o => wantK ops o s (fun s => headC P C o s H q fun av H' => putK s o.dst av fun s' => execC P C ops l s' H' (fun s2 H2 => execT P ops tl s2 H2 K)) (fun s => putK s o.dst (.c (.v undef)) fun s' => execC P C ops l s' H (fun s2 H2 => execT P ops tl s2 H2 K)) := h0
    obtain ⟨o, ho, hq'⟩ := pickK_spec hp
    clear hp
    have hkl : k < ops.size := (Array.getElem?_eq_some_iff.1 ho).1
    have hself : C w := hC w hs.facts
    have hkd : k ∈ hd := hl k (by simp)
    have hkr : k ∉ floats tl := cx.hf k hkd
    have hkE : k ∉ E.map Fl.i := fun hm => by obtain ⟨e, he, hi⟩ := List.mem_map.1 hm; exact hkr (hi ▸ m.sub e he)
    have hl' : ∀ j ∈ l.map Prod.fst, j ∈ hd := fun j hj => hl j (by simp at hj ⊢; exact .inr hj)
    have hsel := Region.noSelect_spec cx.sel k o
    have hlq' : ∀ j ∈ reads l, j ∈ hq := fun j hj => hlq j (by unfold reads at hj ⊢; rw [List.filter_cons]; split <;> simp_all)
    match q with
    | 1 =>
      have hB0 := hB
      simp only [hdB, Bool.and_eq_true] at hB
      have hrd : k ∈ Region.ready .any ops lc := by simpa using hB.1.1
      have inv' := inv.set hrd (cx.hw k hkd)
      have hoff := off_of cx ho hrd m.pre (fun e he => ⟨m.sub e he, (m.rf _ (m.sub e he)).2, fun h => hkr (h ▸ m.sub e he)⟩) m.hid
      have hd' : ∀ e ∈ E, o.dst ≠ some e.d := fun e he => (hoff e he).2
      have hex := exec_pt (ops := ops) (fun cs b => hsel cs b ho) a E hoff
      have fin : ∀ (v : Value) (s2 : List AV), YR P ops C o v a → execC P C ops l s2 H (fun s2 H2 => execT P ops tl s2 H2 K) → RelS ρ s2 (a.put o.dst v).tmps.toList → AnyC P ops (Post ρ0 S0 H0 w0 dfs K) C (wraps tl) (l.length + (tl.length - E.length) + 1) ls (pt a E) w := fun v s2 hy hK hr2 => by
        refine anyC_take (fl := floats tl) ho (Region.noSelect_spec cx.sel) (fun c a w h => h.put) cx.ch cx.cov cx.hw cx.fw hkd (hlq k (by unfold reads; simp)) _ ls _ w (m.inv cx inv) (fun j oj hj hne hun hno => Region.free_spec ho hB.1.2 j oj hj hne (m.lst.un hun) hno) (m.lst.own hrd hkE) (hy.same hex.1 hex.2) ?_
        rw [put_pt _ _ _ _ hd']
        exact head_CC cx hB2 hcov l s2 H hC hK _ hB.2 hl' hlq' he inv' n E hn _ ρ S w _ (m.step hkl hkr (Ev.refl _ _ _ _)) hev (by rw [put_defers]; exact hdf) hs hr2
      rw [show ((k, 1) :: l).length + (tl.length - E.length) = l.length + (tl.length - E.length) + 1 by simp; omega]
      rcases wantK_spec hq' hr with ⟨hw, s', h', hr'⟩ | ⟨hw, s', h', hr'⟩
      · obtain ⟨x, rc⟩ := (show ∃ x, ReadC P C o s' _ x from h')
        obtain ⟨s2, hK2, hput⟩ := putK_spec rc.next
        refine fin x s2 (.inl ⟨hw, fun w' hw' => ?_⟩) hK2 (hput ρ a x hr' rfl)
        rw [execOp_congr o rc.sel (ρ' := plainEv s') fun y hy => allPlain_eval hr' _ rc.plain y (Array.mem_toList_iff.2 hy)]
        exact rc.run w' hw'
      · obtain ⟨s2, hK2, hput⟩ := putK_spec h'
        exact fin undef s2 (.inr ⟨hw, rfl⟩) hK2 (hput ρ a undef hr' rfl)
    | q + 2 =>
      simp only [hdB, Bool.and_eq_true] at hB
      have hrd : k ∈ Region.ready .any ops lc := by simpa using hB.1.1
      have inv' := inv.set hrd (cx.hw k hkd)
      have hoff := off_of cx ho hrd m.pre (fun e he => ⟨m.sub e he, (m.rf _ (m.sub e he)).2, fun h => hkr (h ▸ m.sub e he)⟩) m.hid
      have hd' : ∀ e ∈ E, o.dst ≠ some e.d := fun e he => (hoff e he).2
      have hex := exec_pt (ops := ops) (fun cs b => hsel cs b ho) a E hoff
      have fin : ∀ (v : Value) (s2 : List AV), Yields P ops o v a → execC P C ops l s2 H (fun s2 H2 => execT P ops tl s2 H2 K) → RelS ρ s2 (a.put o.dst v).tmps.toList → AnyC P ops (Post ρ0 S0 H0 w0 dfs K) C (wraps tl) (l.length + (tl.length - E.length) + 1) ls (pt a E) w := fun v s2 hy hK hr2 => by
        refine anyC_blind ho (Region.noSelect_spec cx.sel) (fun c a w h => h.put) (cx.hw k hkd) _ ls _ w (fun j oj hj hne hun hno => Region.free_spec ho hB.1.2 j oj hj hne (m.lst.un hun) hno) (m.lst.own hrd hkE) (hy.of_same hex.1 hex.2) ?_
        rw [put_pt _ _ _ _ hd']
        exact head_CC cx hB2 hcov l s2 H hC hK _ hB.2 hl' hlq' he inv' n E hn _ ρ S w _ (m.step hkl hkr (Ev.refl _ _ _ _)) hev (by rw [put_defers]; exact hdf) hs hr2
      rw [show ((k, q + 2) :: l).length + (tl.length - E.length) = l.length + (tl.length - E.length) + 1 by simp; omega]
      rcases wantK_spec hq' hr with ⟨hw, s', h', hr'⟩ | ⟨hw, s', h', hr'⟩
      · obtain ⟨av, v, hK, hrel, hrun⟩ := blind_sound (show blindK P o s' _ from h') hr'
        obtain ⟨s2, hK2, hput⟩ := putK_spec hK
        exact fin v s2 (.inl ⟨hw, hrun⟩) hK2 (hput ρ a v hr' hrel)
      · obtain ⟨s2, hK2, hput⟩ := putK_spec h'
        exact fin undef s2 (.inr ⟨hw, rfl⟩) hK2 (hput ρ a undef hr' rfl)
    | 0 =>
      have hB0 := hB
      simp only [hdB, Bool.and_eq_true, decide_eq_true_eq] at hB
      have hrd : k ∈ Region.ready .any ops lc := by simpa using hB.1.1
      have inv' := inv.set hrd (cx.hw k hkd)
      have hoff := off_of cx ho hrd m.pre (fun e he => ⟨m.sub e he, (m.rf _ (m.sub e he)).2, fun h => hkr (h ▸ m.sub e he)⟩) m.hid
      rw [show ((k, 0) :: l).length + (tl.length - E.length) = l.length + (tl.length - E.length) + 1 by simp; omega]
      refine ⟨fun _ => hself, fun h1 => absurd (m.lst.own hrd hkE) (by rw [h1]; simp), fun i hi => ?_⟩
      have hri := m.lst.ready m.sub hi
      by_cases hik : i = k
      · subst hik
        refine op_pt ho (fun cs b => hsel cs b ho) hoff (fun c a d v w h => post_put c a d v w h) ?_
        unfold wpOp
        simp only [ho]
        rcases wantK_spec hq' hr with ⟨hw, s', h', hr'⟩ | ⟨hw, s', h', hr'⟩
        · rw [if_pos hw]
          refine .inl (step_sound (K := fun out H' => match out with | .val av => Nd (∀ w, Facts H' w → C w) (putK s' o.dst av fun s2 => execC P C ops l s2 H' (fun s2 H2 => execT P ops tl s2 H2 K)) | _ => False) h' hs hr' (fun ρ1 S1 H1 w1 av v hs1 hev1 hrel hK => ?_) (fun _ _ _ _ _ _ _ hK => hK.elim) fun _ _ h => h)
          obtain ⟨hwk, hK⟩ := hK
          obtain ⟨s2, hK2, hput⟩ := putK_spec hK
          have hrs : RelS ρ1 s' a.tmps.toList := by obtain ⟨t, ht⟩ := hev1.pre; rw [ht]; exact RelS_pre t hr'
          exact head_CC cx hB2 hcov l s2 H1 hwk hK2 _ hB.2 hl' hlq' he inv' n E hn _ ρ1 S1 w1 _ (m.step hkl hkr hev1) (hev.trans hev1) (by rw [put_defers]; exact hdf) hs1 (hput ρ1 a v hrs hrel)
        · rw [if_neg (by simp [hw])]
          obtain ⟨s2, hK2, hput⟩ := putK_spec h'
          exact head_CC cx hB2 hcov l s2 H hC hK2 _ hB.2 hl' hlq' he inv' n E hn _ ρ S w _ (m.step hkl hkr (Ev.refl _ _ _ _)) hev (by rw [put_defers]; exact hdf) hs (hput ρ a undef hr' rfl)
      · have hir : i ∈ floats tl := by
          rcases hri.1 with h1 | h1
          · rw [hB.1.2] at h1; simp at h1; exact absurd h1 hik
          · exact h1
        have hEl2 : E.length + 1 ≤ (floats tl).length := by
          have := nodup_len (b := floats tl) (a := i :: E.map Fl.i) (List.nodup_cons.2 ⟨hri.2.1, m.ndi⟩) fun x hx => by
            cases hx with
            | head => exact hir
            | tail _ hx => obtain ⟨e, he, rfl⟩ := List.mem_map.1 hx; exact m.sub e he
          simpa using this
        have hrl := rem_le _ _ _ hB2 m.ndr
        refine m.others cx hs hev hir hri.2.1 fun e w1 he1 hs1 hev1 hm1 => ?_
        have := head_CC cx hB2 hcov ((k, 0) :: l) s H hC h0 lc hB0 hl hlq he inv (n - 1) (e :: E) (by simp; omega) _ ρ S w1 a hm1 (hev.trans hev1) hdf hs1 hr
        rw [show ((k, 0) :: l).length + (tl.length - (e :: E).length) = l.length + (tl.length - E.length) by simp; omega] at this
        exact this
termination_by l _ _ _ _ _ _ _ _ _ _ n => (l.length, n)
decreasing_by all_goals (simp_wf; first | omega | (right; omega) | (left; omega))
end

/-! ### A plan whose middle is quiet -/
section quiet
variable {K : Ex → List AV → List Ent → Prop} {ρ0 : List Loc} {S0 : Nat → Prop} {H0 : List Ent} {w0 : World} {dfs : List Deferred}

/-- One value, from every world that the state speaks of. -/
def YQ (P : Program) (ops : Array Oper) (ρ : List Loc) (H : List Ent) (o : Oper) (v : Value) (a : Act) : Prop := ∀ S w, Sat ρ S H w → YieldsIn P ops (Cls ρ S H w) o v a
theorem YQ.same {ρ : List Loc} {H : List Ent} {o : Oper} {v : Value} {a a' : Act} (hy : YQ P ops ρ H o v a) (he : execOp a'.eval o = execOp a.eval o) (hw : Region.wanted o (yielded ops a'.tmps) = Region.wanted o (yielded ops a.tmps)) : YQ P ops ρ H o v a' := fun S w hs => by
  have := hy S w hs
  unfold YieldsIn Oper.quietAt at *
  rw [he, hw]
  exact this
def HeadF (P : Program) (ops : Array Oper) (ρ : List Loc) (H : List Ent) (hd fl : List Nat) (L : Array Bool → Act → Prop) : Nat → Array Bool → Act → Prop
  | 0, lc, a => L lc a
  | f + 1, lc, a => (∃ k ∈ Region.ready .any ops lc, k ∈ hd) ∧ ∀ i ∈ Region.ready .any ops lc, i ∉ fl → ∃ oi v, ops[i]? = some oi ∧ YQ P ops ρ H oi v a ∧ HeadF P ops ρ H hd fl L f (lc.setIfInBounds i true) (a.put oi.dst v)
theorem headF_take {ρ : List Loc} {H : List Ent} {pre hd : List Nat} {tl : List (Nat × Nat)} (cx : Ctx P ops pre hd hd tl) {L : Array Bool → Act → Prop} {i : Nat} {oi : Oper} {v : Value} (hi : ops[i]? = some oi) (hin : i ∈ hd)
    (hdone : ∀ lc a, L lc a → ∀ j ∈ Region.ready .any ops lc, j ∉ floats tl → j ∈ wraps tl) :
    ∀ (f : Nat) (lc : Array Bool) (a : Act), PInv .any ops pre (wraps tl) lc →
      (∀ j oj, ops[j]? = some oj → j ≠ i → lc.getD j true = false → (∀ e ∈ oj.after, Region.binds .any e = true → e.on ≠ i) → oi.apart ops oj = true) →
      i ∈ Region.ready .any ops lc → YQ P ops ρ H oi v a → HeadF P ops ρ H hd (floats tl) L f (lc.setIfInBounds i true) (a.put oi.dst v) → HeadF P ops ρ H hd (floats tl) L (f + 1) lc a := by
  have hsel := Region.noSelect_spec cx.sel
  have nt : ∀ (lc : Array Bool), PInv .any ops pre (wraps tl) lc → i ∈ Region.ready .any ops lc → ∀ j ∈ Region.ready .any ops lc, j ∉ wraps tl := fun lc inv hr j hj h => by
    have hun := (mem_ready.1 hr).1
    rcases cx.ch with hc | hc
    · exact absurd hj (chain_waits hc inv hin (getD_both hun) j h)
    · rw [hc] at h; cases h
  intro f
  induction f with
  | zero =>
    intro lc a inv _ hr hy hL
    refine ⟨⟨i, hr, hin⟩, fun j hj hjf => ?_⟩
    by_cases hji : j = i
    · subst hji; exact ⟨oi, v, hi, hy, hL⟩
    · exact absurd (hdone _ _ hL j (ready_mono hj hji) hjf) (nt lc inv hr j hj)
  | succ f ih =>
    intro lc a inv hfree hr hy hH
    have hun := (mem_ready.1 hr).1
    refine ⟨⟨i, hr, hin⟩, fun j hj hjf => ?_⟩
    by_cases hji : j = i
    · subst hji; exact ⟨oi, v, hi, hy, hH⟩
    · obtain ⟨hjun, oj', hoj', hall⟩ := mem_ready.1 hj
      obtain ⟨oj, vj, hoj, hyj, hrest⟩ := hH.2 j (ready_mono hj hji) hjf
      obtain rfl : oj' = oj := Option.some.inj (hoj'.symm.trans hoj)
      have hno : ∀ e ∈ oj'.after, Region.binds .any e = true → e.on ≠ i := fun e he hb he2 => by
        have := hall e he hb
        rw [he2, getD_both hun] at this
        cases this
      obtain ⟨h1, h2, h3⟩ := Oper.apart_spec (hfree j oj' hoj hji hjun hno)
      refine ⟨oj', vj, hoj, hyj.same (execOp_put oj' (fun cs b => hsel j oj' cs b hoj) a oi.dst v h1).symm (wanted_put oj' a oi.dst v h1).symm, ?_⟩
      refine ih (lc.setIfInBounds j true) _ (inv.set hj (nt lc inv hr j hj)) (fun k ok hk hki hun' hno' => ?_) (ready_mono hr (Ne.symm hji))
        (hy.same (execOp_put oi (fun cs b => hsel i oi cs b hi) a oj'.dst vj h3) (wanted_put oi a oj'.dst vj h3)) ?_
      · refine hfree k ok hk hki ?_ hno'
        by_cases hjk : j = k
        · subst hjk; exact hjun
        · rw [getD_set_ne true hjk] at hun'; exact hun'
      · rw [← Act.put_comm a v vj h2, Array.setIfInBounds_comm _ _ hji]; exact hrest

theorem stepQ_all {o : Oper} {s : List AV} {H : List Ent} {K : AV → Prop} (h : stepQ P o s H K) {ρ : List Loc} {a : Act} (hr : RelS ρ s a.tmps.toList) {S1 : Nat → Prop} {w1 : World} (h1 : Sat ρ S1 H w1) :
    ∃ av v, K av ∧ av.rel ρ v ∧ ∀ S w, Sat ρ S H w → ∀ w', Cls ρ S H w w' → o.quietAt P a (Cls ρ S H w) w' v := by
  unfold stepQ at h
  split at h
  · obtain ⟨av, hK, hrd⟩ := read_sound h
    split at hK
    · rename_i hd
      obtain ⟨v, _, hrel⟩ := hrd ρ S1 w1 a h1 hr
      refine ⟨av, v, hK, hrel, fun S w _ w' ⟨S', hs', _⟩ => ?_⟩
      obtain ⟨v', hrun, hrel'⟩ := hrd ρ S' w' a hs' hr
      have := detA_uniq hd hrel hrel'
      subst this
      unfold Oper.quietAt
      rw [hrun]
      exact ⟨rfl, rfl⟩
    · exact hK.elim
  · obtain ⟨f, args, hq, hcall⟩ := callK_spec (P := P) h
    obtain ⟨x, hspec, hK⟩ := hq
    rw [forceV_eq] at hK
    refine ⟨_, x, hK, rfl, fun S w _ w' ⟨S', hs', hev'⟩ => ?_⟩
    obtain ⟨vs, hvs, hrun⟩ := hcall ρ w' a hspec.ok hr
    unfold Oper.quietAt
    rw [hrun]
    refine ⟨rfl, (hspec.run ρ S' w' vs hs' hvs).mono fun e w'' ⟨ρ2, S2, H2, out, hs2, hev2, hout, ho, hH⟩ => ?_⟩
    subst ho; subst hH
    obtain ⟨v, rfl, hrel⟩ := hout
    have hvx : v = x := hrel
    subst hvx
    have hρ : ρ2 = ρ := by
      obtain ⟨t, ht⟩ := hev2.pre
      have h1 := hs2.len
      have h2 := hs'.len
      have : t = [] := by
        apply List.eq_nil_of_length_eq_zero
        rw [ht] at h1; simp at h1; omega
      rw [ht, this, List.append_nil]
    subst hρ
    exact ⟨rfl, S2, hs2, hev'.trans hev2⟩
  · exact h.elim

theorem headF_lex {ρ : List Loc} {H : List Ent} {pre hd : List Nat} {tl : List (Nat × Nat)} (cx : Ctx P ops pre hd hd tl) {G : List AV → Prop} {lc2 : Array Bool} (hcov : ∀ j, j < ops.size → lc2.getD j false = false → j ∈ floats tl ∨ j ∈ wraps tl) {S1 : Nat → Prop} {w1 : World} (h1 : Sat ρ S1 H w1) :
    ∀ (l : List Nat) (s : List AV) (lc : Array Bool) (a : Act), execL P ops l s H G → hdB .any ops (floats tl) (l.map fun k => (k, 1)) lc = true → (∀ j ∈ l, j ∈ hd) → PInv .any ops pre (wraps tl) lc → RelS ρ s a.tmps.toList → a.defers = dfs → setAll lc l = lc2 →
      HeadF P ops ρ H hd (floats tl) (fun lc' a' => lc' = lc2 ∧ ∃ s2, G s2 ∧ RelS ρ s2 a'.tmps.toList ∧ a'.defers = dfs) l.length lc a
  | [], s, lc, a, h, _, _, _, hr, hdf, he => ⟨he, s, h, hr, hdf⟩
  | k :: l, s, lc, a, h0, hB, hl, inv, hr, hdf, he => by
    have hp : pickK ops k fun o => wantK ops o s (fun s => stepQ P o s H fun av => putK s o.dst av fun s' => execL P ops l s' H G) (fun s => putK s o.dst (.c (.v undef)) fun s' => execL P ops l s' H G) := h0
    obtain ⟨o, ho, hq'⟩ := pickK_spec hp
    clear hp
    simp only [List.map_cons, hdB, Bool.and_eq_true] at hB
    have hrd : k ∈ Region.ready .any ops lc := by simpa using hB.1.1
    have hkd : k ∈ hd := hl k (by simp)
    have inv' := inv.set hrd (cx.hw k hkd)
    have hdone : ∀ (lc' : Array Bool) (a' : Act), (lc' = lc2 ∧ ∃ s2, G s2 ∧ RelS ρ s2 a'.tmps.toList ∧ a'.defers = dfs) → ∀ j ∈ Region.ready .any ops lc', j ∉ floats tl → j ∈ wraps tl := fun lc' a' ⟨e, _⟩ j hj hjf => by
      subst e
      obtain ⟨hun, oj, hoj, _⟩ := mem_ready.1 hj
      rcases hcov j (Array.getElem?_eq_some_iff.1 hoj).1 (getD_both hun) with h | h
      · exact absurd h hjf
      · exact h
    have fin : ∀ (v : Value) (s2 : List AV), YQ P ops ρ H o v a → execL P ops l s2 H G → RelS ρ s2 (a.put o.dst v).tmps.toList → HeadF P ops ρ H hd (floats tl) (fun lc' a' => lc' = lc2 ∧ ∃ s2, G s2 ∧ RelS ρ s2 a'.tmps.toList ∧ a'.defers = dfs) (l.length + 1) lc a := fun v s2 hy hK hr2 =>
      headF_take cx ho hkd hdone l.length lc a inv (Region.free_spec ho hB.1.2) hrd hy
        (headF_lex cx hcov h1 l s2 _ _ hK hB.2 (fun j hj => hl j (by simp [hj])) inv' hr2 (by rw [put_defers]; exact hdf) he)
    rcases wantK_spec hq' hr with ⟨hw, s', h', hr'⟩ | ⟨hw, s', h', hr'⟩
    · obtain ⟨av, v, hK, hrel, hq⟩ := stepQ_all h' hr' h1
      obtain ⟨s2, hK2, hput⟩ := putK_spec hK
      exact fin v s2 (fun S w hs => .inl ⟨hw, hq S w hs⟩) hK2 (hput ρ a v hr' hrel)
    · obtain ⟨s2, hK2, hput⟩ := putK_spec h'
      exact fin undef s2 (fun S w hs => .inr ⟨hw, rfl⟩) hK2 (hput ρ a undef hr' rfl)

/-- No operation of the middle waits for a variable that may be made at any time. -/
theorem hdB_nf {fl : List Nat} : ∀ (l : List Nat) (lc : Array Bool), hdB .any ops fl (l.map fun k => (k, 1)) lc = true → (∀ i ∈ fl, lc.getD i false = false) → (∀ k ∈ l, k ∉ fl) →
    ∀ k ∈ l, ∀ o, ops[k]? = some o → ∀ e ∈ o.after, Region.binds .any e = true → e.on ∉ fl
  | [], _, _, _, _, k, hk, _, _, _, _, _ => by cases hk
  | x :: l, lc, hB, hf, hn, k, hk, o, ho, e, he, hb => by
    simp only [List.map_cons, hdB, Bool.and_eq_true] at hB
    have hrd : x ∈ Region.ready .any ops lc := by simpa using hB.1.1
    cases hk with
    | head =>
      obtain ⟨_, o', ho', hall⟩ := mem_ready.1 hrd
      obtain rfl : o' = o := Option.some.inj (ho'.symm.trans ho)
      intro h
      have := hall e he hb
      rw [hf _ h] at this; cases this
    | tail _ hk =>
      refine hdB_nf l _ hB.2 (fun i hi => ?_) (fun k hk => hn k (by simp [hk])) k hk o ho e he hb
      rw [getD_set_ne false (show x ≠ i from fun h => hn x (by simp) (h ▸ hi))]; exact hf i hi

theorem headF_C {ρ : List Loc} {H : List Ent} {pre hd : List Nat} {tl : List (Nat × Nat)} (cx : Ctx P ops pre hd hd tl) (hnf : ∀ k ∈ hd, ∀ o, ops[k]? = some o → ∀ e ∈ o.after, Region.binds .any e = true → e.on ∉ floats tl) {lc2 : Array Bool} (hB2 : tlB .any ops tl (floats tl) lc2 = true) (hcov : ∀ j, j < ops.size → lc2.getD j false = false → j ∈ floats tl ∨ j ∈ wraps tl) :
    ∀ (f n : Nat) (E : List Fl), n + E.length = (floats tl).length → ∀ (lc ls : Array Bool) (S : Nat → Prop) (w : World) (a : Act), PInv .any ops pre (wraps tl) lc →
      HeadF P ops ρ H hd (floats tl) (fun lc' a' => lc' = lc2 ∧ ∃ s2, execT P ops tl s2 H K ∧ RelS ρ s2 a'.tmps.toList ∧ a'.defers = dfs) f lc a →
      Mid P ops pre tl (floats tl) w0 lc E ls ρ S H w → Ev ρ0 S0 H0 w0 ρ S H w → Sat ρ S H w →
      AnyC P ops (Post ρ0 S0 H0 w0 dfs K) (Cls ρ S H w) (wraps tl) (f + (tl.length - E.length)) ls (pt a E) w
  | 0, n, E, hn, lc, ls, S, w, a, _, ⟨he, s2, hx, hr, hdf⟩, m, hev, hs => by
    subst he
    rw [Nat.zero_add]
    exact tail_C cx hx hB2 hcov n E hn ls ρ S w a m hev hdf hs hr
  | f + 1, n, E, hn, lc, ls, S, w, a, inv, hH, m, hev, hs => by
    have hself : Cls ρ S H w w := ⟨S, hs, Ev.refl _ _ _ _⟩
    have hH0 := hH
    obtain ⟨⟨k, hrk, hkh⟩, hall⟩ := hH
    have hkf := cx.hf k hkh
    have hkE : k ∉ E.map Fl.i := fun hm => by obtain ⟨e, he, hi⟩ := List.mem_map.1 hm; exact hkf (hi ▸ m.sub e he)
    rw [show f + 1 + (tl.length - E.length) = f + (tl.length - E.length) + 1 by omega]
    refine ⟨fun _ => hself, fun h1 => absurd (m.lst.own hrk hkE) (by rw [h1]; simp), fun i hi => ?_⟩
    have hri := m.lst.ready m.sub hi
    by_cases hif : i ∈ floats tl
    · have hEl2 : E.length + 1 ≤ (floats tl).length := by
        have := nodup_len (b := floats tl) (a := i :: E.map Fl.i) (List.nodup_cons.2 ⟨hri.2.1, m.ndi⟩) fun x hx => by
          cases hx with
          | head => exact hif
          | tail _ hx => obtain ⟨e, he, rfl⟩ := List.mem_map.1 hx; exact m.sub e he
        simpa using this
      have hrl := rem_le _ _ _ hB2 m.ndr
      refine m.others cx hs hev hif hri.2.1 fun e w1 he1 hs1 hev1 hm1 => ?_
      have := headF_C cx hnf hB2 hcov (f + 1) (n - 1) (e :: E) (by simp; omega) lc _ S w1 a inv hH0 hm1 (hev.trans hev1) hs1
      rw [show f + 1 + (tl.length - (e :: E).length) = f + (tl.length - E.length) by simp; omega] at this
      exact AnyC.mono (fun w' ⟨S', h1, h2⟩ => ⟨S', h1, hev1.trans h2⟩) _ _ _ _ this
    · have hkl : i < ops.size := by
        obtain ⟨_, oj, hoj, _⟩ := mem_ready.1 hi
        exact (Array.getElem?_eq_some_iff.1 hoj).1
      have hih : i ∈ hd := by
        rcases cx.cov i hkl with h | h | h | h
        · have := m.pre i h; rw [hri.2.2] at this; cases this
        · exact h
        · exact absurd h hif
        · rcases cx.ch with hc | hc
          · exact absurd hi (chain_waits hc (m.inv cx inv) hkh (getD_both (mem_ready.1 (m.lst.own hrk hkE)).1) i h)
          · rw [hc] at h; cases h
      have hrd : i ∈ Region.ready .any ops lc := by
        obtain ⟨_, oj, hoj, hdep⟩ := mem_ready.1 hi
        refine mem_ready.2 ⟨getD_in (by rw [m.lst.s2]; exact hkl) hri.2.2, oj, hoj, fun e he hb => ?_⟩
        have h1 := hdep e he hb
        rw [m.lst.get, Bool.or_eq_true, List.contains_iff_mem] at h1
        rcases h1 with h1 | h1
        · exact h1
        · obtain ⟨x, hx, hxe⟩ := List.mem_map.1 h1
          exact absurd (hxe ▸ m.sub x hx) (hnf i hih oj hoj e he hb)
      obtain ⟨o, v, ho, hy, hnext⟩ := hall i hrd hif
      have hsel := Region.noSelect_spec cx.sel i o
      have hoff := off_of cx ho hrd m.pre (fun e he => ⟨m.sub e he, (m.rf _ (m.sub e he)).2, fun h => hif (h ▸ m.sub e he)⟩) m.hid
      refine op_pt ho (fun cs b => hsel cs b ho) hoff (fun c a d v w h => post_put c a d v w h) ?_
      have hq : qOp P ops (Cls ρ S H w) i (fun a' => a' = a.put o.dst v) a := (hy S w hs).qOp ho rfl
      refine wpOp_of_qOp hself (fun a' w' hw' ha' => ?_) hq
      subst ha'
      obtain ⟨S', hs', hev'⟩ := hw'
      have := headF_C cx hnf hB2 hcov f n E hn _ _ S' w' _ (inv.set hrd (cx.hw i hih)) hnext (m.step hkl hif hev') (hev.trans hev') hs'
      exact AnyC.mono (fun w'' ⟨S'', h1, h2⟩ => ⟨S'', h1, hev'.trans h2⟩) _ _ _ _ this
termination_by f n => (f, n)
decreasing_by all_goals (simp_wf; first | omega | (right; omega) | (left; omega))
end quiet

theorem hdB_inv {fl tl : List Nat} : ∀ (l : List (Nat × Nat)) (done : List Nat) (ls : Array Bool), PInv md ops done tl ls → hdB md ops fl l ls = true → (∀ k ∈ l.map Prod.fst, k ∉ tl) → PInv md ops (done ++ l.map Prod.fst) tl (setAll ls (l.map Prod.fst))
  | [], done, ls, inv, _, _ => by simpa [setAll] using inv
  | (k, q) :: l, done, ls, inv, hB, hn => by
    have hr : k ∈ Region.ready md ops ls ∧ hdB md ops fl l (ls.setIfInBounds k true) = true := by
      match q with
      | 0 => simp only [hdB, Bool.and_eq_true] at hB; exact ⟨by simpa using hB.1.1, hB.2⟩
      | q + 1 => simp only [hdB, Bool.and_eq_true] at hB; exact ⟨by simpa using hB.1.1, hB.2⟩
    obtain ⟨_, o, ho, _⟩ := mem_ready.1 hr.1
    have hlt : k < ops.size := (Array.getElem?_eq_some_iff.1 ho).1
    have i1 := inv.set hr.1 (hn k (by simp))
    have i2 : PInv md ops (done ++ [k]) tl (ls.setIfInBounds k true) := ⟨i1.size, i1.closed, i1.tl, fun j hj => by
      rcases List.mem_append.1 hj with hj | hj
      · exact i1.pre j hj
      · simp at hj; subst hj
        have hlt' : j < ls.size := by rw [inv.size]; exact hlt
        simp [hlt']⟩
    have := hdB_inv l (done ++ [k]) _ i2 hr.2 (fun j hj => hn j (by simp at hj ⊢; exact .inr hj))
    simpa [setAll] using this

theorem tl_split (tl : List (Nat × Nat)) (j : Nat) : j ∈ tl.map Prod.fst ↔ j ∈ floats tl ∨ j ∈ wraps tl := by
  unfold floats wraps
  simp only [List.mem_map, List.mem_filter]
  constructor
  · rintro ⟨x, hx, rfl⟩
    cases h : Nat.beq x.2 2 with
    | true => exact .inl ⟨x, ⟨hx, h⟩, rfl⟩
    | false => exact .inr ⟨x, ⟨hx, by rw [h]; rfl⟩, rfl⟩
  · rintro (⟨x, ⟨hx, _⟩, rfl⟩ | ⟨x, ⟨hx, _⟩, rfl⟩) <;> exact ⟨x, hx, rfl⟩
theorem disj_spec {a b : List Nat} (h : disj a b = true) : ∀ x ∈ a, x ∉ b := fun x hx hb => by
  unfold disj at h
  have := List.all_eq_true.1 h x hx
  simp [hb] at this

theorem plan_sound {P : Program} {ops : Array Oper} (hm : P.follows .mixedOrders = true) {id : Nat} {s : List AV} {H : List Ent} {K : Ex → List AV → List Ent → Prop} {pre : List Nat} {hd tl : List (Nat × Nat)} (hB : planB P .any ops pre hd tl = true)
    (next : execB P ops pre s fun s1 => execH P ops hd s1 H fun s2 H2 => execT P ops tl s2 H2 K) {ρ : List Loc} {S : Nat → Prop} {w : World} {a : Act} (hs : Sat ρ S H w) (hr : RelS ρ s a.tmps.toList) :
    (Code.region id ops true).wp P (Post ρ S H w a.defers K) a w := by
  simp only [planB, Bool.and_eq_true, decide_eq_true_eq] at hB
  obtain ⟨⟨⟨⟨⟨⟨hsel, hlen⟩, hcov⟩, ⟨⟨hpt, hht⟩, hwf⟩, hnd⟩, hfl, hfree⟩, hpre, hch⟩, hhd, htl⟩ := hB
  have hcov' : ∀ j, j < ops.size → j ∈ pre ∨ j ∈ hd.map Prod.fst ∨ j ∈ floats tl ∨ j ∈ wraps tl := fun j hj => by
    have := List.all_eq_true.1 hcov j (List.mem_range.2 hj)
    simp only [Bool.or_eq_true, List.contains_iff_mem] at this
    rcases this with (h | h) | h
    · exact .inl h
    · exact .inr (.inl h)
    · exact .inr (.inr ((tl_split tl j).1 h))
  have hpt' := disj_spec hpt
  have hht' := disj_spec hht
  have inW : ∀ {j}, j ∈ wraps tl → j ∈ tl.map Prod.fst := fun h => (tl_split tl _).2 (.inr h)
  have inF : ∀ {j}, j ∈ floats tl → j ∈ tl.map Prod.fst := fun h => (tl_split tl _).2 (.inl h)
  have inv0 : PInv .any ops [] (wraps tl) (Array.replicate ops.size false) :=
    ⟨by simp, fun j oj _ hl => (by rw [getD_replicate_false] at hl; cases hl), fun t _ => getD_replicate_false _ _, fun k hk => by cases hk⟩
  have hin : ∀ (l : List Nat) (ls : Array Bool), preB .any ops l ls = true → ∀ k ∈ l, k < ops.size := by
    intro l
    induction l with
    | nil => intro ls _ k hk; cases hk
    | cons x l ih =>
      intro ls h k hk
      simp only [preB, Bool.and_eq_true] at h
      cases hk with
      | head =>
        have hr : x ∈ Region.ready .any ops ls := by simpa using h.1.1
        obtain ⟨_, o, ho, _⟩ := mem_ready.1 hr
        exact (Array.getElem?_eq_some_iff.1 ho).1
      | tail _ hk => exact ih _ h.2 k hk
  have inv1 := preB_inv (pre0 := pre) pre [] _ inv0 hpre (fun k hk h => hpt' k hk (inW h)) (hin _ _ hpre)
  rw [List.nil_append] at inv1
  have inv2 := hdB_inv (fl := floats tl) hd pre _ inv1 hhd fun k hk h => hht' k hk (inW h)
  have hs1 : (setAll (Array.replicate ops.size false) pre).size = ops.size := by rw [setAll_size]; simp
  have un1 : ∀ j, j < ops.size → j ∉ pre → (setAll (Array.replicate ops.size false) pre).getD j false = false := fun j hj hn => by
    rw [setAll_get _ _ _ (by simpa using hj), getD_replicate_false]
    simpa using hn
  have cx : Ctx P ops pre (hd.map Prod.fst) (reads hd) tl := by
    refine ⟨hsel, hcov', fun j hj h => hht' j hj (inW h), fun j hj h => disj_spec hwf j h hj, fun j hj h => hht' j hj (inF h), fun j hj h => hpt' j hj (inF h), fun i hi => List.all_eq_true.1 hfl i hi, fun i hi oi hoi k ok hk hne hnp hno => ?_, ?_⟩
    · have hkl : k < ops.size := (Array.getElem?_eq_some_iff.1 hk).1
      exact Region.free_spec hoi (List.all_eq_true.1 hfree i hi) k ok hk hne (getD_in (by rw [hs1]; exact hkl) (un1 k hkl hnp)) hno
    · rcases Bool.or_eq_true_iff.1 hch with h | h
      · exact .inr (by simpa using h)
      · exact .inl h
  refine wp_region_any hm ?_
  have hsz : ops.size = pre.length + (hd.length + tl.length) := by omega
  rw [hsz]
  have e0 : Array.replicate (pre.length + (hd.length + tl.length)) false = Array.replicate ops.size false := by rw [hsz]
  rw [e0]
  refine execB_sound hsel (fun c a d v w h => h.put) (dfs := a.defers) (ρ := ρ) (fun s1 a1 h1 hr1 hd1 => ?_) pre s _ a next hpre rfl hr rfl
  have hfl0 : ∀ i ∈ floats tl, i < ops.size := fun i hi => by
    obtain ⟨o, _, _, _, _, ho, _⟩ := floatB_spec (List.all_eq_true.1 hfl i hi)
    exact (Array.getElem?_eq_some_iff.1 ho).1
  have hmid : Mid P ops pre tl (floats tl) w (setAll (Array.replicate ops.size false) pre) [] (setAll (Array.replicate ops.size false) pre) ρ S H { w with drawn := w.drawn + 1 } :=
    ⟨⟨hs1, hs1, fun j => by simp⟩, inv1.pre, fun e he => absurd he (by simp), List.nodup_nil, List.nodup_nil, List.nodup_nil, fun i hi => ⟨hi, un1 i (hfl0 i hi) fun h => hpt' i h (inF hi)⟩, hnd, fun e he => absurd he (by simp)⟩
  have hH := head_C cx htl (fun j hj hun => by
      rcases hcov' j hj with h | h | h | h
      · have := inv2.pre j (List.mem_append_left _ h); rw [hun] at this; cases this
      · have := inv2.pre j (List.mem_append_right _ h); rw [hun] at this; cases this
      · exact .inl h
      · exact .inr h) hd s1 H h1 _ hhd (fun _ h => h) (fun _ h => h) rfl inv1 (floats tl).length [] (by simp) _ ρ S _ a1 hmid (Ev.drew ρ S H w) hd1 (hs.heap rfl) hr1
  exact AnyC.any _ _ _ _ hH
theorem planC_sound {P : Program} {C : World → Prop} {ops : Array Oper} (hm : P.follows .mixedOrders = true) {id : Nat} {s : List AV} {H : List Ent} {K : Ex → List AV → List Ent → Prop} {pre : List Nat} {hd tl : List (Nat × Nat)} (hB : planB P .any ops pre hd tl = true)
    (hC : ∀ w, Facts H w → C w) (next : execB P ops pre s fun s1 => execC P C ops hd s1 H fun s2 H2 => execT P ops tl s2 H2 K) {ρ : List Loc} {S : Nat → Prop} {w : World} {a : Act} (hs : Sat ρ S H w) (hr : RelS ρ s a.tmps.toList) :
    (Code.region id ops true).wp P (Post ρ S H w a.defers K) a w := by
  simp only [planB, Bool.and_eq_true, decide_eq_true_eq] at hB
  obtain ⟨⟨⟨⟨⟨⟨hsel, hlen⟩, hcov⟩, ⟨⟨hpt, hht⟩, hwf⟩, hnd⟩, hfl, hfree⟩, hpre, hch⟩, hhd, htl⟩ := hB
  have hcov' : ∀ j, j < ops.size → j ∈ pre ∨ j ∈ hd.map Prod.fst ∨ j ∈ floats tl ∨ j ∈ wraps tl := fun j hj => by
    have := List.all_eq_true.1 hcov j (List.mem_range.2 hj)
    simp only [Bool.or_eq_true, List.contains_iff_mem] at this
    rcases this with (h | h) | h
    · exact .inl h
    · exact .inr (.inl h)
    · exact .inr (.inr ((tl_split tl j).1 h))
  have hpt' := disj_spec hpt
  have hht' := disj_spec hht
  have inW : ∀ {j}, j ∈ wraps tl → j ∈ tl.map Prod.fst := fun h => (tl_split tl _).2 (.inr h)
  have inF : ∀ {j}, j ∈ floats tl → j ∈ tl.map Prod.fst := fun h => (tl_split tl _).2 (.inl h)
  have inv0 : PInv .any ops [] (wraps tl) (Array.replicate ops.size false) :=
    ⟨by simp, fun j oj _ hl => (by rw [getD_replicate_false] at hl; cases hl), fun t _ => getD_replicate_false _ _, fun k hk => by cases hk⟩
  have hin : ∀ (l : List Nat) (ls : Array Bool), preB .any ops l ls = true → ∀ k ∈ l, k < ops.size := by
    intro l
    induction l with
    | nil => intro ls _ k hk; cases hk
    | cons x l ih =>
      intro ls h k hk
      simp only [preB, Bool.and_eq_true] at h
      cases hk with
      | head =>
        have hr : x ∈ Region.ready .any ops ls := by simpa using h.1.1
        obtain ⟨_, o, ho, _⟩ := mem_ready.1 hr
        exact (Array.getElem?_eq_some_iff.1 ho).1
      | tail _ hk => exact ih _ h.2 k hk
  have inv1 := preB_inv (pre0 := pre) pre [] _ inv0 hpre (fun k hk h => hpt' k hk (inW h)) (hin _ _ hpre)
  rw [List.nil_append] at inv1
  have inv2 := hdB_inv (fl := floats tl) hd pre _ inv1 hhd fun k hk h => hht' k hk (inW h)
  have hs1 : (setAll (Array.replicate ops.size false) pre).size = ops.size := by rw [setAll_size]; simp
  have un1 : ∀ j, j < ops.size → j ∉ pre → (setAll (Array.replicate ops.size false) pre).getD j false = false := fun j hj hn => by
    rw [setAll_get _ _ _ (by simpa using hj), getD_replicate_false]
    simpa using hn
  have cx : Ctx P ops pre (hd.map Prod.fst) (reads hd) tl := by
    refine ⟨hsel, hcov', fun j hj h => hht' j hj (inW h), fun j hj h => disj_spec hwf j h hj, fun j hj h => hht' j hj (inF h), fun j hj h => hpt' j hj (inF h), fun i hi => List.all_eq_true.1 hfl i hi, fun i hi oi hoi k ok hk hne hnp hno => ?_, ?_⟩
    · have hkl : k < ops.size := (Array.getElem?_eq_some_iff.1 hk).1
      exact Region.free_spec hoi (List.all_eq_true.1 hfree i hi) k ok hk hne (getD_in (by rw [hs1]; exact hkl) (un1 k hkl hnp)) hno
    · rcases Bool.or_eq_true_iff.1 hch with h | h
      · exact .inr (by simpa using h)
      · exact .inl h
  refine wp_region_any hm ?_
  have hsz : ops.size = pre.length + (hd.length + tl.length) := by omega
  rw [hsz]
  have e0 : Array.replicate (pre.length + (hd.length + tl.length)) false = Array.replicate ops.size false := by rw [hsz]
  rw [e0]
  refine execB_sound hsel (fun c a d v w h => h.put) (dfs := a.defers) (ρ := ρ) (fun s1 a1 h1 hr1 hd1 => ?_) pre s _ a next hpre rfl hr rfl
  have hfl0 : ∀ i ∈ floats tl, i < ops.size := fun i hi => by
    obtain ⟨o, _, _, _, _, ho, _⟩ := floatB_spec (List.all_eq_true.1 hfl i hi)
    exact (Array.getElem?_eq_some_iff.1 ho).1
  have hmid : Mid P ops pre tl (floats tl) w (setAll (Array.replicate ops.size false) pre) [] (setAll (Array.replicate ops.size false) pre) ρ S H { w with drawn := w.drawn + 1 } :=
    ⟨⟨hs1, hs1, fun j => by simp⟩, inv1.pre, fun e he => absurd he (by simp), List.nodup_nil, List.nodup_nil, List.nodup_nil, fun i hi => ⟨hi, un1 i (hfl0 i hi) fun h => hpt' i h (inF hi)⟩, hnd, fun e he => absurd he (by simp)⟩
  have hH := head_CC (C := C) cx htl (fun j hj hun => by
      rcases hcov' j hj with h | h | h | h
      · have := inv2.pre j (List.mem_append_left _ h); rw [hun] at this; cases this
      · have := inv2.pre j (List.mem_append_right _ h); rw [hun] at this; cases this
      · exact .inl h
      · exact .inr h) hd s1 H hC h1 _ hhd (fun _ h => h) (fun _ h => h) rfl inv1 (floats tl).length [] (by simp) _ ρ S _ a1 hmid (Ev.drew ρ S H w) hd1 (hs.heap rfl) hr1
  exact AnyC.any _ _ _ _ hH
theorem planQ_sound {P : Program} {ops : Array Oper} (hm : P.follows .mixedOrders = true) {id : Nat} {s : List AV} {H : List Ent} {K : Ex → List AV → List Ent → Prop} {pre hd0 : List Nat} {tl : List (Nat × Nat)} (hB : planB P .any ops pre (hd0.map fun k => (k, 1)) tl = true)
    (next : execB P ops pre s fun s1 => execL P ops hd0 s1 H fun s2 => execT P ops tl s2 H K) {ρ : List Loc} {S : Nat → Prop} {w : World} {a : Act} (hs : Sat ρ S H w) (hr : RelS ρ s a.tmps.toList) :
    (Code.region id ops true).wp P (Post ρ S H w a.defers K) a w := by
  have hfst : (hd0.map fun k => (k, 1)).map Prod.fst = hd0 := by simp [List.map_map, Function.comp_def]
  have hrds : reads (hd0.map fun k => (k, 1)) = hd0 := by
    unfold reads
    rw [List.filter_eq_self.2 fun x hx => by obtain ⟨k, _, rfl⟩ := List.mem_map.1 hx; rfl, hfst]
  generalize hhd0 : (hd0.map fun k => (k, 1)) = hd at *
  simp only [planB, Bool.and_eq_true, decide_eq_true_eq] at hB
  obtain ⟨⟨⟨⟨⟨⟨hsel, hlen⟩, hcov⟩, ⟨⟨hpt, hht⟩, hwf⟩, hnd⟩, hfl, hfree⟩, hpre, hch⟩, hhd, htl⟩ := hB
  have hcov' : ∀ j, j < ops.size → j ∈ pre ∨ j ∈ hd.map Prod.fst ∨ j ∈ floats tl ∨ j ∈ wraps tl := fun j hj => by
    have := List.all_eq_true.1 hcov j (List.mem_range.2 hj)
    simp only [Bool.or_eq_true, List.contains_iff_mem] at this
    rcases this with (h | h) | h
    · exact .inl h
    · exact .inr (.inl h)
    · exact .inr (.inr ((tl_split tl j).1 h))
  have hpt' := disj_spec hpt
  have hht' := disj_spec hht
  have inW : ∀ {j}, j ∈ wraps tl → j ∈ tl.map Prod.fst := fun h => (tl_split tl _).2 (.inr h)
  have inF : ∀ {j}, j ∈ floats tl → j ∈ tl.map Prod.fst := fun h => (tl_split tl _).2 (.inl h)
  have inv0 : PInv .any ops [] (wraps tl) (Array.replicate ops.size false) :=
    ⟨by simp, fun j oj _ hl => (by rw [getD_replicate_false] at hl; cases hl), fun t _ => getD_replicate_false _ _, fun k hk => by cases hk⟩
  have hin : ∀ (l : List Nat) (ls : Array Bool), preB .any ops l ls = true → ∀ k ∈ l, k < ops.size := by
    intro l
    induction l with
    | nil => intro ls _ k hk; cases hk
    | cons x l ih =>
      intro ls h k hk
      simp only [preB, Bool.and_eq_true] at h
      cases hk with
      | head =>
        have hr : x ∈ Region.ready .any ops ls := by simpa using h.1.1
        obtain ⟨_, o, ho, _⟩ := mem_ready.1 hr
        exact (Array.getElem?_eq_some_iff.1 ho).1
      | tail _ hk => exact ih _ h.2 k hk
  have inv1 := preB_inv (pre0 := pre) pre [] _ inv0 hpre (fun k hk h => hpt' k hk (inW h)) (hin _ _ hpre)
  rw [List.nil_append] at inv1
  have inv2 := hdB_inv (fl := floats tl) hd pre _ inv1 hhd fun k hk h => hht' k hk (inW h)
  have hs1 : (setAll (Array.replicate ops.size false) pre).size = ops.size := by rw [setAll_size]; simp
  have un1 : ∀ j, j < ops.size → j ∉ pre → (setAll (Array.replicate ops.size false) pre).getD j false = false := fun j hj hn => by
    rw [setAll_get _ _ _ (by simpa using hj), getD_replicate_false]
    simpa using hn
  have cx : Ctx P ops pre (hd.map Prod.fst) (reads hd) tl := by
    refine ⟨hsel, hcov', fun j hj h => hht' j hj (inW h), fun j hj h => disj_spec hwf j h hj, fun j hj h => hht' j hj (inF h), fun j hj h => hpt' j hj (inF h), fun i hi => List.all_eq_true.1 hfl i hi, fun i hi oi hoi k ok hk hne hnp hno => ?_, ?_⟩
    · have hkl : k < ops.size := (Array.getElem?_eq_some_iff.1 hk).1
      exact Region.free_spec hoi (List.all_eq_true.1 hfree i hi) k ok hk hne (getD_in (by rw [hs1]; exact hkl) (un1 k hkl hnp)) hno
    · rcases Bool.or_eq_true_iff.1 hch with h | h
      · exact .inr (by simpa using h)
      · exact .inl h
  refine wp_region_any hm ?_
  have hsz : ops.size = pre.length + (hd.length + tl.length) := by omega
  rw [hsz]
  have e0 : Array.replicate (pre.length + (hd.length + tl.length)) false = Array.replicate ops.size false := by rw [hsz]
  rw [e0]
  refine execB_sound hsel (fun c a d v w h => h.put) (dfs := a.defers) (ρ := ρ) (fun s1 a1 h1 hr1 hd1 => ?_) pre s _ a next hpre rfl hr rfl
  have hfl0 : ∀ i ∈ floats tl, i < ops.size := fun i hi => by
    obtain ⟨o, _, _, _, _, ho, _⟩ := floatB_spec (List.all_eq_true.1 hfl i hi)
    exact (Array.getElem?_eq_some_iff.1 ho).1
  have hmid : Mid P ops pre tl (floats tl) w (setAll (Array.replicate ops.size false) pre) [] (setAll (Array.replicate ops.size false) pre) ρ S H { w with drawn := w.drawn + 1 } :=
    ⟨⟨hs1, hs1, fun j => by simp⟩, inv1.pre, fun e he => absurd he (by simp), List.nodup_nil, List.nodup_nil, List.nodup_nil, fun i hi => ⟨hi, un1 i (hfl0 i hi) fun h => hpt' i h (inF hi)⟩, hnd, fun e he => absurd he (by simp)⟩
  rw [hfst] at cx inv2
  rw [hrds] at cx
  have hcv : ∀ j, j < ops.size → (setAll (setAll (Array.replicate ops.size false) pre) hd0).getD j false = false → j ∈ floats tl ∨ j ∈ wraps tl := fun j hj hun => by
    rcases hcov' j hj with h | h | h | h
    · have := inv2.pre j (List.mem_append_left _ h); rw [hun] at this; cases this
    · rw [hfst] at h; have := inv2.pre j (List.mem_append_right _ h); rw [hun] at this; cases this
    · exact .inl h
    · exact .inr h
  rw [hfst] at htl
  have hF := headF_lex cx hcv (hs.heap rfl) hd0 s1 _ a1 h1 (by rw [hhd0]; exact hhd) (fun _ h => h) inv1 hr1 hd1 rfl
  have hnf := hdB_nf hd0 _ (by rw [hhd0]; exact hhd) (fun i hi => un1 i (hfl0 i hi) fun h => hpt' i h (inF hi)) (fun k hk => cx.hf k hk)
  have hH := headF_C (K := K) cx hnf htl hcv hd0.length (floats tl).length [] (by simp) _ _ S _ a1 inv1 hF hmid (Ev.drew ρ S H w) (hs.heap rfl)
  have hlh : hd.length = hd0.length := by rw [← hhd0]; simp
  rw [hlh]
  exact AnyC.any _ _ _ _ hH
end plan

/-! ### A loop with a measure of its own -/
theorem wp_loop_by {P : Program} {c : Code} {Q : Exit → Act → World → Prop} (I : Nat → Act → World → Prop)
    (round : ∀ n a w, I n a w → c.wp P (Exit.then (fun a' w' => ∃ m, m < n ∧ I m a' w') Q) a w) : ∀ n a w, I n a w → (Code.loop c).wp P Q a w := by
  intro n a w h0 b k cs
  have key : ∀ n a w, I n a w → ∃ e a' w', Q e a' w' ∧ Arrives P (lone (b.at a (.code c :: .inLoop c :: k)) cs w) b k cs e a' w' := by
    intro n
    induction n using Nat.strongRecOn with
    | _ n ih =>
      intro a w hI
      obtain ⟨e, a1, w1, hq, harr⟩ := round n a w hI b (.inLoop c :: k) cs
      cases e with
      | normal =>
        obtain ⟨m, hm, hI1⟩ := hq
        obtain ⟨e2, a2, w2, hq2, harr2⟩ := ih m hm a1 w1 hI1
        exact ⟨e2, a2, w2, hq2, .of_steps (Steps.trans harr (.one step_inLoop)) harr2⟩
      | exit id => exact ⟨_, a1, w1, hq, .pass (x := .inLoop c) rfl (fun _ _ => .inl (by simp)) harr⟩
      | goto l => exact ⟨_, a1, w1, hq, .pass (x := .inLoop c) rfl (fun _ _ => .inl (by simp)) harr⟩
      | ret => exact ⟨_, a1, w1, hq, .pass (x := .inLoop c) rfl (fun _ _ => .inl (by simp)) harr⟩
      | panic ch => exact ⟨_, a1, w1, hq, .pass (x := .inLoop c) rfl (fun _ _ => .inl (by simp)) harr⟩
      | outgrown => exact ⟨_, a1, w1, hq, .pass (x := .inLoop c) rfl (fun _ _ => .inl (by simp)) harr⟩
  obtain ⟨e, a', w', hq, harr⟩ := key n a w h0
  exact ⟨e, a', w', hq, .of_steps (.one step_loop) harr⟩
end Go.AX
