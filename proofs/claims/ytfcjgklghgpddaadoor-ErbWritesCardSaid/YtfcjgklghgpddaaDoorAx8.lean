/-
  AX, eighth text: the executor over code.
-/
import Derived.Test.YtfcjgklghgpddaaDoorAx7
import Derived.Deep.Quiet
import Derived.StillTail
namespace Go.AX

/-- Function f of the program can be entered. -/
def CallOk (P : Program) (f : FuncId) : Prop := ∃ fn, P.funcs[f]? = some fn ∧ (fn.name == "runtime.NumGoroutine") = false ∧ fn.body.isSome = true

def OutOk (ρ : List Loc) : Out → Ending → Prop
  | .val av, e => ∃ v, e = .returned v ∧ av.rel ρ v
  | .vals l, e => ∃ xs : List Value, e = .returned (.tuple xs.toArray) ∧ RelS ρ l xs
  | .pan chain, e => e = .panicked chain

/-- What a call does, said of abstract states. -/
structure SpecH (P : Program) (f : FuncId) (args : List AV) (H : List Ent) (K : Out → List Ent → Prop) : Prop where
  ok : CallOk P f
  run : ∀ (ρ : List Loc) (S : Nat → Prop) (w : World) (vs : List Value), Sat ρ S H w → RelS ρ args vs → Calls P f vs.toArray w fun e w' =>
    ∃ ρ' S' H' out, Sat ρ' S' H' w' ∧ Ev ρ S H w ρ' S' H' w' ∧ OutOk ρ' out e ∧ K out H'

theorem SpecH.mono {P : Program} {f : FuncId} {args : List AV} {H : List Ent} {K K' : Out → List Ent → Prop} (h : SpecH P f args H K) (hk : ∀ out H', K out H' → K' out H') : SpecH P f args H K' :=
  ⟨h.ok, fun ρ S w vs hs hr => (h.run ρ S w vs hs hr).mono fun _ _ ⟨ρ', S', H', out, a, b, c, d⟩ => ⟨ρ', S', H', out, a, b, c, hk _ _ d⟩⟩

/-- A call inside a region that draws its order: one value, whatever the world. -/
inductive QCall (P : Program) (f : FuncId) (args : List AV) (H : List Ent) (K : AV → Prop) : Prop where
  | intro (x : Value) (spec : SpecH P f args H fun out H' => out = .val (.c (.v x)) ∧ H' = H) (next : forceV x fun x => K (.c (.v x)))

/-! ### Weakening -/
def wkC : CV → CV → Prop
  | _, .any => True
  | c, d => c = d
def wkCs : List CV → List CV → Prop
  | [], [] => True
  | c :: cs, d :: ds => wkC c d ∧ wkCs cs ds
  | _, _ => False
def wkS : List AV → List AV → Prop
  | [], [] => True
  | a :: s, b :: t => match b with
    | .c .any => wkS s t
    | .c (.v x) => a = .c (.v x) ∧ wkS s t
    | .c (.lp i o) => a = .c (.lp i o) ∧ wkS s t
    | .c (.sl i n) => a = .c (.sl i n) ∧ wkS s t
    | .agg cs => a = .agg cs ∧ wkS s t
  | _, _ => False
def wkE : Ent → Ent → Prop
  | _, .dead => True
  | .blk T cs, .blk U ds => T = U ∧ wkCs cs ds
  | .row T a n cs, .row U b m ds => T = U ∧ a = b ∧ n = m ∧ cs = ds
  | .fact F, .fact G => ∀ w, F w → G w
  | .fz T sz n xs b cap, .fz T' sz' n' xs' b' cap' => T = T' ∧ sz = sz' ∧ n = n' ∧ xs = xs' ∧ b = b' ∧ cap = cap'
  | .fz T sz n xs b cap, .fact G => ∀ w, RowF T sz n xs b cap w → G w
  | .app T sz xs a n cap, .app T' sz' xs' a' n' cap' => (T = T' ∧ sz = sz' ∧ xs = xs' ∧ a = a' ∧ n = n' ∧ cap = cap') ∨ (xs' = [] ∧ a' = none ∧ n' = 0 ∧ cap' = 0) ∨ (T = T' ∧ sz = sz' ∧ xs' = xs.take (n' * sz) ∧ a = a' ∧ n' ≤ n ∧ cap = cap')
  | .mp b es c, .mp b' es' c' => b = b' ∧ es = es' ∧ c = c'
  | .dead, .app _ _ xs a n cap => xs = [] ∧ a = none ∧ n = 0 ∧ cap = 0
  | _, _ => False
def wkH : List Ent → List Ent → Prop
  | _, [] => True
  | e :: H, f :: G => wkE e f ∧ wkH H G
  | [], _ :: _ => False
/-- Nothing points behind the first n entries. -/
def okC (n : Nat) : CV → Prop
  | .lp i _ | .sl i _ => i < n
  | _ => True
def okCs (n : Nat) : List CV → Prop
  | [] => True
  | c :: cs => okC n c ∧ okCs n cs
def okCsB (n : Nat) : List CV → Bool
  | [] => true
  | .lp i _ :: cs => match Nat.blt i n with | true => okCsB n cs | false => false
  | .sl i _ :: cs => match Nat.blt i n with | true => okCsB n cs | false => false
  | _ :: cs => okCsB n cs
def okSB (n : Nat) : List AV → Bool
  | [] => true
  | .c (.lp i _) :: s => match Nat.blt i n with | true => okSB n s | false => false
  | .c (.sl i _) :: s => match Nat.blt i n with | true => okSB n s | false => false
  | .agg cs :: s => match okCsB n cs with | true => okSB n s | false => false
  | _ :: s => okSB n s
def okE (n : Nat) : Ent → Prop
  | .blk _ cs | .row _ _ _ cs => okCs n cs
  | _ => True
def okH (n : Nat) : List Ent → Prop
  | [] => True
  | e :: H => okE n e ∧ okH n H

def forceS : List AV → (List AV → Prop) → Prop
  | [], K => K []
  | a :: s, K => forceA a fun a => forceS s fun s => K (a :: s)
def forceH : List Ent → (List Ent → Prop) → Prop
  | [], K => K []
  | e :: H, K => forceH H fun H => K (e :: H)
/-- Slots by a short list of those that are known. -/
def mkS : Nat → Nat → List (Nat × AV) → List AV
  | 0, _, _ => []
  | n + 1, k, l => look k l :: mkS n (k + 1) l
  where
  look (k : Nat) : List (Nat × AV) → AV
    | [] => .c .any
    | (j, a) :: l => match Nat.beq j k with | true => a | false => look k l

/-- Entries that ask nothing: slices that are nil yet. -/
def padB : List Ent → Bool
  | [] => true
  | .app _ _ [] none 0 0 :: es => padB es
  | .dead :: es => padB es
  | _ :: _ => false
/-- A loop that is over after at most n rounds, round by round. -/
def LoopU (E : List AV → List Ent → (Ex → List AV → List Ent → Prop) → Prop) (K : Ex → List AV → List Ent → Prop) (n : Nat) : List AV → List Ent → Prop :=
  Nat.rec (motive := fun _ => List AV → List Ent → Prop) (fun _ _ => False)
    (fun _ ih s H => E s H fun e s' H' => match e with
      | .normal => ih s' H'
      | .exit n => K (.exit n) s' H'
      | .ret => K .ret s' H'
      | .pan c => K (.pan c) s' H') n

/-- A loop: a family of states, a measure. -/
inductive LoopN (E : List AV → List Ent → (Ex → List AV → List Ent → Prop) → Prop) (s : List AV) (H : List Ent) (K : Ex → List AV → List Ent → Prop) : Prop where
  | intro (ι : Type) (inv : ι → Prop) (sl : ι → List AV) (hp : ι → List Ent) (μ : ι → Nat) (pad : List Ent) (padok : padB pad = true)
      (len : ∀ i, (hp i).length = (H ++ pad).length) (oks : ∀ i, okSB (H ++ pad).length (sl i) = true) (okh : ∀ i, inv i → okH (H ++ pad).length (hp i))
      (start : ∃ i, inv i ∧ wkS s (sl i) ∧ wkH (H ++ pad) (hp i))
      (round : ∀ i, inv i → forceS (sl i) fun s => forceH (hp i) fun H => E s H fun e s' H' => match e with
        | .normal => ∃ j, inv j ∧ μ j < μ i ∧ wkS s' (sl j) ∧ wkH H' (hp j)
        | .exit n => K (.exit n) s' H'
        | .ret => K .ret s' H'
        | .pan c => K (.pan c) s' H')
  | unroll (n : Nat) (rounds : LoopU E K n s H)

/-! ### One operation -/
def kind (P : Program) (o : Op) : Nat :=
  match o with
  | .alloc _ | .box _ _ | .store _ _ _ | .buildSlice _ _ _ => 1
  | .makeSlice .. | .makeMap .. | .mapUpdate .. | .insert .. | .mapEntry .. | .entryStore .. | .range .. | .next .. | .entry .. => 1
  | .convert _ dst _ => match P.underlying dst with | some (.slice _) => 1 | _ => 0
  | .call { callee := .builtin b, .. } => match b with | .len | .cap | .min | .max | .unsafeSliceData => 0 | _ => 1
  | .call { callee := .value (.func f), .. } => match P.funcs[f]? with | some fn => (match fn.body with | none => 1 | some _ => 2) | none => 2
  | .call { callee := .value _, .. } => 2
  | _ => 0

/-- Plain arguments ahead of, and behind, a call's own: those that a function value holds. -/
def pvs : List Value → List AV
  | [] => []
  | x :: xs => .c (.v x) :: pvs xs
def callK (s : List AV) (o : Op) (K : FuncId → List AV → Prop) : Prop :=
  match o with
  | .call { callee := .value f, args, .. } => match opv s f with
    | .c (.v (.func (.func g) first cap)) => K g (pvs first.toList ++ opvs s args.toList ++ pvs cap.toList)
    | _ => False
  | _ => False

def stepK (P : Program) (o : Oper) (s : List AV) (H : List Ent) (K : Out → List Ent → Prop) : Prop :=
  match kind P o.op with
  | 0 => readK P o s H fun av => K (.val av) H
  | 1 => effK P o s H fun av H' => K (.val av) H'
  | _ => callK s o.op fun f args => SpecH P f args H K

def wantK (ops : Array Oper) (o : Oper) (s : List AV) (A B : List AV → Prop) : Prop :=
  match o.guard with
  | none => A s
  | some (j, want) =>
    match (ops[j]?).bind (·.dst) with
    | none => False
    | some d => match nth s d with
      | .c (.v (.bool b)) => brd b (setK s d (.c (.v (.bool true))) (bif want then A else B)) (setK s d (.c (.v (.bool false))) (bif want then B else A))
      | .c (.v (.tuple _)) => B s
      | _ => False

/-- Recursors are named here, so that Lean and its kernel unfold the executor in one way. -/
def execOps (P : Program) (ops : Array Oper) (l : List Oper) : List AV → List Ent → (Ex → List AV → List Ent → Prop) → Prop :=
  List.rec (motive := fun _ => List AV → List Ent → (Ex → List AV → List Ent → Prop) → Prop)
    (fun s H K => K .normal s H)
    (fun o _ ih s H K => wantK ops o s (fun s => stepK P o s H fun out H' => match out with
        | .val av => putK s o.dst av fun s' => ih s' H' K
        | .vals _ => False
        | .pan c => K (.pan c) s H')
      (fun s => putK s o.dst (.c (.v undef)) fun s' => ih s' H K)) l
theorem execOps_cons (P : Program) (ops : Array Oper) (o : Oper) (rest : List Oper) (s : List AV) (H : List Ent) (K : Ex → List AV → List Ent → Prop) :
    execOps P ops (o :: rest) s H K = wantK ops o s (fun s => stepK P o s H fun out H' => match out with
        | .val av => putK s o.dst av fun s' => execOps P ops rest s' H' K
        | .vals _ => False
        | .pan c => K (.pan c) s H')
      (fun s => putK s o.dst (.c (.v undef)) fun s' => execOps P ops rest s' H K) := rfl

/-! ### A region that draws its order -/
def detCs : List CV → Bool
  | [] => true
  | .any :: _ => false
  | _ :: cs => detCs cs
def detA : AV → Bool
  | .c .any => false
  | .c _ => true
  | .agg cs => detCs cs
def stepQ (P : Program) (o : Oper) (s : List AV) (H : List Ent) (K : AV → Prop) : Prop :=
  match kind P o.op with
  | 0 => readK P o s H fun av => match detA av with | true => K av | false => False
  | 2 => callK s o.op fun f args => QCall P f args H K
  | _ => False
def execQ (P : Program) (ops : Array Oper) (l : List Oper) : List AV → List Ent → (List AV → Prop) → Prop :=
  List.rec (motive := fun _ => List AV → List Ent → (List AV → Prop) → Prop)
    (fun s _ K => K s)
    (fun o _ ih s H K => wantK ops o s (fun s => stepQ P o s H fun av => putK s o.dst av fun s' => ih s' H K)
      (fun s => putK s o.dst (.c (.v undef)) fun s' => ih s' H K)) l
theorem execQ_cons (P : Program) (ops : Array Oper) (o : Oper) (rest : List Oper) (s : List AV) (H : List Ent) (K : List AV → Prop) :
    execQ P ops (o :: rest) s H K = wantK ops o s (fun s => stepQ P o s H fun av => putK s o.dst av fun s' => execQ P ops rest s' H K)
      (fun s => putK s o.dst (.c (.v undef)) fun s' => execQ P ops rest s' H K) := rfl
/-! ### Regions by a plan: blind operations first, then quiet ones, then the others, each alone or blind -/
def setAll : Array Bool → List Nat → Array Bool
  | ls, [] => ls
  | ls, k :: l => setAll (ls.setIfInBounds k true) l
def preB (md : Region.Mode) (ops : Array Oper) : List Nat → Array Bool → Bool
  | [], _ => true
  | k :: l, ls => (Region.ready md ops ls).contains k && Region.free md ops ls k && preB md ops l (ls.setIfInBounds k true)
def tlB (md : Region.Mode) (ops : Array Oper) : List (Nat × Nat) → List Nat → Array Bool → Bool
  | [], rem, ls => rem.isEmpty && (Region.ready md ops ls).isEmpty
  | (k, 0) :: l, rem, ls => (Region.ready md ops ls).contains k && decide (Region.ready md ops (setAll ls rem) = [k]) && !rem.contains k && tlB md ops l rem (ls.setIfInBounds k true)
  | (k, 1) :: l, rem, ls => (Region.ready md ops ls).contains k && Region.free md ops ls k && !rem.contains k && tlB md ops l rem (ls.setIfInBounds k true)
  | (k, _) :: l, rem, ls => rem.contains k && decide (Region.ready md ops (setAll ls (rem.erase k)) = [k]) && tlB md ops l (rem.erase k) (ls.setIfInBounds k true)
/-- Variables that are made in the region, whenever the order has it. -/
def floats (tl : List (Nat × Nat)) : List Nat := (tl.filter fun k => Nat.beq k.2 2).map Prod.fst
def wraps (tl : List (Nat × Nat)) : List Nat := (tl.filter fun k => !Nat.beq k.2 2).map Prod.fst
def floatB (P : Program) (md : Region.Mode) (ops : Array Oper) (i : Nat) : Bool :=
  match ops[i]? with
  | some o => (match o.op with | .alloc T => (match P.info? T with | some inf => inf.zero.isSome | none => false) | _ => false) && o.guard.isNone && o.dst.isSome && o.after.all fun e => !Region.binds md e
  | none => false
def sinkL (md : Region.Mode) (ops : Array Oper) (t0 : Nat) : List Nat → Bool
  | [] => true
  | i :: l => (t0 :: l).any (fun j => Region.waitsFor md ops j i) && sinkL md ops t0 l
def chainL (md : Region.Mode) (ops : Array Oper) (hd : List Nat) : List Nat → Bool
  | [] => hd.isEmpty
  | t0 :: l => sinkL md ops t0 hd && l.all fun t => (t0 :: l).any fun t' => Region.waitsFor md ops t t'
def hdB (md : Region.Mode) (ops : Array Oper) (fl : List Nat) : List (Nat × Nat) → Array Bool → Bool
  | [], _ => true
  | (k, 0) :: l, ls => (Region.ready md ops ls).contains k && decide (Region.ready md ops (setAll ls fl) = [k]) && hdB md ops fl l (ls.setIfInBounds k true)
  | (k, _) :: l, ls => (Region.ready md ops ls).contains k && Region.free md ops ls k && hdB md ops fl l (ls.setIfInBounds k true)
/-- Those that read. -/
def reads (hd : List (Nat × Nat)) : List Nat := (hd.filter fun k => Nat.ble k.2 1).map Prod.fst
def disj (a b : List Nat) : Bool := a.all fun i => !b.contains i
def planB (P : Program) (md : Region.Mode) (ops : Array Oper) (pre : List Nat) (hd tl : List (Nat × Nat)) : Bool :=
  (Region.noSelect ops && decide (pre.length + hd.length + tl.length = ops.size) && ((List.range ops.size).all fun i => pre.contains i || (hd.map Prod.fst).contains i || (tl.map Prod.fst).contains i)) &&
    (disj pre (tl.map Prod.fst) && disj (hd.map Prod.fst) (tl.map Prod.fst) && disj (wraps tl) (floats tl) && decide (floats tl).Nodup) &&
    ((floats tl).all (floatB P md ops) && (floats tl).all (Region.free md ops (setAll (Array.replicate ops.size false) pre))) &&
    (preB md ops pre (Array.replicate ops.size false) && ((wraps tl).isEmpty || chainL md ops (reads hd) (wraps tl))) &&
    (hdB md ops (floats tl) hd (setAll (Array.replicate ops.size false) pre) && tlB md ops tl (floats tl) (setAll (setAll (Array.replicate ops.size false) pre) (hd.map Prod.fst)))
/-- An operation that does not look at memory. -/
def blindK (P : Program) (o : Oper) (s : List AV) (K : AV → Prop) : Prop :=
  match o.op with
  | .move x => forceA (opv s x) K
  | .assign x => asgK s x K
  | .fieldAddr T x f => match opv s x with
    | .c (.lp i off) => match fieldOff P T f with | some fo => forceN fo fun fo => K (.c (.lp i (off + fo))) | none => False
    | .c (.v (.pointer (some a))) => match fieldOff P T f with | some fo => forceN fo fun fo => K (.c (.v (.pointer (some (a.add fo))))) | none => False
    | _ => False
  | _ => genK P o s K
def nthO : List Oper → Nat → Option Oper
  | [], _ => none
  | x :: _, 0 => some x
  | _ :: xs, n + 1 => nthO xs n
def pickK (ops : Array Oper) (k : Nat) (F : Oper → Prop) : Prop := match nthO ops.toList k with | some o => F o | none => False
def execB (P : Program) (ops : Array Oper) (l : List Nat) : List AV → (List AV → Prop) → Prop :=
  List.rec (motive := fun _ => List AV → (List AV → Prop) → Prop)
    (fun s K => K s)
    (fun k _ ih s K => pickK ops k fun o => wantK ops o s (fun s => blindK P o s fun av => putK s o.dst av fun s' => ih s' K)
      (fun s => putK s o.dst (.c (.v undef)) fun s' => ih s' K)) l
def headK (P : Program) (o : Oper) (s : List AV) (H : List Ent) (how : Nat) (K : AV → List Ent → Prop) : Prop :=
  match how with
  | 0 => stepK P o s H fun out H' => match out with | .val av => Nd (wkH H' H) (K av H') | _ => False
  | 1 => readK P o s H fun av => match detA av with | true => K av H | false => False
  | _ => blindK P o s fun av => K av H
def execH (P : Program) (ops : Array Oper) (l : List (Nat × Nat)) : List AV → List Ent → (List AV → List Ent → Prop) → Prop :=
  List.rec (motive := fun _ => List AV → List Ent → (List AV → List Ent → Prop) → Prop)
    (fun s H K => K s H)
    (fun kb _ ih s H K => pickK ops kb.1 fun o => wantK ops o s (fun s => headK P o s H kb.2 fun av H' => putK s o.dst av fun s' => ih s' H' K)
      (fun s => putK s o.dst (.c (.v undef)) fun s' => ih s' H K)) l
def tailK (P : Program) (o : Oper) (s : List AV) (H : List Ent) (how : Nat) (K : Out → List Ent → Prop) : Prop :=
  match how with
  | 1 => blindK P o s fun av => K (.val av) H
  | _ => stepK P o s H K
def execT (P : Program) (ops : Array Oper) (l : List (Nat × Nat)) : List AV → List Ent → (Ex → List AV → List Ent → Prop) → Prop :=
  List.rec (motive := fun _ => List AV → List Ent → (Ex → List AV → List Ent → Prop) → Prop)
    (fun s H K => K .normal s H)
    (fun kb _ ih s H K => pickK ops kb.1 fun o => wantK ops o s (fun s => tailK P o s H kb.2 fun out H' => match out with
        | .val av => putK s o.dst av fun s' => ih s' H' K
        | .vals _ => False
        | .pan c => K (.pan c) s H')
      (fun s => putK s o.dst (.c (.v undef)) fun s' => ih s' H K)) l
/-- Quiet operations of a region, in a listed order. -/
def execL (P : Program) (ops : Array Oper) (l : List Nat) : List AV → List Ent → (List AV → Prop) → Prop :=
  List.rec (motive := fun _ => List AV → List Ent → (List AV → Prop) → Prop)
    (fun s _ K => K s)
    (fun k _ ih s H K => pickK ops k fun o => wantK ops o s (fun s => stepQ P o s H fun av => putK s o.dst av fun s' => ih s' H K)
      (fun s => putK s o.dst (.c (.v undef)) fun s' => ih s' H K)) l
/-- A region that draws its order: all its operations quiet; or by a plan; or by a plan whose middle is quiet. -/
inductive DrawN (P : Program) (ops : Array Oper) (s : List AV) (H : List Ent) (K : Ex → List AV → List Ent → Prop) : Prop where
  | quiet (ok : Region.lexB .any ops = true) (next : execQ P ops ops.toList s H fun s' => K .normal s' H)
  | plan (pre : List Nat) (hd tl : List (Nat × Nat)) (ok : planB P .any ops pre hd tl = true) (next : execB P ops pre s fun s1 => execH P ops hd s1 H fun s2 H2 => execT P ops tl s2 H2 K)
  | planQ (pre hd : List Nat) (tl : List (Nat × Nat)) (ok : planB P .any ops pre (hd.map fun k => (k, 1)) tl = true) (next : execB P ops pre s fun s1 => execL P ops hd s1 H fun s2 => execT P ops tl s2 H K)

/-- All operations quiet, none of which makes or writes memory. -/
theorem DrawN.calm {P : Program} {ops : Array Oper} {s : List AV} {H : List Ent} {K : Ex → List AV → List Ent → Prop} (ok : (Region.lexB .any ops && ops.toList.all fun o => !Nat.beq (kind P o.op) 1) = true) (next : execQ P ops ops.toList s H fun s' => K .normal s' H) : DrawN P ops s H K :=
  .quiet (by rw [Bool.and_eq_true] at ok; exact ok.1) next
def condK (c : Operand) (s : List AV) (A B : List AV → Prop) : Prop :=
  match c with
  | .tmp t => match nth s t with
    | .c (.v (.bool b)) => brd b (setK s t (.c (.v (.bool true))) A) (setK s t (.c (.v (.bool false))) B)
    | _ => False
  | .const (.bool b) => brd b (A s) (B s)
  | _ => False

def seqK (E : List AV → List Ent → (Ex → List AV → List Ent → Prop) → Prop) (K : Ex → List AV → List Ent → Prop) (e : Ex) (s : List AV) (H : List Ent) : Prop :=
  match e with
  | .normal => E s H K
  | .exit n => K (.exit n) s H
  | .ret => K .ret s H
  | .pan c => K (.pan c) s H
def blockK (id : Nat) (K : Ex → List AV → List Ent → Prop) (e : Ex) (s : List AV) (H : List Ent) : Prop :=
  match e with
  | .normal => K .normal s H
  | .exit n => bif Nat.beq n id then K .normal s H else K (.exit n) s H
  | .ret => K .ret s H
  | .pan c => K (.pan c) s H
def regionK (P : Program) (ops : Array Oper) (draw : Bool) (s : List AV) (H : List Ent) (K : Ex → List AV → List Ent → Prop) : Prop :=
  match draw with
  | false => execOps P ops ops.toList s H K
  | true => DrawN P ops s H K

def exec (P : Program) (c : Code) : List AV → List Ent → (Ex → List AV → List Ent → Prop) → Prop :=
  Code.rec (motive := fun _ => List AV → List Ent → (Ex → List AV → List Ent → Prop) → Prop)
    (fun s H K => K .normal s H)
    (fun _ ops draw s H K => regionK P ops draw s H K)
    (fun _ _ ia ib s H K => ia s H (seqK ib K))
    (fun c _ _ ia ib s H K => condK c s (fun s => ia s H K) (fun s => ib s H K))
    (fun id _ ib s H K => ib s H (blockK id K))
    (fun _ ib s H K => LoopN ib s H K)
    (fun _ _ _ _ _ _ _ _ _ => False)
    (fun id s H K => K (.exit id) s H)
    (fun _ _ _ _ _ => False)
    (fun _ s H K => K .normal s H)
    (fun _ _ _ _ => False)
    (fun s H K => K .ret s H)
    (fun _ _ _ _ => False)
    c

/-! ### A function -/
def initK (n : Nat) (args : List AV) (K : List AV → Prop) : Prop :=
  match n, args with
  | 0, _ => K []
  | n + 1, [] => initK n [] fun s => K (.c .any :: s)
  | n + 1, x :: xs => initK n xs fun s => K (x :: s)
def resOne (P : Program) (r : ResultVar) (s : List AV) (H : List Ent) (K : AV → Prop) : Prop :=
  match r with
  | .tmp t => forceA (nth s t) K
  | .cell a T => match nth s a with
    | .c (.lp i off) => loadL P T (nthE H i) off K
    | _ => False
def resAll (P : Program) (s : List AV) (H : List Ent) (rs : List ResultVar) : (List AV → Prop) → Prop :=
  List.rec (motive := fun _ => (List AV → Prop) → Prop)
    (fun K => K [])
    (fun r _ ih K => resOne P r s H fun av => ih fun xs => K (av :: xs)) rs
def plainS : List AV → Option (List Value)
  | [] => some []
  | .c (.v x) :: l => match plainS l with | some xs => some (x :: xs) | none => none
  | _ :: _ => none
def resK (P : Program) (rs : List ResultVar) (s : List AV) (H : List Ent) (K : Out → Prop) : Prop :=
  match rs with
  | [r] => resOne P r s H fun av => K (.val av)
  | rs => resAll P s H rs fun l => match plainS l with
    | some xs => K (.val (.c (.v (.tuple xs.toArray))))
    | none => K (.vals l)
def endK (P : Program) (rs : List ResultVar) (K : Out → List Ent → Prop) (e : Ex) (s : List AV) (H : List Ent) : Prop :=
  match e with
  | .normal => resK P rs s H fun out => K out H
  | .ret => resK P rs s H fun out => K out H
  | .exit _ => False
  | .pan c => K (.pan c) H
end Go.AX
