/-
  AX, eighth text: the executor over code.
-/
import Derived.Test.YtnecdpkmmncfaaaAx7
import Derived.Deep.Quiet
import Derived.StillTail
namespace Go.AX

/-- Function f of the program can be entered. -/
def CallOk (P : Program) (f : FuncId) : Prop := ∃ fn, P.funcs[f]? = some fn ∧ (fn.name == "runtime.NumGoroutine") = false ∧ fn.body.isSome = true

def OutOk (ρ : List Loc) : Out → Ending → Prop
  | .val av, e => ∃ v, e = .returned v ∧ av.rel ρ v
  | .pan chain, e => e = .panicked chain

/-- What a call does, said of abstract states. -/
structure SpecH (P : Program) (f : FuncId) (args : List AV) (H : List Ent) (K : Out → List Ent → Prop) : Prop where
  ok : CallOk P f
  run : ∀ (ρ : List Loc) (S : Nat → Prop) (w : World) (vs : List Value), Sat ρ S H w → RelS ρ args vs → Calls P f vs.toArray w fun e w' =>
    ∃ ρ' S' H' out, Sat ρ' S' H' w' ∧ Ev ρ S H w ρ' S' H' w' ∧ OutOk ρ' out e ∧ K out H'

theorem SpecH.mono {P : Program} {f : FuncId} {args : List AV} {H : List Ent} {K K' : Out → List Ent → Prop} (h : SpecH P f args H K) (hk : ∀ out H', K out H' → K' out H') : SpecH P f args H K' :=
  ⟨h.ok, fun ρ S w vs hs hr => (h.run ρ S w vs hs hr).mono fun _ _ ⟨ρ', S', H', out, a, b, c, d⟩ => ⟨ρ', S', H', out, a, b, c, hk _ _ d⟩⟩

/-- A call inside a region that draws its order: one value, whatever the world. -/
inductive QCall (P : Program) (f : FuncId) (args : List AV) (H : List Ent) (K : AV → Prop) : Prop where
  | intro (x : Value) (spec : SpecH P f args H fun out H' => out = .val (.c (.v x)) ∧ H' = H) (next : forceV x fun x => K (.c (.v x)))

/-! ### Weakening -/
def wkC : CV → CV → Prop
  | _, .any => True
  | c, d => c = d
def wkCs : List CV → List CV → Prop
  | [], [] => True
  | c :: cs, d :: ds => wkC c d ∧ wkCs cs ds
  | _, _ => False
def wkS : List AV → List AV → Prop
  | [], [] => True
  | a :: s, b :: t => match b with
    | .c .any => wkS s t
    | .c (.v x) => a = .c (.v x) ∧ wkS s t
    | .c (.lp i o) => a = .c (.lp i o) ∧ wkS s t
    | .c (.sl i n) => a = .c (.sl i n) ∧ wkS s t
    | .agg cs => a = .agg cs ∧ wkS s t
  | _, _ => False
def wkE : Ent → Ent → Prop
  | _, .dead => True
  | .blk T cs, .blk U ds => T = U ∧ wkCs cs ds
  | .row T a n cs, .row U b m ds => T = U ∧ a = b ∧ n = m ∧ cs = ds
  | .fact F, .fact G => ∀ w, F w → G w
  | _, _ => False
def wkH : List Ent → List Ent → Prop
  | _, [] => True
  | e :: H, f :: G => wkE e f ∧ wkH H G
  | [], _ :: _ => False
/-- Nothing points behind the first n entries. -/
def okC (n : Nat) : CV → Prop
  | .lp i _ | .sl i _ => i < n
  | _ => True
def okCs (n : Nat) : List CV → Prop
  | [] => True
  | c :: cs => okC n c ∧ okCs n cs
def okCsB (n : Nat) : List CV → Bool
  | [] => true
  | .lp i _ :: cs => match Nat.blt i n with | true => okCsB n cs | false => false
  | .sl i _ :: cs => match Nat.blt i n with | true => okCsB n cs | false => false
  | _ :: cs => okCsB n cs
def okSB (n : Nat) : List AV → Bool
  | [] => true
  | .c (.lp i _) :: s => match Nat.blt i n with | true => okSB n s | false => false
  | .c (.sl i _) :: s => match Nat.blt i n with | true => okSB n s | false => false
  | .agg cs :: s => match okCsB n cs with | true => okSB n s | false => false
  | _ :: s => okSB n s
def okE (n : Nat) : Ent → Prop
  | .blk _ cs | .row _ _ _ cs => okCs n cs
  | _ => True
def okH (n : Nat) : List Ent → Prop
  | [] => True
  | e :: H => okE n e ∧ okH n H

def forceS : List AV → (List AV → Prop) → Prop
  | [], K => K []
  | a :: s, K => forceA a fun a => forceS s fun s => K (a :: s)
def forceH : List Ent → (List Ent → Prop) → Prop
  | [], K => K []
  | e :: H, K => forceH H fun H => K (e :: H)
/-- Slots by a short list of those that are known. -/
def mkS : Nat → Nat → List (Nat × AV) → List AV
  | 0, _, _ => []
  | n + 1, k, l => look k l :: mkS n (k + 1) l
  where
  look (k : Nat) : List (Nat × AV) → AV
    | [] => .c .any
    | (j, a) :: l => match Nat.beq j k with | true => a | false => look k l

/-- A loop that is over after at most n rounds, round by round. -/
def LoopU (E : List AV → List Ent → (Ex → List AV → List Ent → Prop) → Prop) (K : Ex → List AV → List Ent → Prop) (n : Nat) : List AV → List Ent → Prop :=
  Nat.rec (motive := fun _ => List AV → List Ent → Prop) (fun _ _ => False)
    (fun _ ih s H => E s H fun e s' H' => match e with
      | .normal => ih s' H'
      | .exit n => K (.exit n) s' H'
      | .ret => K .ret s' H'
      | .pan c => K (.pan c) s' H') n

/-- A loop: a family of states, a measure. -/
inductive LoopN (E : List AV → List Ent → (Ex → List AV → List Ent → Prop) → Prop) (s : List AV) (H : List Ent) (K : Ex → List AV → List Ent → Prop) : Prop where
  | intro (ι : Type) (inv : ι → Prop) (sl : ι → List AV) (hp : ι → List Ent) (μ : ι → Nat)
      (len : ∀ i, (hp i).length = H.length) (oks : ∀ i, okSB H.length (sl i) = true) (okh : ∀ i, inv i → okH H.length (hp i))
      (start : ∃ i, inv i ∧ wkS s (sl i) ∧ wkH H (hp i))
      (round : ∀ i, inv i → forceS (sl i) fun s => forceH (hp i) fun H => E s H fun e s' H' => match e with
        | .normal => ∃ j, inv j ∧ μ j < μ i ∧ wkS s' (sl j) ∧ wkH H' (hp j)
        | .exit n => K (.exit n) s' H'
        | .ret => K .ret s' H'
        | .pan c => K (.pan c) s' H')
  | unroll (n : Nat) (rounds : LoopU E K n s H)

/-! ### One operation -/
def kind (o : Op) : Nat :=
  match o with
  | .alloc _ | .box _ _ | .store _ _ _ | .buildSlice _ _ _ => 1
  | .call { callee := .builtin .append, .. } => 1
  | .call { callee := .value _, .. } => 2
  | _ => 0

/-- Plain arguments ahead of, and behind, a call's own: those that a function value holds. -/
def pvs : List Value → List AV
  | [] => []
  | x :: xs => .c (.v x) :: pvs xs
def callK (s : List AV) (o : Op) (K : FuncId → List AV → Prop) : Prop :=
  match o with
  | .call { callee := .value f, args, .. } => match opv s f with
    | .c (.v (.func (.func g) first cap)) => K g (pvs first.toList ++ opvs s args.toList ++ pvs cap.toList)
    | _ => False
  | _ => False

def stepK (P : Program) (o : Oper) (s : List AV) (H : List Ent) (K : Out → List Ent → Prop) : Prop :=
  match kind o.op with
  | 0 => readK P o s H fun av => K (.val av) H
  | 1 => effK P o s H fun av H' => K (.val av) H'
  | _ => callK s o.op fun f args => SpecH P f args H K

def wantK (ops : Array Oper) (o : Oper) (s : List AV) (A B : List AV → Prop) : Prop :=
  match o.guard with
  | none => A s
  | some (j, want) =>
    match (ops[j]?).bind (·.dst) with
    | none => False
    | some d => match nth s d with
      | .c (.v (.bool b)) => brd b (setK s d (.c (.v (.bool true))) (bif want then A else B)) (setK s d (.c (.v (.bool false))) (bif want then B else A))
      | .c (.v (.tuple _)) => B s
      | _ => False

/-- Recursors are named here, so that Lean and its kernel unfold the executor in one way. -/
def execOps (P : Program) (ops : Array Oper) (l : List Oper) : List AV → List Ent → (Ex → List AV → List Ent → Prop) → Prop :=
  List.rec (motive := fun _ => List AV → List Ent → (Ex → List AV → List Ent → Prop) → Prop)
    (fun s H K => K .normal s H)
    (fun o _ ih s H K => wantK ops o s (fun s => stepK P o s H fun out H' => match out with
        | .val av => putK s o.dst av fun s' => ih s' H' K
        | .pan c => K (.pan c) s H')
      (fun s => putK s o.dst (.c (.v undef)) fun s' => ih s' H K)) l
theorem execOps_cons (P : Program) (ops : Array Oper) (o : Oper) (rest : List Oper) (s : List AV) (H : List Ent) (K : Ex → List AV → List Ent → Prop) :
    execOps P ops (o :: rest) s H K = wantK ops o s (fun s => stepK P o s H fun out H' => match out with
        | .val av => putK s o.dst av fun s' => execOps P ops rest s' H' K
        | .pan c => K (.pan c) s H')
      (fun s => putK s o.dst (.c (.v undef)) fun s' => execOps P ops rest s' H K) := rfl

/-! ### A region that draws its order -/
def detCs : List CV → Bool
  | [] => true
  | .any :: _ => false
  | _ :: cs => detCs cs
def detA : AV → Bool
  | .c .any => false
  | .c _ => true
  | .agg cs => detCs cs
def stepQ (P : Program) (o : Oper) (s : List AV) (H : List Ent) (K : AV → Prop) : Prop :=
  match kind o.op with
  | 0 => readK P o s H fun av => match detA av with | true => K av | false => False
  | 2 => callK s o.op fun f args => QCall P f args H K
  | _ => False
def execQ (P : Program) (ops : Array Oper) (l : List Oper) : List AV → List Ent → (List AV → Prop) → Prop :=
  List.rec (motive := fun _ => List AV → List Ent → (List AV → Prop) → Prop)
    (fun s _ K => K s)
    (fun o _ ih s H K => wantK ops o s (fun s => stepQ P o s H fun av => putK s o.dst av fun s' => ih s' H K)
      (fun s => putK s o.dst (.c (.v undef)) fun s' => ih s' H K)) l
theorem execQ_cons (P : Program) (ops : Array Oper) (o : Oper) (rest : List Oper) (s : List AV) (H : List Ent) (K : List AV → Prop) :
    execQ P ops (o :: rest) s H K = wantK ops o s (fun s => stepQ P o s H fun av => putK s o.dst av fun s' => execQ P ops rest s' H K)
      (fun s => putK s o.dst (.c (.v undef)) fun s' => execQ P ops rest s' H K) := rfl
/-- The place of the first operation that makes or writes memory. -/
def effAt : List Oper → Nat → Option Nat
  | [], _ => none
  | o :: l, n => match o.op with
    | .alloc _ | .box _ _ | .store _ _ _ | .buildSlice _ _ _ | .call { callee := .builtin .append, .. } => some n
    | _ => effAt l (n + 1)

def condK (c : Operand) (s : List AV) (A B : List AV → Prop) : Prop :=
  match c with
  | .tmp t => match nth s t with
    | .c (.v (.bool b)) => brd b (setK s t (.c (.v (.bool true))) A) (setK s t (.c (.v (.bool false))) B)
    | _ => False
  | .const (.bool b) => brd b (A s) (B s)
  | _ => False

def seqK (E : List AV → List Ent → (Ex → List AV → List Ent → Prop) → Prop) (K : Ex → List AV → List Ent → Prop) (e : Ex) (s : List AV) (H : List Ent) : Prop :=
  match e with
  | .normal => E s H K
  | .exit n => K (.exit n) s H
  | .ret => K .ret s H
  | .pan c => K (.pan c) s H
def blockK (id : Nat) (K : Ex → List AV → List Ent → Prop) (e : Ex) (s : List AV) (H : List Ent) : Prop :=
  match e with
  | .normal => K .normal s H
  | .exit n => bif Nat.beq n id then K .normal s H else K (.exit n) s H
  | .ret => K .ret s H
  | .pan c => K (.pan c) s H
def regionK (P : Program) (ops : Array Oper) (draw : Bool) (s : List AV) (H : List Ent) (K : Ex → List AV → List Ent → Prop) : Prop :=
  match draw with
  | false => execOps P ops ops.toList s H K
  | true => match effAt ops.toList 0 with
    | none => Nd (Region.lexB .any ops = true) (execQ P ops ops.toList s H fun s' => K .normal s' H)
    | some n => Nd (Region.lexTailB .any ops n = true) (execQ P ops (ops.toList.take n) s H fun s' => execOps P ops (ops.toList.drop n) s' H K)

def exec (P : Program) (c : Code) : List AV → List Ent → (Ex → List AV → List Ent → Prop) → Prop :=
  Code.rec (motive := fun _ => List AV → List Ent → (Ex → List AV → List Ent → Prop) → Prop)
    (fun s H K => K .normal s H)
    (fun _ ops draw s H K => regionK P ops draw s H K)
    (fun _ _ ia ib s H K => ia s H (seqK ib K))
    (fun c _ _ ia ib s H K => condK c s (fun s => ia s H K) (fun s => ib s H K))
    (fun id _ ib s H K => ib s H (blockK id K))
    (fun _ ib s H K => LoopN ib s H K)
    (fun _ _ _ _ _ _ _ _ _ => False)
    (fun id s H K => K (.exit id) s H)
    (fun _ _ _ _ _ => False)
    (fun _ s H K => K .normal s H)
    (fun _ _ _ _ => False)
    (fun s H K => K .ret s H)
    (fun _ _ _ _ => False)
    c

/-! ### A function -/
def initK (n : Nat) (args : List AV) (K : List AV → Prop) : Prop :=
  match n, args with
  | 0, _ => K []
  | n + 1, [] => initK n [] fun s => K (.c .any :: s)
  | n + 1, x :: xs => initK n xs fun s => K (x :: s)
def resOne (P : Program) (r : ResultVar) (s : List AV) (H : List Ent) (K : AV → Prop) : Prop :=
  match r with
  | .tmp t => forceA (nth s t) K
  | .cell a T => match nth s a with
    | .c (.lp i off) => loadL P T (nthE H i) off K
    | _ => False
def resAll (P : Program) (s : List AV) (H : List Ent) (rs : List ResultVar) : (List Value → Prop) → Prop :=
  List.rec (motive := fun _ => (List Value → Prop) → Prop)
    (fun K => K [])
    (fun r _ ih K => resOne P r s H fun av => match av with
      | .c (.v x) => ih fun xs => K (x :: xs)
      | _ => False) rs
def resK (P : Program) (rs : List ResultVar) (s : List AV) (H : List Ent) (K : AV → Prop) : Prop :=
  match rs with
  | [r] => resOne P r s H K
  | rs => resAll P s H rs fun xs => K (.c (.v (.tuple xs.toArray)))
def endK (P : Program) (rs : List ResultVar) (K : Out → List Ent → Prop) (e : Ex) (s : List AV) (H : List Ent) : Prop :=
  match e with
  | .normal => resK P rs s H fun av => K (.val av) H
  | .ret => resK P rs s H fun av => K (.val av) H
  | .exit _ => False
  | .pan c => K (.pan c) H
end Go.AX
