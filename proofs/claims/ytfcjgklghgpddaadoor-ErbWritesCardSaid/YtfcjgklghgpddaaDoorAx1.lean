/-
  AX: an abstract executor over the model's code, computed by unfolding, with a theorem that carries what it shows into the model's own calls.
  This text: the definitions. No program in sight.
-/
import Derived.Calls
import Derived.Laws.Sem
import Derived.Laws.World
import GoSem.Op.Equal
import GoSem.Dispatch
import GoSem.ClaimData
namespace Go.AX

/-- What is known of one cell: nothing; its value; that it points into entry i; that it is a slice of the first len elements of entry i. -/
inductive CV where
  | any
  | v (x : Value)
  | lp (i off : Nat)
  | sl (i len : Nat)

/-- What is known of a value: of one cell; of several. -/
inductive AV where
  | c (x : CV)
  | agg (cs : List CV)

/-- An entry of the abstract memory: a block of the call's own; a row that grows; a fact on memory that nobody writes; a row that nobody writes any more; a slice value (nil, too) whose block is the call's own, and grows; an entry that is gone. -/
inductive Ent where
  | blk (T : TypeId) (cs : List CV)
  | row (T : TypeId) (sz n : Nat) (cs : List CV)
  | fact (F : World → Prop)
  | fz (T : TypeId) (sz n : Nat) (xs : List Value) (b cap : Nat)
  | app (T : TypeId) (sz : Nat) (xs : List Value) (a : Option Addr) (n cap : Nat)
  | mp (b : Nat) (es : Array MapEntry) (clock : Nat)
  | dead

inductive Ex where
  | normal
  | exit (n : Nat)
  | ret
  | pan (chain : List PanicEntry)

inductive Out where
  | val (v : AV)
  | vals (l : List AV)
  | pan (chain : List PanicEntry)

/-- A way taken by a Bool that may not be known. -/
def brd (b : Bool) (A B : Prop) : Prop := Bool.rec B A b
/-- A condition on the way. -/
structure Nd (A B : Prop) : Prop where
  ok : A
  next : B

/-! ### The pure part of an operation -/
def pureRun (P : Program) {α : Type} : Sem α → Option α
  | .pure a => some a
  | .program k => pureRun P (k P)
  | .mark _ k => pureRun P k
  | _ => none

def forceV (v : Value) (K : Value → Prop) : Prop :=
  match v with
  | .int k n => K (.int k n)
  | .bool b => K (.bool b)
  | .string s => K (.string s)
  | .agg s => K (.agg s)
  | .tuple s => K (.tuple s)
  | .pointer s => K (.pointer s)
  | .slice a b c => K (.slice a b c)
  | .float k b => K (.float k b)
  | .complex k a b => K (.complex k a b)
  | .map r => K (.map r)
  | .chan r => K (.chan r)
  | .func f a b => K (.func f a b)
  | .nilFunc => K .nilFunc
  | .iface t x => K (.iface t x)
  | .nilIface => K .nilIface

def forceN (n : Nat) (K : Nat → Prop) : Prop :=
  match n with
  | 0 => K 0
  | k + 1 => K (k + 1)
def forceC (c : CV) (K : CV → Prop) : Prop :=
  match c with
  | .any => K .any
  | .v x => K (.v x)
  | .lp i o => K (.lp i o)
  | .sl i n => K (.sl i n)
def forceA (a : AV) (K : AV → Prop) : Prop :=
  match a with
  | .c x => forceC x fun x => K (.c x)
  | .agg cs => K (.agg cs)

/-! ### Slots -/
def nth : List AV → Nat → AV
  | [], _ => .c .any
  | x :: _, 0 => x
  | _ :: xs, n + 1 => nth xs n
def setK (s : List AV) (i : Nat) (v : AV) (K : List AV → Prop) : Prop :=
  match s, i with
  | [], _ => False
  | _ :: xs, 0 => K (v :: xs)
  | x :: xs, i + 1 => setK xs i v (fun ys => K (x :: ys))
def putK (s : List AV) (d : Option Nat) (v : AV) (K : List AV → Prop) : Prop :=
  match d with
  | none => K s
  | some d => setK s d v K
def opv (s : List AV) : Operand → AV
  | .tmp t => nth s t
  | .const v => .c (.v v)
  | .global g => .c (.v (.pointer (some ⟨g, 0, none⟩)))
  | .func f => .c (.v (.func (.func f) #[] #[]))
def plainEv (s : List AV) (x : Operand) : Value := match opv s x with | .c (.v x) => x | _ => undef
def allPlain (s : List AV) : List Operand → Bool
  | [] => true
  | x :: xs => match opv s x with | .c (.v _) => allPlain s xs | _ => false
def opvs (s : List AV) : List Operand → List AV
  | [] => []
  | x :: xs => opv s x :: opvs s xs

/-! ### Entries and cells -/
def nthE : List Ent → Nat → Option Ent
  | [], _ => none
  | x :: _, 0 => some x
  | _ :: xs, n + 1 => nthE xs n
def snocK (H : List Ent) (e : Ent) (n : Nat) (K : List Ent → Nat → Prop) : Prop :=
  match H with
  | [] => K [e] n
  | x :: xs => snocK xs e (n + 1) (fun ys m => K (x :: ys) m)
def setEK (H : List Ent) (i : Nat) (e : Ent) (K : List Ent → Prop) : Prop :=
  match H, i with
  | [], _ => False
  | _ :: xs, 0 => K (e :: xs)
  | x :: xs, i + 1 => setEK xs i e (fun ys => K (x :: ys))
def nthC : List CV → Nat → Option CV
  | [], _ => none
  | x :: _, 0 => some x
  | _ :: xs, n + 1 => nthC xs n
def takeC : Nat → Nat → List CV → Option (List CV)
  | 0, 0, _ => some []
  | 0, n + 1, x :: xs => match takeC 0 n xs with | some l => some (x :: l) | none => none
  | off + 1, n, _ :: xs => takeC off n xs
  | _, _, _ => none
def putC : List CV → Nat → List CV → Option (List CV)
  | cs, 0, [] => some cs
  | _ :: cs, 0, x :: xs => match putC cs 0 xs with | some l => some (x :: l) | none => none
  | c :: cs, i + 1, xs => match putC cs i xs with | some l => some (c :: l) | none => none
  | _, _, _ => none
def plains : List CV → Option (List Value)
  | [] => some []
  | .v x :: cs => match plains cs with | some l => some (x :: l) | none => none
  | _ :: _ => none
def mkAgg (cs : List CV) : AV := match plains cs with | some vs => .c (.v (.agg vs.toArray)) | none => .agg cs
def vs : List Value → List CV
  | [] => []
  | x :: xs => .v x :: vs xs
def cellsV : Value → List CV
  | .agg cs => vs cs.toList
  | x => [.v x]
def avCells : AV → Option (List CV)
  | .c .any => none
  | .c (.v x) => some (cellsV x)
  | .c x => some [x]
  | .agg cs => some cs
def oneV : Value → Bool
  | .agg _ | .tuple _ => false
  | _ => true
def oneC : CV → Bool
  | .any => false
  | .v x => oneV x
  | _ => true
def oneCs : List CV → Bool
  | [] => true
  | c :: cs => match oneC c with | true => oneCs cs | false => false

/-! ### What is known of the memory that nobody writes -/
def RowF (T : TypeId) (sz n : Nat) (xs : List Value) (b cap : Nat) (w : World) : Prop :=
  ∃ arr, w.heap[b]? = some (.cells arr T (0, 0)) ∧ xs.length = n * sz ∧ n ≤ cap ∧ cap ≤ maxLen ∧ arr.size = cap * sz ∧ arr.toList.take (n * sz) = xs
/-- Cells of a slice. -/
def SlAt (a : Option Addr) (k : Nat) (xs : List Value) (w : World) : Prop := xs.length = k ∧ (0 < k → a.isSome = true) ∧ ∀ j, j < k → w.cell? ((a.getD default).add j) = xs[j]?
def Facts : List Ent → World → Prop
  | [], _ => True
  | .fz T sz n xs b cap :: es, w => RowF T sz n xs b cap w ∧ Facts es w
  | .app _ sz xs a n _ :: es, w => SlAt a (n * sz) xs w ∧ Facts es w
  | .fact F :: es, w => F w ∧ Facts es w
  | .mp b es c :: H, w => w.heap[b]? = some (.map es c) ∧ Facts H w
  | _ :: es, w => Facts es w

/-- A load from memory that is not the call's own. -/
inductive LdN (P : Program) (T : TypeId) (a : Addr) (H : List Ent) (K : AV → Prop) : Prop where
  | intro (x : Value) (ok : ∀ w, Facts H w → (loadVar T a).run P w = .ok x w) (next : forceV x fun x => K (.c (.v x)))

/-- A load from a row at a place that may not be a numeral. -/
inductive RdN (cs : List CV) (off n : Nat) (K : List CV → Prop) : Prop where
  | intro (l : List CV) (ok : (cs.drop off).take n = l) (len : l.length = n) (next : K l)

def shapeT (P : Program) (T : TypeId) : Option (Option Nat) :=
  match P.underlying T with
  | some (.struct _) | some (.array _ _) => match P.info? T with | some i => some (some i.size) | none => none
  | some _ => some none
  | none => none
def fieldOff (P : Program) (T : TypeId) (f : Nat) : Option Nat :=
  match P.underlying T with
  | some (.struct fs) => match fs[f]? with
    | some fd => match P.info? fd.type with
      | some i => bif Nat.beq i.size 0 then none else some fd.offset
      | none => none
    | none => none
  | _ => none
def loadL (P : Program) (T : TypeId) (e : Option Ent) (off : Nat) (K : AV → Prop) : Prop :=
  match e with
  | some (.blk _ cs) => match shapeT P T with
    | some none => match nthC cs off with | some c => forceC c fun c => K (.c c) | none => False
    | some (some n) => match takeC off n cs with | some l => forceA (mkAgg l) K | none => False
    | none => False
  | some (.row _ _ _ cs) => match shapeT P T with
    | some none => RdN cs off 1 fun l => match l with | [c] => forceC c fun c => K (.c c) | _ => False
    | some (some n) => RdN cs off n fun l => forceA (mkAgg l) K
    | none => False
  | some (.fz _ _ _ xs _ _) => match shapeT P T with
    | some none => RdN (vs xs) off 1 fun l => match l with | [c] => forceC c fun c => K (.c c) | _ => False
    | some (some n) => RdN (vs xs) off n fun l => forceA (mkAgg l) K
    | none => False
  | _ => False

def byteAt (s : ByteArray) (n : Nat) : Int := ((s.data.toList.getD n 0).toNat : Int)

def nthV : List Value → Nat → Option Value
  | [], _ => none
  | x :: _, 0 => some x
  | _ :: xs, n + 1 => nthV xs n
/-- Equality of two structs whose fields are integers, bools and strings. -/
def eqFs (P : Program) (xs ys : List Value) : List Field → Option Bool
  | [] => some true
  | f :: fs => match P.underlying f.type, nthV xs f.offset, nthV ys f.offset with
    | some (.int _), some (.int j a), some (.int k b) => if j = k then match eqFs P xs ys fs with | some t => some ((a == b) && t) | none => none else none
    | some .bool, some (.bool a), some (.bool b) => match eqFs P xs ys fs with | some t => some ((a == b) && t) | none => none
    | some .string, some (.string a), some (.string b) => match eqFs P xs ys fs with | some t => some ((a.data.toList == b.data.toList) && t) | none => none
    | _, _, _ => none
/-- Three closed facts on a struct's type. -/
def eqOk (P : Program) (T : TypeId) (fs : Array Field) : Bool :=
  !P.eqGuardType P.depth T && !P.stoodInHeld T && fs.toList.all fun f => f.name != "_"
def aggBin (P : Program) (op : BinOp) (T : TypeId) (a b : Array Value) (K : AV → Prop) : Prop :=
  match P.underlying T with
  | some (.struct fs) => match eqFs P a.toList b.toList fs.toList with
    | some t => match op with
      | .eql => Nd (eqOk P T fs = true) (K (.c (.v (.bool t))))
      | .neq => Nd (eqOk P T fs = true) (K (.c (.v (.bool (!t)))))
      | _ => False
    | none => False
  | _ => False

def strBin (op : BinOp) (a b : ByteArray) (K : AV → Prop) : Prop :=
  match op with
  | .add => Nd (a.size + b.size < 9223372036854775808) (K (.c (.v (.string (a ++ b)))))
  | .eql => K (.c (.v (.bool (a.data.toList == b.data.toList))))
  | .neq => K (.c (.v (.bool (!(a.data.toList == b.data.toList)))))
  | .lss => K (.c (.v (.bool (Op.bytesLess a.data.toList b.data.toList))))
  | .leq => K (.c (.v (.bool (Op.bytesLess a.data.toList b.data.toList || a.data.toList == b.data.toList))))
  | .gtr => K (.c (.v (.bool (!(Op.bytesLess a.data.toList b.data.toList || a.data.toList == b.data.toList)))))
  | .geq => K (.c (.v (.bool (!(Op.bytesLess a.data.toList b.data.toList)))))
  | _ => False

/-- Division by a number that is no constant of the text. -/
def divK (op : BinOp) (k : IntKind) (a b : Int) (K : AV → Prop) : Prop :=
  match op with
  | .quo => Nd (b ≠ 0) (K (.c (.v (.int k (k.wrap (a.tdiv b))))))
  | .rem => Nd (b ≠ 0) (K (.c (.v (.int k (a.tmod b)))))
  | _ => False
def isDiv (op : BinOp) (y : Operand) : Bool :=
  match op, y with
  | .quo, .const _ => false
  | .rem, .const _ => false
  | .quo, _ => true
  | .rem, _ => true
  | _, _ => false
def sameKind (j k : IntKind) : Bool :=
  match j, k with
  | .i64, .i64 | .u8, .u8 | .u64, .u64 | .i32, .i32 | .u32, .u32 => true
  | _, _ => false
def genK (P : Program) (o : Oper) (s : List AV) (K : AV → Prop) : Prop :=
  match o.op with
  | .select .. => False
  | _ => match allPlain s o.op.operands.toList with
    | true => match pureRun P (execOp (plainEv s) o) with
      | some (.value v) => forceV v fun v => K (.c (.v v))
      | _ => False
    | false => False

/-- The address of element i of a slice that is not the call's own. -/
def elemAddr (a : Option Addr) (n : Nat) : Addr := (a.getD default).add n

def anys : Nat → List CV
  | 0 => []
  | n + 1 => .any :: anys n
/-- The parts of a literal put into its cells, one behind the other. -/
def fillC (place : Nat → Option (Nat × Nat)) (s : List AV) : List (Nat × Operand) → List CV → Option (List CV)
  | [], cs => some cs
  | (i, x) :: rest, cs => match place i, avCells (opv s x) with
    | some (off, sz), some xs => match Nat.beq xs.length sz, putC cs off xs with
      | true, some cs' => fillC place s rest cs'
      | _, _ => none
    | _, _ => none
def placeF (P : Program) (fs : Array Field) (i : Nat) : Option (Nat × Nat) :=
  match fs[i]? with
  | some f => match P.info? f.type with | some inf => some (f.offset, inf.size) | none => none
  | none => none
/-- The types of a struct's fields are all known. -/
def fieldsOk (P : Program) : List Field → Bool
  | [] => true
  | f :: fs => match P.info? f.type with | some _ => fieldsOk P fs | none => false

def minI (x y : Int) : Int := if y < x then y else x
def maxI (x y : Int) : Int := if y > x then y else x
def lenK (P : Program) (T : TypeId) (x : AV) (K : AV → Prop) : Prop :=
  match P.underlying T with
  | some .string => match x with
    | .c (.v (.string s)) => K (.c (.v (.int .i64 (s.size : Int))))
    | _ => False
  | some (.slice _) => match x with
    | .c (.v (.slice _ n _)) => K (.c (.v (.int .i64 (n : Int))))
    | .c (.sl _ n) => K (.c (.v (.int .i64 (n : Int))))
    | _ => False
  | _ => False
def bltK (P : Program) (b : Builtin) (ts : List TypeId) (xs : List AV) (K : AV → Prop) : Prop :=
  match b with
  | .len => match ts, xs with
    | [T], [x] => lenK P T x K
    | _, _ => False
  | .cap => match ts, xs with
    | [T], [.c (.v (.slice _ _ c))] => match P.underlying T with
      | some (.slice _) => K (.c (.v (.int .i64 (c : Int))))
      | _ => False
    | _, _ => False
  | .min => match xs with
    | [.c (.v (.int j a)), .c (.v (.int k b))] => match sameKind j k with
      | true => K (.c (.v (.int j (minI a b))))
      | false => False
    | _ => False
  | .max => match xs with
    | [.c (.v (.int j a)), .c (.v (.int k b))] => match sameKind j k with
      | true => K (.c (.v (.int j (maxI a b))))
      | false => False
    | _ => False
  | _ => False
/-- A variable gets a number: a place to give it a name. -/
inductive VrN (n : Int) (K : Int → Prop) : Prop where
  | keep (h : K n)
def asgK (s : List AV) (x : Operand) (K : AV → Prop) : Prop :=
  match x with
  | .const v => forceA (.c (.v v)) K
  | x => match opv s x with
    | .c (.v (.int k n)) => VrN n fun m => K (.c (.v (.int k m)))
    | a => forceA a K

/-- What is asked where a slice of n elements gets m more, of so many bytes each. -/
def room (n m bytes : Nat) : Prop := (n + m) * bytes ≤ 140737488355328 ∧ n + m < 9223372036854775808

/-- append of a slice that is not the call's own. -/
inductive ApN (H : List Ent) (a : Addr) (m sz : Nat) (K : List CV → Prop) : Prop where
  | intro (news : List Value) (len : news.length = m * sz) (one : ∀ u ∈ news, oneV u = true)
      (ok : ∀ w, Facts H w → ∀ j v, news[j]? = some v → w.cell? (a.add j) = some v) (next : K (vs news))

def zeroOk (inf : TypeInfo) : Bool := match inf.zero with | some z => Nat.beq z.cells.size inf.size | none => false
/-- append of nothing gives the slice back. -/
def appendZ (H : List Ent) (x : AV) (K : Prop) : Prop :=
  match x with
  | .c (.v (.slice _ n c)) => Nd (n ≤ c) K
  | .c (.sl i n) => match nthE H i with | some (.row _ _ k _) => Nd (n ≤ k) K | _ => False
  | _ => False
/-- append to a slice value: nil, or one that the prover finds among the entries. -/
inductive AppM (H : List Ent) (e : TypeId) (sz bytes : Nat) (a : Option Addr) (n cap m : Nat) (news : List CV) (K : AV → List Ent → Prop) : Prop where
  | new (ys : List Value) (nil : a = none ∧ n = 0 ∧ cap = 0) (hy : plains news = some ys) (hm : 1 ≤ m ∧ room 0 m bytes ∧ sz ≠ 0)
      (next : ∀ b cap' : Nat, m ≤ cap' → cap' ≤ maxLen → snocK H (.app e sz ys (some ⟨b, 0, none⟩) m cap') 0 fun H' _ => K (.c (.v (.slice (some ⟨b, 0, none⟩) m cap'))) H')
  | grow (i : Nat) (xs ys : List Value) (he : nthE H i = some (.app e sz xs a n cap)) (hy : plains news = some ys) (hm : 1 ≤ m ∧ room n m bytes ∧ sz ≠ 0)
      (next : ∀ b cap' : Nat, n + m ≤ cap' → cap' ≤ maxLen → setEK H i (.app e sz (xs ++ ys) (some ⟨b, 0, none⟩) (n + m) cap') fun H' => K (.c (.v (.slice (some ⟨b, 0, none⟩) (n + m) cap'))) H')
  | into (i : Nat) (e0 : Ent) (ys : List Value) (he : nthE H i = some e0) (nil : a = none ∧ n = 0 ∧ cap = 0) (hy : plains news = some ys) (hm : 1 ≤ m ∧ room 0 m bytes ∧ sz ≠ 0)
      (next : ∀ b cap' : Nat, m ≤ cap' → cap' ≤ maxLen → setEK H i (.app e sz ys (some ⟨b, 0, none⟩) m cap') fun H' => K (.c (.v (.slice (some ⟨b, 0, none⟩) m cap'))) H')
/-- append to a slice value whose entry may be longer: what stands behind it is gone. -/
inductive AppN (H : List Ent) (e : TypeId) (sz bytes : Nat) (a : Option Addr) (n cap m : Nat) (news : List CV) (K : AV → List Ent → Prop) : Prop where
  | base (h : AppM H e sz bytes a n cap m news K)
  | cut (i n0 : Nat) (xs0 : List Value) (he : nthE H i = some (.app e sz xs0 a n0 cap)) (hn : n ≤ n0) (next : setEK H i (.app e sz (xs0.take (n * sz)) a n cap) fun H1 => AppM H1 e sz bytes a n cap m news K)
theorem AppN.new {H : List Ent} {e : TypeId} {sz bytes : Nat} {a : Option Addr} {n cap m : Nat} {news : List CV} {K : AV → List Ent → Prop} (ys : List Value) (nil : a = none ∧ n = 0 ∧ cap = 0) (hy : plains news = some ys) (hm : 1 ≤ m ∧ room 0 m bytes ∧ sz ≠ 0)
    (next : ∀ b cap' : Nat, m ≤ cap' → cap' ≤ maxLen → snocK H (.app e sz ys (some ⟨b, 0, none⟩) m cap') 0 fun H' _ => K (.c (.v (.slice (some ⟨b, 0, none⟩) m cap'))) H') : AppN H e sz bytes a n cap m news K := .base (.new ys nil hy hm next)
theorem AppN.grow {H : List Ent} {e : TypeId} {sz bytes : Nat} {a : Option Addr} {n cap m : Nat} {news : List CV} {K : AV → List Ent → Prop} (i : Nat) (xs ys : List Value) (he : nthE H i = some (.app e sz xs a n cap)) (hy : plains news = some ys) (hm : 1 ≤ m ∧ room n m bytes ∧ sz ≠ 0)
    (next : ∀ b cap' : Nat, n + m ≤ cap' → cap' ≤ maxLen → setEK H i (.app e sz (xs ++ ys) (some ⟨b, 0, none⟩) (n + m) cap') fun H' => K (.c (.v (.slice (some ⟨b, 0, none⟩) (n + m) cap'))) H') : AppN H e sz bytes a n cap m news K := .base (.grow i xs ys he hy hm next)
theorem AppN.into {H : List Ent} {e : TypeId} {sz bytes : Nat} {a : Option Addr} {n cap m : Nat} {news : List CV} {K : AV → List Ent → Prop} (i : Nat) (e0 : Ent) (ys : List Value) (he : nthE H i = some e0) (nil : a = none ∧ n = 0 ∧ cap = 0) (hy : plains news = some ys) (hm : 1 ≤ m ∧ room 0 m bytes ∧ sz ≠ 0)
    (next : ∀ b cap' : Nat, m ≤ cap' → cap' ≤ maxLen → setEK H i (.app e sz ys (some ⟨b, 0, none⟩) m cap') fun H' => K (.c (.v (.slice (some ⟨b, 0, none⟩) m cap'))) H') : AppN H e sz bytes a n cap m news K := .base (.into i e0 ys he nil hy hm next)
def appendTo (e : TypeId) (inf : TypeInfo) (H : List Ent) (x : AV) (m : Nat) (news : List CV) (K : AV → List Ent → Prop) : Prop :=
  match x with
  | .c (.v (.slice a n cap)) => AppN H e inf.size inf.bytes a n cap m news K
  | .c (.sl i n) => match nthE H i with
    | some (.row T sz k cs) => match Nat.beq T e with
      | true => Nd (n = k ∧ sz = inf.size ∧ 1 ≤ m ∧ room n m inf.bytes ∧ inf.size ≠ 0)
          (setEK H i .dead fun H1 => snocK H1 (.row e inf.size (n + m) (cs ++ news)) 0 fun H' j => K (.c (.sl j (n + m))) H')
      | false => False
    | _ => False
  | _ => False

def appendK (P : Program) (T : TypeId) (H : List Ent) (x y : AV) (K : AV → List Ent → Prop) : Prop :=
  match P.underlying T with
  | some (.slice e) => match P.info? e with
    | some inf => match zeroOk inf with
     | true => match y with
      | .c (.sl j m) => match nthE H j with
        | some (.row _ sz k cs) => Nd (m ≤ k ∧ sz = inf.size ∧ oneCs (cs.take (m * sz)) = true) (appendTo e inf H x m (cs.take (m * sz)) K)
        | some (.fz _ sz k xs _ _) => Nd (m ≤ k ∧ sz = inf.size ∧ oneCs ((vs xs).take (m * sz)) = true) (appendTo e inf H x m ((vs xs).take (m * sz)) K)
        | _ => False
      | .c (.v (.slice a m _)) => brd (Nat.beq m 0) (appendZ H x (forceA x fun x => K x H)) (Nd (a.isSome = true) (ApN H (a.getD default) m inf.size fun news => appendTo e inf H x m news K))
      | _ => False
     | false => False
    | none => False
  | _ => False

end Go.AX
