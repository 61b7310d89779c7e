/-
  Lemmas (Ax1 Ax2 Ax3 Ax4 Ax5 Ax6 Ax7).
-/
import Derived.Calls
import Derived.Laws.Sem
import Derived.Laws.World
import GoSem.Op.Equal
import GoSem.Dispatch
import GoSem.ClaimData
import Derived.Laws.Rows
import Derived.Laws.CopyRow
import Derived.Laws.Cells
import Derived.Laws.Append
import Derived.Laws.Entries
import Derived.Laws.StructEq
import Derived.Orders
import Derived.Laws.Strings
import Derived.Laws.Strings2
import Derived.Laws.AppendOwn
set_option linter.unusedVariables false
set_option linter.unusedSimpArgs false
namespace Go.AX
inductive CV where
 | any
 | v (x : Value)
 | lp (i off : Nat)
 | sl (i len : Nat)
inductive AV where
 | c (x : CV)
 | agg (cs : List CV)
inductive Ent where
 | blk (T : TypeId) (cs : List CV)
 | row (T : TypeId) (sz n : Nat) (cs : List CV)
 | fact (F : World → Prop)
 | fz (T : TypeId) (sz n : Nat) (xs : List Value) (b cap : Nat)
 | app (T : TypeId) (sz : Nat) (xs : List Value) (a : Option Addr) (n cap : Nat)
 | mp (b : Nat) (es : Array MapEntry) (clock : Nat)
 | fam (B : Nat → Prop) (F : World → Prop)
 | dead
inductive Ex where
 | normal
 | exit (n : Nat)
 | ret
 | pan (chain : List PanicEntry)
inductive Out where
 | val (v : AV)
 | vals (l : List AV)
 | pan (chain : List PanicEntry)
def brd (b : Bool) (A B : Prop) : Prop := Bool.rec B A b
structure Nd (A B : Prop) : Prop where
 ok : A
 next : B
def pureRun (P : Program) {α : Type} : Sem α → Option α
 | .pure a => some a
 | .program k => pureRun P (k P)
 | .mark _ k => pureRun P k
 | _ => none
def forceV (v : Value) (K : Value → Prop) : Prop :=
 match v with
 | .int k n => K (.int k n)
 | .bool b => K (.bool b)
 | .string s => K (.string s)
 | .agg s => K (.agg s)
 | .tuple s => K (.tuple s)
 | .pointer s => K (.pointer s)
 | .slice a b c => K (.slice a b c)
 | .float k b => K (.float k b)
 | .complex k a b => K (.complex k a b)
 | .map r => K (.map r)
 | .chan r => K (.chan r)
 | .func f a b => K (.func f a b)
 | .nilFunc => K .nilFunc
 | .iface t x => K (.iface t x)
 | .nilIface => K .nilIface
def forceN (n : Nat) (K : Nat → Prop) : Prop :=
 match n with
 | 0 => K 0
 | k + 1 => K (k + 1)
def forceC (c : CV) (K : CV → Prop) : Prop :=
 match c with
 | .any => K .any
 | .v x => K (.v x)
 | .lp i o => K (.lp i o)
 | .sl i n => K (.sl i n)
def forceA (a : AV) (K : AV → Prop) : Prop :=
 match a with
 | .c x => forceC x fun x => K (.c x)
 | .agg cs => K (.agg cs)
def nth : List AV → Nat → AV
 | [], _ => .c .any
 | x :: _, 0 => x
 | _ :: xs, n + 1 => nth xs n
def setK (s : List AV) (i : Nat) (v : AV) (K : List AV → Prop) : Prop :=
 match s, i with
 | [], _ => False
 | _ :: xs, 0 => K (v :: xs)
 | x :: xs, i + 1 => setK xs i v (fun ys => K (x :: ys))
def putK (s : List AV) (d : Option Nat) (v : AV) (K : List AV → Prop) : Prop :=
 match d with
 | none => K s
 | some d => setK s d v K
def opv (s : List AV) : Operand → AV
 | .tmp t => nth s t
 | .const v => .c (.v v)
 | .global g => .c (.v (.pointer (some ⟨g, 0, none⟩)))
 | .func f => .c (.v (.func (.func f) #[] #[]))
def plainEv (s : List AV) (x : Operand) : Value := match opv s x with | .c (.v x) => x | _ => undef
def allPlain (s : List AV) : List Operand → Bool
 | [] => true
 | x :: xs => match opv s x with | .c (.v _) => allPlain s xs | _ => false
def opvs (s : List AV) : List Operand → List AV
 | [] => []
 | x :: xs => opv s x :: opvs s xs
def nthE : List Ent → Nat → Option Ent
 | [], _ => none
 | x :: _, 0 => some x
 | _ :: xs, n + 1 => nthE xs n
def snocK (H : List Ent) (e : Ent) (n : Nat) (K : List Ent → Nat → Prop) : Prop :=
 match H with
 | [] => K [e] n
 | x :: xs => snocK xs e (n + 1) (fun ys m => K (x :: ys) m)
def setEK (H : List Ent) (i : Nat) (e : Ent) (K : List Ent → Prop) : Prop :=
 match H, i with
 | [], _ => False
 | _ :: xs, 0 => K (e :: xs)
 | x :: xs, i + 1 => setEK xs i e (fun ys => K (x :: ys))
def nthC : List CV → Nat → Option CV
 | [], _ => none
 | x :: _, 0 => some x
 | _ :: xs, n + 1 => nthC xs n
def takeC : Nat → Nat → List CV → Option (List CV)
 | 0, 0, _ => some []
 | 0, n + 1, x :: xs => match takeC 0 n xs with | some l => some (x :: l) | none => none
 | off + 1, n, _ :: xs => takeC off n xs
 | _, _, _ => none
def putC : List CV → Nat → List CV → Option (List CV)
 | cs, 0, [] => some cs
 | _ :: cs, 0, x :: xs => match putC cs 0 xs with | some l => some (x :: l) | none => none
 | c :: cs, i + 1, xs => match putC cs i xs with | some l => some (c :: l) | none => none
 | _, _, _ => none
def plains : List CV → Option (List Value)
 | [] => some []
 | .v x :: cs => match plains cs with | some l => some (x :: l) | none => none
 | _ :: _ => none
def mkAgg (cs : List CV) : AV := match plains cs with | some vs => .c (.v (.agg vs.toArray)) | none => .agg cs
inductive BoxN (T : TypeId) (cs : List CV) (H : List Ent) (K : AV → List Ent → Prop) : Prop where
 | own (h : snocK H (.blk T cs) 0 fun H' n => K (.c (.lp n 0)) H')
 | known (xs : List Value) (hx : plains cs = some xs) (h : ∀ b : Nat, snocK H (.app T xs.length xs (some ⟨b, 0, none⟩) 1 1) 0 fun H' _ => K (.c (.v (.pointer (some ⟨b, 0, none⟩)))) H')
inductive RwN (e : TypeId) (sz n : Nat) (cs : List CV) (H : List Ent) (K : AV → List Ent → Prop) : Prop where
 | own (h : snocK H (.row e sz n cs) 0 fun H' j => K (.c (.sl j n)) H')
 | known (xs : List Value) (hx : plains cs = some xs) (h : ∀ b : Nat, snocK H (.app e sz xs (some ⟨b, 0, none⟩) n n) 0 fun H' _ => K (.c (.v (.slice (some ⟨b, 0, none⟩) n n))) H')
def vs : List Value → List CV
 | [] => []
 | x :: xs => .v x :: vs xs
def cellsV : Value → List CV
 | .agg cs => vs cs.toList
 | x => [.v x]
def avCells : AV → Option (List CV)
 | .c .any => none
 | .c (.v x) => some (cellsV x)
 | .c x => some [x]
 | .agg cs => some cs
def oneV : Value → Bool
 | .agg _ | .tuple _ => false
 | _ => true
def oneC : CV → Bool
 | .any => false
 | .v x => oneV x
 | _ => true
def oneCs : List CV → Bool
 | [] => true
 | c :: cs => match oneC c with | true => oneCs cs | false => false
def NoFr (fr : Nat × Nat) (n : Nat) : Prop := fr = (0, 0) ∨ n ≤ fr.1
def RowF (T : TypeId) (sz n : Nat) (xs : List Value) (b cap : Nat) (w : World) : Prop :=
 ∃ arr fr, (w.heap[b]? = some (.cells arr T fr) ∧ NoFr fr arr.size) ∧ xs.length = n * sz ∧ n ≤ cap ∧ cap ≤ maxLen ∧ arr.size = cap * sz ∧ arr.toList.take (n * sz) = xs
def SlAt (a : Option Addr) (k : Nat) (xs : List Value) (w : World) : Prop := xs.length = k ∧ (0 < k → a.isSome = true) ∧ ∀ j, j < k → w.cell? ((a.getD default).add j) = xs[j]?
def Facts : List Ent → World → Prop
 | [], _ => True
 | .fz T sz n xs b cap :: es, w => RowF T sz n xs b cap w ∧ Facts es w
 | .app _ sz xs a n _ :: es, w => SlAt a (n * sz) xs w ∧ Facts es w
 | .fact F :: es, w => F w ∧ Facts es w
 | .mp b es c :: H, w => w.heap[b]? = some (.map es c) ∧ Facts H w
 | .fam _ F :: H, w => F w ∧ Facts H w
 | _ :: es, w => Facts es w
inductive LdN (P : Program) (T : TypeId) (a : Addr) (H : List Ent) (K : AV → Prop) : Prop where
 | intro (x : Value) (ok : ∀ w, Facts H w → (loadVar T a).run P w = .ok x w) (next : forceV x fun x => K (.c (.v x)))
inductive RdN (cs : List CV) (off n : Nat) (K : List CV → Prop) : Prop where
 | intro (l : List CV) (ok : (cs.drop off).take n = l) (len : l.length = n) (next : K l)
def shapeT (P : Program) (T : TypeId) : Option (Option Nat) :=
 match P.underlying T with
 | some (.struct _) | some (.array _ _) => match P.info? T with | some i => some (some i.size) | none => none
 | some _ => some none
 | none => none
def fieldOff (P : Program) (T : TypeId) (f : Nat) : Option Nat :=
 match P.underlying T with
 | some (.struct fs) => match fs[f]? with
  | some fd => match P.info? fd.type with
   | some i => bif Nat.beq i.size 0 then none else some fd.offset
   | none => none
  | none => none
 | _ => none
def loadL (P : Program) (T : TypeId) (e : Option Ent) (off : Nat) (K : AV → Prop) : Prop :=
 match e with
 | some (.blk _ cs) => match shapeT P T with
  | some none => match nthC cs off with | some c => forceC c fun c => K (.c c) | none => False
  | some (some n) => match takeC off n cs with | some l => forceA (mkAgg l) K | none => False
  | none => False
 | some (.row _ _ _ cs) => match shapeT P T with
  | some none => RdN cs off 1 fun l => match l with | [c] => forceC c fun c => K (.c c) | _ => False
  | some (some n) => RdN cs off n fun l => forceA (mkAgg l) K
  | none => False
 | some (.fz _ _ _ xs _ _) => match shapeT P T with
  | some none => RdN (vs xs) off 1 fun l => match l with | [c] => forceC c fun c => K (.c c) | _ => False
  | some (some n) => RdN (vs xs) off n fun l => forceA (mkAgg l) K
  | none => False
 | _ => False
def byteAt (s : ByteArray) (n : Nat) : Int := ((s.data.toList.getD n 0).toNat : Int)
def nthV : List Value → Nat → Option Value
 | [], _ => none
 | x :: _, 0 => some x
 | _ :: xs, n + 1 => nthV xs n
def eqFs (P : Program) (xs ys : List Value) : List Field → Option Bool
 | [] => some true
 | f :: fs => match P.underlying f.type, nthV xs f.offset, nthV ys f.offset with
  | some (.int _), some (.int j a), some (.int k b) => if j = k then match eqFs P xs ys fs with | some t => some ((a == b) && t) | none => none else none
  | some .bool, some (.bool a), some (.bool b) => match eqFs P xs ys fs with | some t => some ((a == b) && t) | none => none
  | some .string, some (.string a), some (.string b) => match eqFs P xs ys fs with | some t => some ((a.data.toList == b.data.toList) && t) | none => none
  | _, _, _ => none
def eqOk (P : Program) (T : TypeId) (fs : Array Field) : Bool :=
 !P.eqGuardType P.depth T && !P.stoodInHeld T && fs.toList.all fun f => f.name != "_"
def aggBin (P : Program) (op : BinOp) (T : TypeId) (a b : Array Value) (K : AV → Prop) : Prop :=
 match P.underlying T with
 | some (.struct fs) => match eqFs P a.toList b.toList fs.toList with
  | some t => match op with
   | .eql => Nd (eqOk P T fs = true) (K (.c (.v (.bool t))))
   | .neq => Nd (eqOk P T fs = true) (K (.c (.v (.bool (!t)))))
   | _ => False
  | none => False
 | _ => False
def strBin (op : BinOp) (a b : ByteArray) (K : AV → Prop) : Prop :=
 match op with
 | .add => Nd (a.size + b.size < 9223372036854775808) (K (.c (.v (.string (a ++ b)))))
 | .eql => K (.c (.v (.bool (a.data.toList == b.data.toList))))
 | .neq => K (.c (.v (.bool (!(a.data.toList == b.data.toList)))))
 | .lss => K (.c (.v (.bool (Op.bytesLess a.data.toList b.data.toList))))
 | .leq => K (.c (.v (.bool (Op.bytesLess a.data.toList b.data.toList || a.data.toList == b.data.toList))))
 | .gtr => K (.c (.v (.bool (!(Op.bytesLess a.data.toList b.data.toList || a.data.toList == b.data.toList)))))
 | .geq => K (.c (.v (.bool (!(Op.bytesLess a.data.toList b.data.toList)))))
 | _ => False
def divK (op : BinOp) (k : IntKind) (a b : Int) (K : AV → Prop) : Prop :=
 match op with
 | .quo => Nd (b ≠ 0) (K (.c (.v (.int k (k.wrap (a.tdiv b))))))
 | .rem => Nd (b ≠ 0) (K (.c (.v (.int k (a.tmod b)))))
 | _ => False
def isDiv (op : BinOp) (y : Operand) : Bool :=
 match op, y with
 | .quo, .const _ => false
 | .rem, .const _ => false
 | .quo, _ => true
 | .rem, _ => true
 | _, _ => false
def sameKind (j k : IntKind) : Bool :=
 match j, k with
 | .i64, .i64 | .u8, .u8 | .u64, .u64 | .i32, .i32 | .u32, .u32 => true
 | _, _ => false
def genK (P : Program) (o : Oper) (s : List AV) (K : AV → Prop) : Prop :=
 match o.op with
 | .select .. => False
 | _ => match allPlain s o.op.operands.toList with
  | true => match pureRun P (execOp (plainEv s) o) with
   | some (.value v) => forceV v fun v => K (.c (.v v))
   | _ => False
  | false => False
def elemAddr (a : Option Addr) (n : Nat) : Addr := (a.getD default).add n
def anys : Nat → List CV
 | 0 => []
 | n + 1 => .any :: anys n
def fillC (place : Nat → Option (Nat × Nat)) (s : List AV) : List (Nat × Operand) → List CV → Option (List CV)
 | [], cs => some cs
 | (i, x) :: rest, cs => match place i, avCells (opv s x) with
  | some (off, sz), some xs => match Nat.beq xs.length sz, putC cs off xs with
   | true, some cs' => fillC place s rest cs'
   | _, _ => none
  | _, _ => none
def placeF (P : Program) (fs : Array Field) (i : Nat) : Option (Nat × Nat) :=
 match fs[i]? with
 | some f => match P.info? f.type with | some inf => some (f.offset, inf.size) | none => none
 | none => none
def fieldsOk (P : Program) : List Field → Bool
 | [] => true
 | f :: fs => match P.info? f.type with | some _ => fieldsOk P fs | none => false
def minI (x y : Int) : Int := if y < x then y else x
def maxI (x y : Int) : Int := if y > x then y else x
def lenK (P : Program) (T : TypeId) (x : AV) (K : AV → Prop) : Prop :=
 match P.underlying T with
 | some .string => match x with
  | .c (.v (.string s)) => K (.c (.v (.int .i64 (s.size : Int))))
  | _ => False
 | some (.slice _) => match x with
  | .c (.v (.slice _ n _)) => K (.c (.v (.int .i64 (n : Int))))
  | .c (.sl _ n) => K (.c (.v (.int .i64 (n : Int))))
  | _ => False
 | _ => False
def bltK (P : Program) (b : Builtin) (ts : List TypeId) (xs : List AV) (K : AV → Prop) : Prop :=
 match b with
 | .len => match ts, xs with
  | [T], [x] => lenK P T x K
  | _, _ => False
 | .cap => match ts, xs with
  | [T], [.c (.v (.slice _ _ c))] => match P.underlying T with
   | some (.slice _) => K (.c (.v (.int .i64 (c : Int))))
   | _ => False
  | _, _ => False
 | .min => match xs with
  | [.c (.v (.int j a)), .c (.v (.int k b))] => match sameKind j k with
   | true => K (.c (.v (.int j (minI a b))))
   | false => False
  | _ => False
 | .max => match xs with
  | [.c (.v (.int j a)), .c (.v (.int k b))] => match sameKind j k with
   | true => K (.c (.v (.int j (maxI a b))))
   | false => False
  | _ => False
 | _ => False
inductive VrN (n : Int) (K : Int → Prop) : Prop where
 | keep (h : K n)
def asgK (s : List AV) (x : Operand) (K : AV → Prop) : Prop :=
 match x with
 | .const v => forceA (.c (.v v)) K
 | x => match opv s x with
  | .c (.v (.int k n)) => VrN n fun m => K (.c (.v (.int k m)))
  | a => forceA a K
def room (n m bytes : Nat) : Prop := (n + m) * bytes ≤ 140737488355328 ∧ n + m < 9223372036854775808
inductive ApN (H : List Ent) (a : Addr) (m sz : Nat) (K : List CV → Prop) : Prop where
 | intro (news : List Value) (len : news.length = m * sz) (one : ∀ u ∈ news, oneV u = true)
   (ok : ∀ w, Facts H w → ∀ j v, news[j]? = some v → w.cell? (a.add j) = some v) (next : K (vs news))
def zeroOk (inf : TypeInfo) : Bool := match inf.zero with | some z => Nat.beq z.cells.size inf.size | none => false
def appendZ (H : List Ent) (x : AV) (K : Prop) : Prop :=
 match x with
 | .c (.v (.slice _ n c)) => Nd (n ≤ c) K
 | .c (.sl i n) => match nthE H i with | some (.row _ _ k _) => Nd (n ≤ k) K | _ => False
 | _ => False
inductive AppM (H : List Ent) (e : TypeId) (sz bytes : Nat) (a : Option Addr) (n cap m : Nat) (news : List CV) (K : AV → List Ent → Prop) : Prop where
 | new (ys : List Value) (nil : a = none ∧ n = 0 ∧ cap = 0) (hy : plains news = some ys) (hm : 1 ≤ m ∧ room 0 m bytes ∧ sz ≠ 0)
   (next : ∀ b cap' : Nat, m ≤ cap' → cap' ≤ maxLen → snocK H (.app e sz ys (some ⟨b, 0, none⟩) m cap') 0 fun H' _ => K (.c (.v (.slice (some ⟨b, 0, none⟩) m cap'))) H')
 | grow (i : Nat) (xs ys : List Value) (he : nthE H i = some (.app e sz xs a n cap)) (hy : plains news = some ys) (hm : 1 ≤ m ∧ room n m bytes ∧ sz ≠ 0)
   (next : ∀ b cap' : Nat, n + m ≤ cap' → cap' ≤ maxLen → setEK H i (.app e sz (xs ++ ys) (some ⟨b, 0, none⟩) (n + m) cap') fun H' => K (.c (.v (.slice (some ⟨b, 0, none⟩) (n + m) cap'))) H')
 | into (i : Nat) (e0 : Ent) (ys : List Value) (he : nthE H i = some e0) (nil : a = none ∧ n = 0 ∧ cap = 0) (hy : plains news = some ys) (hm : 1 ≤ m ∧ room 0 m bytes ∧ sz ≠ 0)
   (next : ∀ b cap' : Nat, m ≤ cap' → cap' ≤ maxLen → setEK H i (.app e sz ys (some ⟨b, 0, none⟩) m cap') fun H' => K (.c (.v (.slice (some ⟨b, 0, none⟩) m cap'))) H')
 | big (i : Nat) (xs ys : List Value) (he : nthE H i = some (.app e sz xs a n cap)) (hy : plains news = some ys) (hm : 1 ≤ m ∧ bytes = 1 ∧ n + m ≤ 140737489403904)
   (next : ∀ b cap' : Nat, n + m ≤ cap' → cap' ≤ maxLen → setEK H i (.app e sz (xs ++ ys) (some ⟨b, 0, none⟩) (n + m) cap') fun H' => K (.c (.v (.slice (some ⟨b, 0, none⟩) (n + m) cap'))) H')
inductive AppN (H : List Ent) (e : TypeId) (sz bytes : Nat) (a : Option Addr) (n cap m : Nat) (news : List CV) (K : AV → List Ent → Prop) : Prop where
 | base (h : AppM H e sz bytes a n cap m news K)
 | cut (i n0 : Nat) (xs0 : List Value) (he : nthE H i = some (.app e sz xs0 a n0 cap)) (hn : n ≤ n0) (next : setEK H i (.app e sz (xs0.take (n * sz)) a n cap) fun H1 => AppM H1 e sz bytes a n cap m news K)
 | swap (i j : Nat) {T U : TypeId} {m1 m2 n1 n2 c1 c2 : Nat} {xs ys : List Value} {a1 a2 : Option Addr} (hi : nthE H i = some (.app T m1 xs a1 n1 c1)) (hj : nthE H j = some (.app U m2 ys a2 n2 c2)) (hne : Nat.beq i j = false)
   (next : setEK H i (.app U m2 ys a2 n2 c2) fun H1 => setEK H1 j (.app T m1 xs a1 n1 c1) fun H2 => AppM H2 e sz bytes a n cap m news K)
theorem AppN.grow {H : List Ent} {e : TypeId} {sz bytes : Nat} {a : Option Addr} {n cap m : Nat} {news : List CV} {K : AV → List Ent → Prop} (i : Nat) (xs ys : List Value) (he : nthE H i = some (.app e sz xs a n cap)) (hy : plains news = some ys) (hm : 1 ≤ m ∧ room n m bytes ∧ sz ≠ 0)
  (next : ∀ b cap' : Nat, n + m ≤ cap' → cap' ≤ maxLen → setEK H i (.app e sz (xs ++ ys) (some ⟨b, 0, none⟩) (n + m) cap') fun H' => K (.c (.v (.slice (some ⟨b, 0, none⟩) (n + m) cap'))) H') : AppN H e sz bytes a n cap m news K := .base (.grow i xs ys he hy hm next)
def appendTo (e : TypeId) (inf : TypeInfo) (H : List Ent) (x : AV) (m : Nat) (news : List CV) (K : AV → List Ent → Prop) : Prop :=
 match x with
 | .c (.v (.slice a n cap)) => AppN H e inf.size inf.bytes a n cap m news K
 | .c (.sl i n) => match nthE H i with
  | some (.row T sz k cs) => match Nat.beq T e with
   | true => Nd (n = k ∧ sz = inf.size ∧ 1 ≤ m ∧ room n m inf.bytes ∧ inf.size ≠ 0)
     (setEK H i .dead fun H1 => snocK H1 (.row e inf.size (n + m) (cs ++ news)) 0 fun H' j => K (.c (.sl j (n + m))) H')
   | false => False
  | _ => False
 | _ => False
def appendK (P : Program) (T : TypeId) (H : List Ent) (x y : AV) (K : AV → List Ent → Prop) : Prop :=
  match P.underlying T with
  | some (.slice e) => match P.info? e with
    | some inf => match zeroOk inf with
     | true => match y with
      | .c (.sl j m) => match nthE H j with
        | some (.row _ sz k cs) => Nd (m ≤ k ∧ sz = inf.size ∧ oneCs (cs.take (m * sz)) = true) (appendTo e inf H x m (cs.take (m * sz)) K)
        | some (.fz _ sz k xs _ _) => Nd (m ≤ k ∧ sz = inf.size ∧ oneCs ((vs xs).take (m * sz)) = true) (appendTo e inf H x m ((vs xs).take (m * sz)) K)
        | _ => False
      | .c (.v (.slice a m _)) => brd (Nat.beq m 0) (appendZ H x (forceA x fun x => K x H)) (Nd (a.isSome = true) (ApN H (a.getD default) m inf.size fun news => appendTo e inf H x m news K))
      | _ => False
     | false => False
    | none => False
  | _ => False
structure Loc where
 b : Nat
 cap : Nat
def CV.rel (ρ : List Loc) : CV → Value → Prop
 | .any, _ => True
 | .v x, y => y = x
 | .lp i off, y => ∃ l, ρ[i]? = some l ∧ y = .pointer (some ⟨l.b, off, none⟩)
 | .sl i n, y => ∃ l, ρ[i]? = some l ∧ y = .slice (some ⟨l.b, 0, none⟩) n l.cap
def RelL (ρ : List Loc) : List CV → List Value → Prop
 | [], [] => True
 | c :: cs, x :: xs => c.rel ρ x ∧ RelL ρ cs xs
 | _, _ => False
def AV.rel (ρ : List Loc) : AV → Value → Prop
 | .c cv, y => cv.rel ρ y
 | .agg cs, y => ∃ xs : List Value, y = .agg xs.toArray ∧ RelL ρ cs xs
def RelS (ρ : List Loc) : List AV → List Value → Prop
 | [], [] => True
 | c :: cs, x :: xs => c.rel ρ x ∧ RelS ρ cs xs
 | _, _ => False
def Imm (S : Nat → Prop) (w : World) (F : World → Prop) : Prop := F w ∧ ∀ w' : World, (∀ b, S b → w'.heap[b]? = w.heap[b]?) → F w'
def Ent.own : Ent → Bool
 | .blk .. | .row .. => true
 | _ => false
def EntOk (ρ : List Loc) (S : Nat → Prop) (w : World) (i : Nat) : Ent → Prop
 | .blk T cs => ∃ l arr, ρ[i]? = some l ∧ w.heap[l.b]? = some (.cells arr T (0, 0)) ∧ RelL ρ cs arr.toList
 | .row T sz n cs => ∃ l arr, ρ[i]? = some l ∧ w.heap[l.b]? = some (.cells arr T (0, 0)) ∧ cs.length = n * sz ∧ n ≤ l.cap ∧ l.cap ≤ maxLen ∧ arr.size = l.cap * sz ∧ RelL ρ cs (arr.toList.take (n * sz))
 | .fact F => Imm S w F
 | .fz T sz n xs b cap => ρ[i]? = some ⟨b, cap⟩ ∧ Imm S w (RowF T sz n xs b cap)
 | .app T sz xs a n cap => (a = none ∧ n = 0 ∧ cap = 0 ∧ xs = []) ∨ ∃ b, a = some ⟨b, 0, none⟩ ∧ RowF T sz n xs b cap w
 | .mp b es c => w.heap[b]? = some (.map es c)
 | .fam B F => Imm B w F ∧ ∀ b, B b → b < w.heap.size
 | .dead => True
def Ent.isApp : Ent → Bool
 | .app .. => true
 | .mp .. => true
 | .fam .. => true
 | _ => false
def entB (ρ : List Loc) (i : Nat) : Ent → Nat → Prop
 | .blk .. | .row .. => fun b => (ρ[i]?).map Loc.b = some b
 | .app _ _ _ a _ _ => fun b => a.map Addr.block = some b
 | .mp c _ _ => fun b => some c = some b
 | .fam B _ => B
 | _ => fun _ => False
theorem entB_own {ρ : List Loc} {i : Nat} {e : Ent} {l : Loc} (ho : e.own = true) (hl : ρ[i]? = some l) : entB ρ i e l.b := by
 cases e <;> first | (cases ho; done) | (show (ρ[i]?).map Loc.b = some _; rw [hl]; rfl)
theorem entB_le {ρ : List Loc} {i b : Nat} {e : Ent} {l : Loc} (ho : e.isApp = false) (hl : ρ[i]? = some l) (hb : entB ρ i e b) : b = l.b := by
 cases e with
 | blk T cs => have hb : (ρ[i]?).map Loc.b = some b := hb; rw [hl] at hb; exact (Option.some.inj hb).symm
 | row T sz n cs => have hb : (ρ[i]?).map Loc.b = some b := hb; rw [hl] at hb; exact (Option.some.inj hb).symm
 | app => cases ho
 | mp => cases ho
 | fam => cases ho
 | fact F => exact hb.elim
 | fz => exact hb.elim
 | dead => exact hb.elim
def mb (ρ : List Loc) (H : List Ent) (b : Nat) : Prop := ∃ (i : Nat) (e : Ent), H[i]? = some e ∧ entB ρ i e b
structure Sat (ρ : List Loc) (S : Nat → Prop) (H : List Ent) (w : World) : Prop where
 len : ρ.length = H.length
 ent : ∀ i e, H[i]? = some e → EntOk ρ S w i e
 inj : ∀ (i j : Nat) (e f : Ent) (b : Nat), H[i]? = some e → H[j]? = some f → entB ρ i e b → entB ρ j f b → i = j
 out : ∀ b, mb ρ H b → ¬ S b
 low : ∀ b, S b → b < w.heap.size
structure Ev (ρ : List Loc) (S : Nat → Prop) (H : List Ent) (w : World) (ρ' : List Loc) (S' : Nat → Prop) (H' : List Ent) (w' : World) : Prop where
 pre : ∃ t, ρ' = ρ ++ t
 os : w'.os = w.os
 tape : w'.tape = w.tape
 output : w'.output = w.output
 size : w.heap.size ≤ w'.heap.size
 keep : ∀ b, b < w.heap.size → ¬ mb ρ H b → w'.heap[b]? = w.heap[b]?
 imm : ∀ b, S' b → S b ∨ mb ρ H b ∨ w.heap.size ≤ b
 own : ∀ b, mb ρ' H' b → mb ρ H b ∨ w.heap.size ≤ b
theorem Ev.refl (ρ : List Loc) (S : Nat → Prop) (H : List Ent) (w : World) : Ev ρ S H w ρ S H w :=
 ⟨⟨[], by simp⟩, rfl, rfl, rfl, Nat.le_refl _, fun _ _ _ => rfl, fun _ h => .inl h, fun _ h => .inl h⟩
theorem Ev.trans {ρ ρ1 ρ2 : List Loc} {S S1 S2 : Nat → Prop} {H H1 H2 : List Ent} {w w1 w2 : World}
  (a : Ev ρ S H w ρ1 S1 H1 w1) (b : Ev ρ1 S1 H1 w1 ρ2 S2 H2 w2) : Ev ρ S H w ρ2 S2 H2 w2 := by
 refine ⟨?_, b.os.trans a.os, b.tape.trans a.tape, b.output.trans a.output, Nat.le_trans a.size b.size, ?_, ?_, ?_⟩
 ·obtain ⟨t, ht⟩ := a.pre
  obtain ⟨u, hu⟩ := b.pre
  exact ⟨t ++ u, by rw [hu, ht, List.append_assoc]⟩
 ·intro k hk hn
  rw [b.keep k (Nat.lt_of_lt_of_le hk a.size) (fun hm => ?_), a.keep k hk hn]
  rcases a.own k hm with h | h
  ·exact hn h
  ·omega
 ·intro k hk
  rcases b.imm k hk with h | h | h
  ·exact a.imm k h
  ·rcases a.own k h with h | h
   ·exact .inr (.inl h)
   ·exact .inr (.inr h)
  ·exact .inr (.inr (Nat.le_trans a.size h))
 ·intro k hk
  rcases b.own k hk with h | h
  ·exact a.own k h
  ·exact .inr (Nat.le_trans a.size h)
theorem get_pre {ρ : List Loc} {i : Nat} {l : Loc} (t : List Loc) (h : ρ[i]? = some l) : (ρ ++ t)[i]? = some l := by
 rw [List.getElem?_append_left ((List.getElem?_eq_some_iff.1 h).1)]; exact h
theorem CV.rel_pre {ρ : List Loc} (t : List Loc) {c : CV} {x : Value} (h : c.rel ρ x) : c.rel (ρ ++ t) x := by
 cases c with
 | any => trivial
 | v y => exact h
 | lp i off => obtain ⟨l, hl, hx⟩ := h; exact ⟨l, get_pre t hl, hx⟩
 | sl i n => obtain ⟨l, hl, hx⟩ := h; exact ⟨l, get_pre t hl, hx⟩
theorem RelL_pre {ρ : List Loc} (t : List Loc) : ∀ {cs : List CV} {xs : List Value}, RelL ρ cs xs → RelL (ρ ++ t) cs xs
 | [], [], _ => trivial
 | _ :: _, _ :: _, h => ⟨CV.rel_pre t h.1, RelL_pre t h.2⟩
 | [], _ :: _, h => h.elim
 | _ :: _, [], h => h.elim
theorem AV.rel_pre {ρ : List Loc} (t : List Loc) {a : AV} {x : Value} (h : a.rel ρ x) : a.rel (ρ ++ t) x := by
 cases a with
 | c c => exact CV.rel_pre (c := c) t h
 | agg cs => obtain ⟨xs, hx, hr⟩ := h; exact ⟨xs, hx, RelL_pre t hr⟩
theorem RelS_pre {ρ : List Loc} (t : List Loc) : ∀ {cs : List AV} {xs : List Value}, RelS ρ cs xs → RelS (ρ ++ t) cs xs
 | [], [], _ => trivial
 | _ :: _, _ :: _, h => ⟨AV.rel_pre t h.1, RelS_pre t h.2⟩
 | [], _ :: _, h => h.elim
 | _ :: _, [], h => h.elim
theorem RelL_len {ρ : List Loc} : ∀ {cs : List CV} {xs : List Value}, RelL ρ cs xs → cs.length = xs.length
 | [], [], _ => rfl
 | _ :: _, _ :: _, h => by simp [RelL_len h.2]
 | [], _ :: _, h => h.elim
 | _ :: _, [], h => h.elim
theorem RelL_get {ρ : List Loc} : ∀ {cs : List CV} {xs : List Value} {i : Nat} {c : CV}, RelL ρ cs xs → cs[i]? = some c → ∃ x, xs[i]? = some x ∧ c.rel ρ x
 | [], [], _, _, _, h => by simp at h
 | c :: _, x :: _, 0, d, h, e => by
  simp at e; subst e; exact ⟨x, by simp, h.1⟩
 | _ :: cs, _ :: xs, i + 1, d, h, e => by
  simp only [List.getElem?_cons_succ] at e ⊢
  exact RelL_get h.2 e
 | [], _ :: _, _, _, h, _ => h.elim
 | _ :: _, [], _, _, h, _ => h.elim
theorem RelL_drop {ρ : List Loc} : ∀ {cs : List CV} {xs : List Value} (n : Nat), RelL ρ cs xs → RelL ρ (cs.drop n) (xs.drop n)
 | _, _, 0, h => by simpa using h
 | [], [], _ + 1, _ => by simp [RelL]
 | _ :: _, _ :: _, n + 1, h => by simpa using RelL_drop n h.2
 | [], _ :: _, _, h => h.elim
 | _ :: _, [], _, h => h.elim
theorem RelL_take {ρ : List Loc} : ∀ {cs : List CV} {xs : List Value} (n : Nat), RelL ρ cs xs → RelL ρ (cs.take n) (xs.take n)
 | _, _, 0, _ => by simp [RelL]
 | [], [], _ + 1, _ => by simp [RelL]
 | _ :: _, _ :: _, n + 1, h => by simp only [List.take_succ_cons]; exact ⟨h.1, RelL_take n h.2⟩
 | [], _ :: _, _, h => h.elim
 | _ :: _, [], _, h => h.elim
theorem RelL_append {ρ : List Loc} : ∀ {cs ds : List CV} {xs ys : List Value}, RelL ρ cs xs → RelL ρ ds ys → RelL ρ (cs ++ ds) (xs ++ ys)
 | [], _, [], _, _, h => by simpa using h
 | _ :: _, _, _ :: _, _, h, k => ⟨h.1, RelL_append h.2 k⟩
 | [], _, _ :: _, _, h, _ => h.elim
 | _ :: _, _, [], _, h, _ => h.elim
theorem vs_eq : ∀ xs : List Value, vs xs = xs.map CV.v
 | [] => rfl
 | x :: xs => by simp [vs, vs_eq xs]
theorem RelL_vs (ρ : List Loc) : ∀ xs : List Value, RelL ρ (vs xs) xs
 | [] => trivial
 | _ :: xs => ⟨rfl, RelL_vs ρ xs⟩
theorem plains_rel {ρ : List Loc} : ∀ {cs : List CV} {xs us : List Value}, plains cs = some us → RelL ρ cs xs → xs = us
 | [], [], us, h, _ => by simp [plains] at h; exact h.symm
 | .v y :: cs, x :: xs, us, h, r => by
  simp only [plains] at h
  split at h
  ·rename_i l hl
   cases h
   have h2 := plains_rel hl r.2
   have h1 : x = y := r.1
   rw [h1, h2]
  ·cases h
 | .any :: _, _ :: _, _, h, _ => by simp [plains] at h
 | .lp .. :: _, _ :: _, _, h, _ => by simp [plains] at h
 | .sl .. :: _, _ :: _, _, h, _ => by simp [plains] at h
 | [], _ :: _, _, _, h => h.elim
 | _ :: _, [], _, _, h => h.elim
theorem mkAgg_rel {ρ : List Loc} {cs : List CV} {xs : List Value} (h : RelL ρ cs xs) : (mkAgg cs).rel ρ (.agg xs.toArray) := by
 unfold mkAgg
 split
 ·rename_i us hu
  have := plains_rel hu h
  subst this
  exact rfl
 ·exact ⟨xs, rfl, h⟩
theorem nth_rel {ρ : List Loc} : ∀ {s : List AV} {xs : List Value} (t : Nat), RelS ρ s xs → (nth s t).rel ρ (xs.getD t undef)
 | [], [], _, _ => trivial
 | _ :: _, _ :: _, 0, h => h.1
 | _ :: s, _ :: xs, t + 1, h => by
  have := nth_rel t h.2
  simpa [nth] using this
 | [], _ :: _, _, h => h.elim
 | _ :: _, [], _, h => h.elim
theorem opv_rel {ρ : List Loc} {s : List AV} {a : Act} (h : RelS ρ s a.tmps.toList) (x : Operand) : (opv s x).rel ρ (a.eval x) := by
 cases x with
 | tmp t => have := nth_rel t h; simpa [opv, Act.eval] using this
 | const v => rfl
 | global g => rfl
 | func f => rfl
theorem nthE_eq : ∀ (H : List Ent) (i : Nat), nthE H i = H[i]?
 | [], _ => by simp [nthE]
 | _ :: _, 0 => by simp [nthE]
 | _ :: H, i + 1 => by simp [nthE, nthE_eq H i]
theorem nthC_eq : ∀ (H : List CV) (i : Nat), nthC H i = H[i]?
 | [], _ => by simp [nthC]
 | _ :: _, 0 => by simp [nthC]
 | _ :: H, i + 1 => by simp [nthC, nthC_eq H i]
theorem takeC_eq : ∀ (off n : Nat) (cs l : List CV), takeC off n cs = some l → l = (cs.drop off).take n ∧ l.length = n
 | 0, 0, cs, l, h => by simp [takeC] at h; subst h; simp
 | 0, n + 1, x :: xs, l, h => by
  simp only [takeC] at h
  split at h
  ·rename_i l' hl
   cases h
   have := takeC_eq 0 n xs l' hl
   simp at this ⊢
   exact this
  ·cases h
 | 0, _ + 1, [], _, h => by simp [takeC] at h
 | off + 1, n, x :: xs, l, h => by
  simp only [takeC] at h
  have := takeC_eq off n xs l h
  simpa using this
 | _ + 1, _, [], _, h => by simp [takeC] at h
theorem forceV_eq (v : Value) (K : Value → Prop) : forceV v K = K v := by cases v <;> rfl
theorem forceN_eq (n : Nat) (K : Nat → Prop) : forceN n K = K n := by cases n <;> rfl
theorem forceC_eq (v : CV) (K : CV → Prop) : forceC v K = K v := by cases v <;> rfl
theorem forceA_eq (v : AV) (K : AV → Prop) : forceA v K = K v := by cases v <;> simp [forceA, forceC_eq]
theorem brd_true {b : Bool} {A B : Prop} (h : brd b A B) (hb : b = true) : A := by subst hb; exact h
theorem brd_false {b : Bool} {A B : Prop} (h : brd b A B) (hb : b = false) : B := by subst hb; exact h
theorem brd_intro {b : Bool} {A B : Prop} (hA : b = true → A) (hB : b = false → B) : brd b A B := by
 cases b
 ·exact hB rfl
 ·exact hA rfl
theorem add_lit0 (b n : Nat) : (⟨b, 0, none⟩ : Addr).add n = ⟨b, n, none⟩ := by
 unfold Addr.add; split <;> simp_all
theorem RowF.sl {T : TypeId} {sz n : Nat} {xs : List Value} {b cap : Nat} {w : World} (h : RowF T sz n xs b cap w) : SlAt (some ⟨b, 0, none⟩) (n * sz) xs w := by
 obtain ⟨arr, fr, ⟨hb, _⟩, h1, h2, h3, h4, htk⟩ := h
 refine ⟨h1, fun _ => rfl, fun j hj => ?_⟩
 show w.cell? ((⟨b, 0, none⟩ : Addr).add j) = _
 rw [add_lit0, cell_of_row w b j arr T fr hb, ← htk, List.getElem?_take, if_pos hj]
 simp
theorem SlAt.nil {a : Option Addr} {w : World} : SlAt a 0 [] w := ⟨rfl, fun h => absurd h (Nat.lt_irrefl 0), fun j h => absurd h (Nat.not_lt_zero j)⟩
theorem appSl {ρ : List Loc} {S : Nat → Prop} {w : World} {i : Nat} {T : TypeId} {sz : Nat} {xs : List Value} {a : Option Addr} {n cap : Nat} (h : EntOk ρ S w i (.app T sz xs a n cap)) : SlAt a (n * sz) xs w := by
 rcases h with ⟨rfl, rfl, rfl, rfl⟩ | ⟨b, rfl, h⟩
 ·rw [Nat.zero_mul]; exact SlAt.nil
 ·exact h.sl
theorem Facts_of {ρ : List Loc} {S : Nat → Prop} {w : World} : ∀ {H : List Ent}, (∀ e ∈ H, match e with | .fact F => F w | .fz T sz n xs b cap => RowF T sz n xs b cap w | .app _ sz xs a n _ => SlAt a (n * sz) xs w | .mp b es c => w.heap[b]? = some (.map es c) | .fam _ F => F w | _ => True) → Facts H w
 | [], _ => trivial
 | .fact F :: es, h => ⟨h (.fact F) (by simp), Facts_of (ρ := ρ) (S := S) fun e he => h e (by simp [he])⟩
 | .blk .. :: es, h => Facts_of (ρ := ρ) (S := S) (H := es) fun e he => h e (by simp [he])
 | .row .. :: es, h => Facts_of (ρ := ρ) (S := S) (H := es) fun e he => h e (by simp [he])
 | .fz T sz n xs b cap :: es, h => ⟨h (.fz T sz n xs b cap) (by simp), Facts_of (ρ := ρ) (S := S) fun e he => h e (by simp [he])⟩
 | .app T sz xs a n cap :: es, h => ⟨h (.app T sz xs a n cap) (by simp), Facts_of (ρ := ρ) (S := S) fun e he => h e (by simp [he])⟩
 | .mp b es c :: H, h => ⟨h (.mp b es c) (by simp), Facts_of (ρ := ρ) (S := S) fun e he => h e (by simp [he])⟩
 | .fam B F :: H, h => ⟨h (.fam B F) (by simp), Facts_of (ρ := ρ) (S := S) fun e he => h e (by simp [he])⟩
 | .dead :: es, h => Facts_of (ρ := ρ) (S := S) (H := es) fun e he => h e (by simp [he])
theorem Sat.facts {ρ : List Loc} {S : Nat → Prop} {H : List Ent} {w : World} (h : Sat ρ S H w) : Facts H w := by
 refine Facts_of (ρ := ρ) (S := S) fun e he => ?_
 obtain ⟨i, hi⟩ := List.getElem?_of_mem he
 have := h.ent i e hi
 cases e with
 | fact F => exact this.1
 | fz T sz n xs b cap => exact this.2.1
 | app T sz xs a n cap => exact appSl this
 | fam B F => exact this.1.1
 | _ => trivial
theorem pureRun_run (P : Program) {α : Type} : ∀ (s : Sem α) (x : α), pureRun P s = some x → ∀ w, s.run P w = .ok x w
 | .pure a, x, h, w => by simp [pureRun] at h; subst h; rfl
 | .program k, x, h, w => by simp only [pureRun] at h; exact pureRun_run P (k P) x h w
 | .mark _ k, x, h, w => by simp only [pureRun] at h; exact pureRun_run P k x h w
 | .load .., _, h, _ => by simp [pureRun] at h
 | .store .., _, h, _ => by simp [pureRun] at h
 | .new .., _, h, _ => by simp [pureRun] at h
 | .shape .., _, h, _ => by simp [pureRun] at h
 | .freeze .., _, h, _ => by simp [pureRun] at h
 | .frozen .., _, h, _ => by simp [pureRun] at h
 | .getObj .., _, h, _ => by simp [pureRun] at h
 | .setObj .., _, h, _ => by simp [pureRun] at h
 | .choose .., _, h, _ => by simp [pureRun] at h
 | .sys .., _, h, _ => by simp [pureRun] at h
 | .halt .., _, h, _ => by simp [pureRun] at h
theorem allPlain_eval {ρ : List Loc} {s : List AV} {a : Act} (h : RelS ρ s a.tmps.toList) : ∀ (l : List Operand), allPlain s l = true → ∀ x ∈ l, a.eval x = plainEv s x
 | [], _, x, hx => by cases hx
 | y :: l, hp, x, hx => by
  simp only [allPlain] at hp
  have hr := opv_rel h y
  have hy : ∀ z, opv s y = .c (.v z) → a.eval y = plainEv s y := fun z hz => by
   rw [hz] at hr
   unfold plainEv
   rw [hz]
   exact hr
  cases hx with
  | head =>
   revert hp
   cases ho : opv s y with
   | agg cs => simp
   | c c => cases c with
    | v z => intro _; exact hy z ho
    | _ => simp
  | tail _ hx =>
   refine allPlain_eval h l ?_ x hx
   revert hp
   cases opv s y with
   | agg cs => simp
   | c c => cases c <;> simp
def Reads (P : Program) (o : Oper) (s : List AV) (H : List Ent) (av : AV) : Prop :=
 ∀ (ρ : List Loc) (S : Nat → Prop) (w : World) (a : Act), Sat ρ S H w → RelS ρ s a.tmps.toList → ∃ v, (execOp a.eval o).run P w = .ok (.value v) w ∧ av.rel ρ v
theorem gen_sound {P : Program} {o : Oper} {s : List AV} {H : List Ent} {K : AV → Prop} (h : genK P o s K) : ∃ av, K av ∧ Reads P o s H av := by
 have hsel : ∀ cs b, o.op ≠ .select cs b := fun cs b e => by unfold genK at h; rw [e] at h; exact h
 have h' : (match allPlain s o.op.operands.toList with
  | true => match pureRun P (execOp (plainEv s) o) with
   | some (.value v) => forceV v fun v => K (.c (.v v))
   | _ => False
  | false => False) := by
  unfold genK at h
  split at h
  ·exact h.elim
  ·exact h
 clear h
 split at h'
 ·rename_i hp
  split at h'
  ·rename_i v hv
   rw [forceV_eq] at h'
   refine ⟨_, h', fun ρ S w a hs hr => ⟨v, ?_, rfl⟩⟩
   rw [execOp_congr o hsel (ρ' := plainEv s) fun x hx => allPlain_eval hr _ hp x (Array.mem_toList_iff.2 hx)]
   exact pureRun_run P _ _ hv w
  ·exact h'.elim
 ·exact h'.elim
def isAggD : TypeDesc → Bool
 | .struct _ | .array _ _ => true
 | _ => false
theorem run_isAgg {P : Program} {T : TypeId} {d : TypeDesc} (h : P.underlying T = some d) (w : World) :
  (isAgg T).run P w = .ok (isAggD d) w := by
 unfold isAgg
 rw [Sem.run_bind, run_underlying h w]
 cases d <;> rfl
theorem run_loadVar_at {P : Program} {T : TypeId} {w : World} {b off : Nat} {arr : Array Value} {E : TypeId} {fr : Nat × Nat}
    (hb : w.heap[b]? = some (.cells arr E fr)) :
    (shapeT P T = some none → ∀ x, arr.toList[off]? = some x → (loadVar T ⟨b, off, none⟩).run P w = .ok x w) ∧
    (∀ n, shapeT P T = some (some n) → ((arr.toList.drop off).take n).length = n → (loadVar T ⟨b, off, none⟩).run P w = .ok (.agg ((arr.toList.drop off).take n).toArray) w) := by
  constructor
  · intro hs x hx
    unfold shapeT at hs
    have key : ∀ d, P.underlying T = some d → isAggD d = false → (loadVar T ⟨b, off, none⟩).run P w = .ok x w := fun d hd hf => by
      unfold loadVar
      rw [Sem.run_bind, run_isAgg hd, hf]
      have hc : w.cell? ⟨b, off, none⟩ = some x := by rw [cell_of_row w b off arr E fr hb]; simpa using hx
      simp [hc]
    cases hd : P.underlying T with
    | none => rw [hd] at hs; simp at hs
    | some d =>
      rw [hd] at hs
      cases d <;> first
        | exact key _ hd rfl
        | (simp only at hs; split at hs <;> simp at hs)
  · intro n hs hl
    unfold shapeT at hs
    have key : ∀ d i, P.underlying T = some d → P.info? T = some i → i.size = n → isAggD d = true → (loadVar T ⟨b, off, none⟩).run P w = .ok (.agg ((arr.toList.drop off).take n).toArray) w := fun d i hd hi hn hf => by
      have hcells := run_loadCells_list (P := P) w ⟨b, off, none⟩ ((arr.toList.drop off).take n) (fun j v hv => by
        have hadd : (⟨b, off, none⟩ : Addr).add j = ⟨b, off + j, none⟩ := by unfold Addr.add; split <;> simp_all
        rw [hadd, cell_of_row w b (off + j) arr E fr hb]
        rw [List.getElem?_take] at hv
        split at hv
        · simpa [List.getElem?_drop] using hv
        · cases hv)
      rw [hl] at hcells
      unfold loadVar
      rw [Sem.run_bind, run_isAgg hd, hf]
      simp [sizeOf, typeInfo, hi, hn, hcells]
    cases hd : P.underlying T with
    | none => rw [hd] at hs; simp at hs
    | some d =>
      rw [hd] at hs
      cases d <;> first
        | (simp at hs; done)
        | (simp only at hs
           split at hs
           · rename_i i hi
             simp at hs
             exact key _ i hd hi hs rfl
           · cases hs)
theorem execOp_load {P : Program} {o : Oper} {ev : Operand → Value} {w : World} {T : TypeId} {x : Operand} {p : Addr} {y : Value} (ho : o.op = .load T x) (hx : ev x = .pointer (some p))
  (h : (loadVar T p).run P w = .ok y w) : (execOp ev o).run P w = .ok (.value y) w := by
 unfold execOp
 simp only [ho, hx, Instr.loadAt, Instr.sureAddr, Sem.run_bind, Sem.run_pure, Result.andThen_ok, h]
theorem vs_rel (ρ : List Loc) : ∀ xs : List Value, RelL ρ (vs xs) xs
 | [] => trivial
 | _ :: xs => ⟨rfl, vs_rel ρ xs⟩
theorem fz_row {ρ : List Loc} {S : Nat → Prop} {w : World} {i : Nat} {T : TypeId} {sz n : Nat} {xs : List Value} {b cap : Nat} (h : EntOk ρ S w i (.fz T sz n xs b cap)) :
  ∃ l arr fr, ρ[i]? = some l ∧ w.heap[l.b]? = some (.cells arr T fr) ∧ RelL ρ (vs xs) (arr.toList.take (n * sz)) := by
 obtain ⟨hl, ⟨arr, fr, ⟨hb, _⟩, _, _, _, _, htk⟩, _⟩ := h
 exact ⟨⟨b, cap⟩, arr, fr, hl, hb, by rw [htk]; exact vs_rel ρ xs⟩
theorem loadL_sound {P : Program} {o : Oper} {s : List AV} {H : List Ent} {K : AV → Prop} {T : TypeId} {x : Operand} {i off : Nat} (ho : o.op = .load T x) (hx : opv s x = .c (.lp i off))
  (h : loadL P T (nthE H i) off K) : ∃ av, K av ∧ Reads P o s H av := by
 rw [nthE_eq] at h
 unfold loadL at h
 split at h
 ·rename_i T' cs he
  split at h
  ·rename_i hs
   split at h
   ·rename_i c hc
    rw [forceC_eq] at h
    rw [nthC_eq] at hc
    refine ⟨_, h, fun ρ S w a hsat hr => ?_⟩
    obtain ⟨l, arr, hl, hb, hrel⟩ := hsat.ent i _ he
    have hxr := opv_rel hr x
    rw [hx] at hxr
    obtain ⟨l', hl', hxe⟩ := hxr
    have : l' = l := Option.some.inj (hl'.symm.trans hl)
    subst this
    obtain ⟨y, hy, hcy⟩ := RelL_get hrel hc
    exact ⟨y, execOp_load ho hxe ((run_loadVar_at hb).1 hs y hy), hcy⟩
   ·exact h.elim
  ·rename_i n hs
   split at h
   ·rename_i l0 hc
    rw [forceA_eq] at h
    obtain ⟨hl0, hlen⟩ := takeC_eq _ _ _ _ hc
    refine ⟨_, h, fun ρ S w a hsat hr => ?_⟩
    obtain ⟨l, arr, hl, hb, hrel⟩ := hsat.ent i _ he
    have hxr := opv_rel hr x
    rw [hx] at hxr
    obtain ⟨l', hl', hxe⟩ := hxr
    have : l' = l := Option.some.inj (hl'.symm.trans hl)
    subst this
    have hr2 := RelL_take n (RelL_drop off hrel)
    rw [← hl0] at hr2
    have hlen2 : ((arr.toList.drop off).take n).length = n := by rw [← RelL_len hr2]; exact hlen
    exact ⟨_, execOp_load ho hxe ((run_loadVar_at hb).2 n hs hlen2), mkAgg_rel hr2⟩
   ·exact h.elim
  ·exact h.elim
 ·rename_i T' sz n cs he
  split at h
  ·rename_i hs
   obtain ⟨l0, hok, hlen, h⟩ := h
   match l0, hlen, h with
   | [c], _, h0 =>
    have h : forceC c fun c => K (.c c) := h0
    rw [forceC_eq] at h
    refine ⟨_, h, fun ρ S w a hsat hr => ?_⟩
    obtain ⟨l, arr, hl, hb, hcl, hnc, hcm, hsz, hrel⟩ := hsat.ent i _ he
    have hxr := opv_rel hr x
    rw [hx] at hxr
    obtain ⟨l', hl', hxe⟩ := hxr
    have : l' = l := Option.some.inj (hl'.symm.trans hl)
    subst this
    have hc : cs[off]? = some c := by
     have h1 : ((cs.drop off).take 1)[0]? = some c := by rw [hok]; rfl
     rw [List.getElem?_take] at h1
     simpa [List.getElem?_drop] using h1
    obtain ⟨y, hy, hcy⟩ := RelL_get hrel hc
    rw [List.getElem?_take] at hy
    split at hy
    ·exact ⟨y, execOp_load ho hxe ((run_loadVar_at hb).1 hs y hy), hcy⟩
    ·cases hy
  ·rename_i m hs
   obtain ⟨l0, hok, hlen, h⟩ := h
   rw [forceA_eq] at h
   refine ⟨_, h, fun ρ S w a hsat hr => ?_⟩
   obtain ⟨l, arr, hl, hb, hcl, hnc, hcm, hsz, hrel⟩ := hsat.ent i _ he
   have hxr := opv_rel hr x
   rw [hx] at hxr
   obtain ⟨l', hl', hxe⟩ := hxr
   have : l' = l := Option.some.inj (hl'.symm.trans hl)
   subst this
   have hr2 := RelL_take m (RelL_drop off hrel)
   rw [hok] at hr2
   have hlen1 := RelL_len hr2
   have e : (((arr.toList.take (n * sz)).drop off).take m) = (arr.toList.drop off).take m := by
    apply List.ext_getElem?
    intro j
    have hlen3 : (((arr.toList.take (n * sz)).drop off).take m).length = m := by rw [← hlen1]; exact hlen
    by_cases hj : j < m
    ·have hin : off + j < n * sz := by
      simp only [List.length_take, List.length_drop] at hlen3
      omega
     simp [List.getElem?_drop, hj, hin]
    ·simp [List.getElem?_take, hj]
   rw [e] at hr2
   have hlen2 : ((arr.toList.drop off).take m).length = m := by rw [← RelL_len hr2]; exact hlen
   exact ⟨_, execOp_load ho hxe ((run_loadVar_at hb).2 m hs hlen2), mkAgg_rel hr2⟩
  ·exact h.elim
 ·rename_i T' sz n xs0 b0 cap0 he
  have hrow := fun (ρ : List Loc) (S : Nat → Prop) (w : World) (hsat : Sat ρ S H w) => fz_row (hsat.ent i _ he)
  generalize hcs : vs xs0 = cs at h hrow
  clear hcs
  split at h
  ·rename_i hs
   obtain ⟨l0, hok, hlen, h⟩ := h
   match l0, hlen, h with
   | [c], _, h0 =>
    have h : forceC c fun c => K (.c c) := h0
    rw [forceC_eq] at h
    refine ⟨_, h, fun ρ S w a hsat hr => ?_⟩
    obtain ⟨l, arr, _, hl, hb, hrel⟩ := hrow ρ S w hsat
    have hxr := opv_rel hr x
    rw [hx] at hxr
    obtain ⟨l', hl', hxe⟩ := hxr
    have : l' = l := Option.some.inj (hl'.symm.trans hl)
    subst this
    have hc : cs[off]? = some c := by
     have h1 : ((cs.drop off).take 1)[0]? = some c := by rw [hok]; rfl
     rw [List.getElem?_take] at h1
     simpa [List.getElem?_drop] using h1
    obtain ⟨y, hy, hcy⟩ := RelL_get hrel hc
    rw [List.getElem?_take] at hy
    split at hy
    ·exact ⟨y, execOp_load ho hxe ((run_loadVar_at hb).1 hs y hy), hcy⟩
    ·cases hy
  ·rename_i m hs
   obtain ⟨l0, hok, hlen, h⟩ := h
   rw [forceA_eq] at h
   refine ⟨_, h, fun ρ S w a hsat hr => ?_⟩
   obtain ⟨l, arr, _, hl, hb, hrel⟩ := hrow ρ S w hsat
   have hxr := opv_rel hr x
   rw [hx] at hxr
   obtain ⟨l', hl', hxe⟩ := hxr
   have : l' = l := Option.some.inj (hl'.symm.trans hl)
   subst this
   have hr2 := RelL_take m (RelL_drop off hrel)
   rw [hok] at hr2
   have hlen1 := RelL_len hr2
   have e : (((arr.toList.take (n * sz)).drop off).take m) = (arr.toList.drop off).take m := by
    apply List.ext_getElem?
    intro j
    have hlen3 : (((arr.toList.take (n * sz)).drop off).take m).length = m := by rw [← hlen1]; exact hlen
    by_cases hj : j < m
    ·have hin : off + j < n * sz := by
      simp only [List.length_take, List.length_drop] at hlen3
      omega
     simp [List.getElem?_drop, hj, hin]
    ·simp [List.getElem?_take, hj]
   rw [e] at hr2
   have hlen2 : ((arr.toList.drop off).take m).length = m := by rw [← RelL_len hr2]; exact hlen
   exact ⟨_, execOp_load ho hxe ((run_loadVar_at hb).2 m hs hlen2), mkAgg_rel hr2⟩
  ·exact h.elim
 ·exact h.elim
theorem fieldOff_spec {P : Program} {T : TypeId} {f fo : Nat} (h : fieldOff P T f = some fo) (w : World) (p : Addr) :
  (Instr.fieldAt T (.pointer (some p)) f).run P w = .ok (.pointer (some (p.add fo))) w := by
 unfold fieldOff at h
 split at h
 ·rename_i fs hfs
  split at h
  ·rename_i fd hfd
   split at h
   ·rename_i i hi
    cases hb : Nat.beq i.size 0 with
    | true => rw [hb] at h; cases h
    | false =>
     rw [hb] at h
     simp only [cond_false, Option.some.injEq] at h
     subst h
     have hne : ¬ i.size = 0 := fun e => by rw [e] at hb; cases hb
     simp [Instr.fieldAt, run_underlying hfs, hfd, Instr.sureAddr, fieldPlace, sizeOf, typeInfo, hi, hne]
   ·cases h
  ·cases h
 ·cases h
theorem add_lit (b off n : Nat) : (⟨b, off, none⟩ : Addr).add n = ⟨b, off + n, none⟩ := by
 unfold Addr.add; split <;> simp_all
theorem nthV_eq : ∀ (H : List Value) (i : Nat), nthV H i = H[i]?
 | [], _ => by simp [nthV]
 | _ :: _, 0 => by simp [nthV]
 | _ :: H, i + 1 => by simp [nthV, nthV_eq H i]
theorem run_part_scalar {P : Program} {T : TypeId} {d : TypeDesc} (hd : P.underlying T = some d) (hf : isAggD d = false) (cs : Array Value) (off : Nat) (v : Value) (hv : cs.toList[off]? = some v) (w : World) :
  (part T cs off).run P w = .ok v w := by
 unfold part
 rw [Sem.run_bind, run_isAgg hd, hf]
 have : cs[off]? = some v := by simpa using hv
 simp [this]
theorem eqFs_run {P : Program} {d : Nat} {xs ys : Array Value} : ∀ (fs : List Field) (t : Bool), eqFs P xs.toList ys.toList fs = some t → (fs.all fun f => f.name != "_") = true → ∀ w, (Op.eqFields (d + 1) xs ys fs).run P w = .ok t w
 | [], t, h, _, w => by simp [eqFs] at h; subst h; rfl
 | f :: fs, t, h, hn, w => by
  simp only [List.all_cons, Bool.and_eq_true, bne_iff_ne, ne_eq] at hn
  have step : ∀ (dd : TypeDesc) (x y : Value) (e r : Bool), P.underlying f.type = some dd → isAggD dd = false → xs.toList[f.offset]? = some x → ys.toList[f.offset]? = some y →
    (∀ w, (Op.equalIn (d + 1) f.type x y).run P w = .ok e w) → eqFs P xs.toList ys.toList fs = some r → t = (e && r) → (Op.eqFields (d + 1) xs ys (f :: fs)).run P w = .ok t w := by
   intro dd x y e r hd hag hx hy he hr ht
   have ih := eqFs_run (d := d) fs r hr hn.2 w
   unfold Op.eqFields
   simp only [ne_eq, hn.1, not_false_eq_true, if_true, Sem.run_bind, run_part_scalar hd hag xs f.offset x hx, run_part_scalar hd hag ys f.offset y hy, he, Result.andThen_ok]
   subst ht
   cases e
   ·rfl
   ·simpa using ih
  unfold eqFs at h
  simp only [nthV_eq] at h
  split at h
  ·rename_i kk j a k b hd hx hy
   split at h
   ·rename_i hjk
    subst hjk
    split at h
    ·rename_i r hr
     simp only [Option.some.injEq] at h
     exact step _ _ _ _ r hd rfl hx hy (fun w => run_equalIn_int w d f.type j _ a b hd) hr h.symm
    ·cases h
   ·cases h
  ·rename_i a b hd hx hy
   split at h
   ·rename_i r hr
    simp only [Option.some.injEq] at h
    exact step _ _ _ _ r hd rfl hx hy (fun w => run_equalIn_bool' w d f.type a b hd) hr h.symm
   ·cases h
  ·rename_i a b hd hx hy
   split at h
   ·rename_i r hr
    simp only [Option.some.injEq] at h
    exact step _ _ _ _ r hd rfl hx hy (fun w => by rw [run_equalIn_string w d f.type a b hd, ByteArray.toList_eq, ByteArray.toList_eq]) hr h.symm
   ·cases h
  ·cases h
theorem execOp_bin {P : Program} {o : Oper} {ev : Operand → Value} {w : World} {op : BinOp} {T U : TypeId} {x y : Operand} {v : Value} (ho : o.op = .binOp op T x y U)
  (hg : (eqGuard op T x y (ev x) (ev y)).run P w = .ok () w) (hb : (binOp op T (ev x) (ev y)).run P w = .ok v w) : (execOp ev o).run P w = .ok (.value v) w := by
 unfold execOp
 simp only [ho, Sem.run_bind, hg, hb, Result.andThen_ok, Sem.run_pure]
theorem aggBin_sound {P : Program} {o : Oper} {s : List AV} {H : List Ent} {K : AV → Prop} {op : BinOp} {T U : TypeId} {x y : Operand} {a b : Array Value}
  (ho : o.op = .binOp op T x y U) (hx : opv s x = .c (.v (.agg a))) (hy : opv s y = .c (.v (.agg b))) (h : aggBin P op T a b K) : ∃ av, K av ∧ Reads P o s H av := by
 unfold aggBin at h
 split at h
 ·rename_i fs hfs
  split at h
  ·rename_i t ht
   have key : eqOk P T fs = true → ∀ (ρ : List Loc) (S : Nat → Prop) (w : World) (ac : Act), Sat ρ S H w → RelS ρ s ac.tmps.toList →
     ac.eval x = .agg a ∧ ac.eval y = .agg b ∧ (eqGuard op T x y (ac.eval x) (ac.eval y)).run P w = .ok () w ∧ (Op.equalIn 10000 T (.agg a) (.agg b)).run P w = .ok t w := by
    intro hok ρ S w ac _ hr
    have h1 := opv_rel hr x
    have h2 := opv_rel hr y
    rw [hx] at h1; rw [hy] at h2
    have e1 : ac.eval x = .agg a := h1
    have e2 : ac.eval y = .agg b := h2
    simp only [eqOk, Bool.and_eq_true, Bool.not_eq_true'] at hok
    refine ⟨e1, e2, by rw [e1, e2]; exact run_eqGuard_agg w op T x y a b hok.1.1, ?_⟩
    have hF : P.fieldsOf T = fs := by unfold Program.fieldsOf; rw [hfs]
    rw [show (10000 : Nat) = 9998 + 1 + 1 from rfl, run_equalIn_agg w _ T a b (by rw [hF]; exact hfs) hok.1.2, hF]
    exact eqFs_run fs.toList t ht hok.2 w
   split at h
   ·obtain ⟨hok, h⟩ := h
    refine ⟨_, h, fun ρ S w ac hs hr => ?_⟩
    obtain ⟨e1, e2, hg, he⟩ := key hok ρ S w ac hs hr
    refine ⟨_, execOp_bin (v := .bool t) ho hg ?_, rfl⟩
    rw [e1, e2, run_eql_struct, he]; rfl
   ·obtain ⟨hok, h⟩ := h
    refine ⟨_, h, fun ρ S w ac hs hr => ?_⟩
    obtain ⟨e1, e2, hg, he⟩ := key hok ρ S w ac hs hr
    refine ⟨_, execOp_bin (v := .bool (!t)) ho hg ?_, rfl⟩
    rw [e1, e2, run_neq_struct, he]; rfl
   ·exact h.elim
  ·exact h.elim
 ·exact h.elim
theorem strBin_sound {P : Program} {o : Oper} {s : List AV} {H : List Ent} {K : AV → Prop} {op : BinOp} {T U : TypeId} {x y : Operand} {a b : ByteArray}
  (ho : o.op = .binOp op T x y U) (hx : opv s x = .c (.v (.string a))) (hy : opv s y = .c (.v (.string b))) (h : strBin op a b K) : ∃ av, K av ∧ Reads P o s H av := by
 have key : ∀ v, K (.c (.v v)) → (∀ w, (Op.stringOp op a b).run P w = .ok v w) → (binOp op T (.string a) (.string b) = Op.stringOp op a b) → ∃ av, K av ∧ Reads P o s H av := by
  intro v hK hrun hb
  refine ⟨_, hK, fun ρ S w ac _ hr => ⟨v, ?_, rfl⟩⟩
  have h1 := opv_rel hr x
  have h2 := opv_rel hr y
  rw [hx] at h1; rw [hy] at h2
  have e1 : ac.eval x = .string a := h1
  have e2 : ac.eval y = .string b := h2
  refine execOp_bin ho ?_ ?_
  ·rw [e1, e2]; cases op <;> rfl
  ·rw [e1, e2, hb]; exact hrun w
 unfold strBin at h
 split at h
 ·obtain ⟨hs, h⟩ := h
  refine key _ h (fun w => ?_) rfl
  have : ¬ (((a.size + b.size : Nat) : Int) > IntKind.i64.max) := by simp [IntKind.max, IntKind.signed, IntKind.bits]; omega
  unfold Op.stringOp
  simp only [if_neg this, Sem.run_pure]
 all_goals first
  | exact h.elim
  | exact key _ h (fun w => by simp [Op.stringOp, ByteArray.toList_eq]) rfl
theorem reads_same {P : Program} {o : Oper} {s : List AV} {H : List Ent} {K : AV → Prop} {x : Operand} (he : ∀ ev, execOp ev o = pure (.value (ev x))) (h : K (opv s x)) :
  ∃ av, K av ∧ Reads P o s H av :=
 ⟨_, h, fun ρ S w a _ hr => ⟨a.eval x, by rw [he]; rfl, opv_rel hr x⟩⟩
theorem run_indexAt {P : Program} {T e : TypeId} {inf : TypeInfo} (hu : P.underlying T = some (.slice e)) (hi : P.info? e = some inf) (w : World) (b : Addr) (n cap : Nat) (k : IntKind) (i : Int) (h : 0 ≤ i ∧ i < (n : Int)) :
  (Instr.indexAt T (.slice (some b) n cap) (.int k i)).run P w = .ok (.pointer (some (b.add (i.toNat * inf.size)))) w := by
 simp [Instr.indexAt, asIntOf, run_underlying hu, sizeOf, typeInfo, hi, h]
theorem run_indexAt_array {P : Program} {T e : TypeId} {inf : TypeInfo} {n : Nat} (hu : P.underlying T = some (.array n e)) (hi : P.info? e = some inf) (w : World) (b : Addr) (k : IntKind) (i : Int) (h : 0 ≤ i ∧ i < (n : Int)) :
  (Instr.indexAt T (.pointer (some b)) (.int k i)).run P w = .ok (.pointer (some (b.add (i.toNat * inf.size)))) w := by
 simp [Instr.indexAt, asIntOf, run_underlying hu, Instr.sureAddr, sizeOf, typeInfo, hi, h]
theorem execOp_indexAddr {P : Program} {o : Oper} {ev : Operand → Value} {w : World} {T : TypeId} {x i : Operand} {v : Value} (ho : o.op = .indexAddr T x i)
  (h : (Instr.indexAt T (ev x) (ev i)).run P w = .ok v w) : (execOp ev o).run P w = .ok (.value v) w := by
 unfold execOp
 simp only [ho, Sem.run_bind, h, Result.andThen_ok, Sem.run_pure]
theorem run_index_string {P : Program} {T : TypeId} (w : World) (b : ByteArray) (k : IntKind) (n : Int) (hu : P.underlying T = some .string) (h : 0 ≤ n ∧ n < (b.size : Int)) :
  (Instr.index T (.string b) (.int k n)).run P w = .ok (.int .u8 (byteAt b n.toNat)) w := by
 have hlt : n.toNat < b.size := by omega
 have hb : b[n.toNat]? = some b[n.toNat] := by simp [hlt]
 simp only [Instr.index, asIntOf, Sem.run_bind, Sem.run_pure, Result.andThen_ok, run_underlying hu, h.1, if_true, hb]
 congr 2
 unfold byteAt
 have : b.data.toList.getD n.toNat 0 = b[n.toNat] := by
  have hl : n.toNat < b.data.toList.length := by simpa using hlt
  rw [List.getD_eq_getElem?_getD, List.getElem?_eq_getElem hl]
  rfl
 rw [this]
theorem avCells_rel {ρ : List Loc} {av : AV} {cs : List CV} {v : Value} (h : avCells av = some cs) (hr : av.rel ρ v) : RelL ρ cs v.cells.toList := by
 cases av with
 | agg ds =>
  simp only [avCells, Option.some.injEq] at h
  subst h
  obtain ⟨xs, rfl, hx⟩ := hr
  simpa [Value.cells] using hx
 | c c =>
  cases c with
  | any => cases h
  | v x =>
   simp only [avCells, Option.some.injEq] at h
   subst h
   have : v = x := hr
   subst this
   unfold cellsV
   split
   ·simpa [Value.cells] using RelL_vs ρ _
   ·rename_i hne
    have : v.cells.toList = [v] := by
     unfold Value.cells
     split
     ·rename_i cs; exact absurd rfl (hne cs)
     ·rfl
    rw [this]
    exact ⟨rfl, trivial⟩
  | lp i off =>
   simp only [avCells, Option.some.injEq] at h
   subst h
   obtain ⟨l, hl, rfl⟩ := hr
   exact ⟨⟨l, hl, rfl⟩, trivial⟩
  | sl i n =>
   simp only [avCells, Option.some.injEq] at h
   subst h
   obtain ⟨l, hl, rfl⟩ := hr
   exact ⟨⟨l, hl, rfl⟩, trivial⟩
theorem putC_rel {ρ : List Loc} : ∀ {cs xs cs' : List CV} {off : Nat} {us ys : List Value}, putC cs off xs = some cs' → RelL ρ cs us → RelL ρ xs ys →
  off + ys.length ≤ us.length ∧ RelL ρ cs' (us.take off ++ ys ++ us.drop (off + ys.length))
 | cs, [], cs', 0, us, ys, h, r, q => by
  cases ys with
  | cons _ _ => exact q.elim
  | nil =>
   have : cs' = cs := by cases cs <;> (simp [putC] at h; first | exact h.symm | exact h)
   subst this
   simpa using r
 | c :: cs, x :: xs, cs', 0, us, ys, h, r, q => by
  cases us with
  | nil => exact r.elim
  | cons u us =>
   cases ys with
   | nil => exact q.elim
   | cons y ys =>
    simp only [putC] at h
    split at h
    ·rename_i l hl
     cases h
     have := putC_rel (off := 0) hl r.2 q.2
     refine ⟨by simp at this ⊢; omega, ?_⟩
     have e : List.take 0 (u :: us) ++ (y :: ys) ++ List.drop (0 + (y :: ys).length) (u :: us) = y :: (List.take 0 us ++ ys ++ List.drop (0 + ys.length) us) := by simp
     rw [e]
     exact ⟨q.1, this.2⟩
    ·cases h
 | c :: cs, xs, cs', off + 1, us, ys, h, r, q => by
  cases us with
  | nil => exact r.elim
  | cons u us =>
   simp only [putC] at h
   split at h
   ·rename_i l hl
    cases h
    have := putC_rel (off := off) hl r.2 q
    refine ⟨by simp at this ⊢; omega, ?_⟩
    have e : List.take (off + 1) (u :: us) ++ ys ++ List.drop (off + 1 + ys.length) (u :: us) = u :: (List.take off us ++ ys ++ List.drop (off + ys.length) us) := by
     rw [show off + 1 + ys.length = (off + ys.length) + 1 by omega]; simp
    rw [e]
    exact ⟨r.1, this.2⟩
   ·cases h
 | [], _ :: _, _, 0, _, _, h, _, _ => by simp [putC] at h
 | [], _, _, _ + 1, _, _, h, _, _ => by simp [putC] at h
theorem fold_put (off : Nat) : ∀ (l : List Value) (k : Nat) (cells : Array Value), off + k + l.length ≤ cells.size →
  ((l.zipIdx k).foldl (fun cs p => cs.setIfInBounds (off + p.2) p.1) cells).toList = cells.toList.take (off + k) ++ l ++ cells.toList.drop (off + k + l.length)
 | [], k, cells, _ => by simp
 | v :: l, k, cells, h => by
  simp only [List.zipIdx_cons, List.foldl_cons]
  rw [fold_put off l (k + 1) (cells.setIfInBounds (off + k) v) (by simp at h ⊢; omega)]
  have e := list_seg_step cells.toList (off + k) v l (by simp at h ⊢; omega)
  simpa [Array.toList_setIfInBounds, Nat.add_assoc] using e
theorem fill_step (place : Nat → Option (Nat × Nat)) (cells : Array Value) (i off sz : Nat) (v : Value) (rest : List (Nat × Value)) (hp : place i = some (off, sz)) (hv : v.cells.size = sz) (hfit : off + v.cells.size ≤ cells.size) :
  Instr.fill place cells ((i, v) :: rest) = Instr.fill place (cells.toList.take off ++ v.cells.toList ++ cells.toList.drop (off + v.cells.toList.length)).toArray rest := by
 have h1 : ¬ (off + v.cells.size > cells.size) := by omega
 simp only [Instr.fill, hp, hv, ne_eq, not_true_eq_false, decide_false, Bool.false_or, gt_iff_lt]
 rw [hv] at h1
 rw [if_neg (by simpa using h1)]
 congr 1
 apply Array.ext'
 have e := fold_put off v.cells.toList 0 cells (by simpa using hfit)
 simp only [Nat.add_zero] at e
 have hz : v.cells.zipIdx.foldl (fun cs (p : Value × Nat) => cs.setIfInBounds (off + p.2) p.1) cells = (v.cells.toList.zipIdx 0).foldl (fun cs p => cs.setIfInBounds (off + p.2) p.1) cells := by
  rw [← Array.foldl_toList, Array.toList_zipIdx]
 have hz2 : (v.cells.zipIdx.foldl (fun cs (c, j) => cs.setIfInBounds (off + j) c) cells) = v.cells.zipIdx.foldl (fun cs (p : Value × Nat) => cs.setIfInBounds (off + p.2) p.1) cells := rfl
 rw [hz2, hz, e]
theorem fillC_rel {ρ : List Loc} {s : List AV} {a : Act} (hr : RelS ρ s a.tmps.toList) (place place' : Nat → Option (Nat × Nat)) (hpl : ∀ i p, place i = some p → place' i = some p) :
  ∀ (parts : List (Nat × Operand)) (cs cs' : List CV) (us : Array Value), fillC place s parts cs = some cs' → RelL ρ cs us.toList →
  ∃ us' : Array Value, Instr.fill place' us (parts.map fun p => (p.1, a.eval p.2)) = some us' ∧ RelL ρ cs' us'.toList
 | [], cs, cs', us, h, r => by
  simp only [fillC, Option.some.injEq] at h
  subst h
  exact ⟨us, rfl, r⟩
 | (i, x) :: rest, cs, cs', us, h, r => by
  simp only [fillC] at h
  split at h
  ·rename_i off sz xs hp hx
   split at h
   ·rename_i cs1 hlen hput
    have hxr := avCells_rel hx (opv_rel hr x)
    obtain ⟨hfit, hrel⟩ := putC_rel hput r hxr
    have hsz : (a.eval x).cells.size = sz := by
     have h1 := RelL_len hxr
     have h2 := Nat.eq_of_beq_eq_true hlen
     simp at h1; omega
    have ih := fillC_rel hr place place' hpl rest cs1 cs' (us.toList.take off ++ (a.eval x).cells.toList ++ us.toList.drop (off + (a.eval x).cells.toList.length)).toArray h (by simpa using hrel)
    obtain ⟨us', hf, hr'⟩ := ih
    refine ⟨us', ?_, hr'⟩
    simp only [List.map_cons]
    rw [fill_step place' us i off sz _ _ (hpl _ _ hp) hsz (by simpa using hfit)]
    exact hf
   ·cases h
  ·cases h
theorem cellsV_rel (ρ : List Loc) (z : Value) : RelL ρ (cellsV z) z.cells.toList :=
 avCells_rel (av := .c (.v z)) (v := z) (by simp [avCells]) rfl
theorem run_zeroValue {P : Program} {T : TypeId} {i : TypeInfo} {z : Value} (hi : P.info? T = some i) (hz : i.zero = some z) (w : World) : (zeroValue T).run P w = .ok z w := by
 simp [zeroValue, typeInfo, hi, hz]
def pl1 (P : Program) (f : Field) : Option (Nat × Nat) := (P.info? f.type).map fun inf => (f.offset, inf.size)
theorem places_run {P : Program} (w : World) : ∀ l : List Field, fieldsOk P l = true →
  ∃ q : List (Nat × Nat), (l.mapM fun f => (do pure (f.offset, ← sizeOf f.type) : Sem (Nat × Nat))).run P w = .ok q w ∧ ∀ i : Nat, q[i]? = (l[i]?).bind (pl1 P)
 | [], _ => ⟨[], by simp, fun i => by simp⟩
 | f :: l, h => by
  simp only [fieldsOk] at h
  split at h
  ·rename_i fi hfi
   obtain ⟨q, hq, hqi⟩ := places_run w l h
   refine ⟨(f.offset, fi.size) :: q, ?_, ?_⟩
   ·simp only [List.mapM_cons, Sem.run_bind, sizeOf, typeInfo, run_program, Result.andThen_ok, hfi, Sem.run_pure]
    simp only [sizeOf, typeInfo] at hq
    rw [hq]
    rfl
   ·intro i
    cases i with
    | zero => simp [pl1, hfi]
    | succ i => simpa using hqi i
  ·cases h
theorem build_sound {P : Program} {o : Oper} {s : List AV} {H : List Ent} {T : TypeId} {parts : Array (Nat × Operand)} {fs : Array Field} {inf : TypeInfo} {z : Value} {cs : List CV} (ho : o.op = .build T parts)
  (hu : P.underlying T = some (.struct fs)) (hi : P.info? T = some inf) (hz : inf.zero = some z) (hok : fieldsOk P fs.toList = true) (hf : fillC (placeF P fs) s parts.toList (cellsV z) = some cs) :
  Reads P o s H (mkAgg cs) := by
 intro ρ S w a _ hr
 obtain ⟨q, hq, hqi⟩ := places_run (P := P) w fs.toList hok
 have hpl : ∀ i p, placeF P fs i = some p → (fun i => q.toArray[i]?) i = some p := fun i p h => by
  simp only [List.getElem?_toArray]
  rw [hqi i]
  unfold placeF at h
  split at h
  ·rename_i f hf
   split at h
   ·rename_i fi hfi
    simp at h
    have : fs.toList[i]? = some f := by simpa using hf
    simp [this, pl1, hfi, h]
   ·cases h
  ·cases h
 obtain ⟨us', h1, h2⟩ := fillC_rel hr (placeF P fs) (fun i => q.toArray[i]?) hpl parts.toList (cellsV z) cs z.cells hf (cellsV_rel ρ z)
 have hm := mkAgg_rel h2
 refine ⟨.agg us', ?_, by simpa using hm⟩
 have hq2 : (fs.mapM fun f => (do pure (f.offset, ← sizeOf f.type) : Sem (Nat × Nat))).run P w = .ok q.toArray w := by
  rw [Array.mapM_eq_mapM_toList, Sem.run_map, hq]; rfl
 unfold execOp
 simp only [ho, Instr.build, Sem.run_bind, run_zeroValue hi hz, run_underlying hu, Result.andThen_ok, hq2, Sem.run_pure]
 have e : (parts.map fun (i, x) => (i, a.eval x)).toList = parts.toList.map fun p => (p.1, a.eval p.2) := by simp
 rw [e, h1]
 rfl
theorem sameKind_eq {j k : IntKind} (h : sameKind j k = true) : j = k := by
 cases j <;> cases k <;> first | rfl | cases h
theorem divK_sound {P : Program} {o : Oper} {s : List AV} {H : List Ent} {K : AV → Prop} {op : BinOp} {T U : TypeId} {x y : Operand} {j k : IntKind} {a b : Int}
  (ho : o.op = .binOp op T x y U) (hx : opv s x = .c (.v (.int j a))) (hy : opv s y = .c (.v (.int k b))) (hjk : sameKind j k = true) (h : divK op j a b K) : ∃ av, K av ∧ Reads P o s H av := by
 have := sameKind_eq hjk
 subst this
 have key : ∀ v, K (.c (.v v)) → (∀ w, (binOp op T (.int j a) (.int j b)).run P w = .ok v w) → (∀ w, (eqGuard op T x y (.int j a) (.int j b)).run P w = .ok () w) → ∃ av, K av ∧ Reads P o s H av := by
  intro v hK hrun hg
  refine ⟨_, hK, fun ρ S w ac _ hr => ⟨v, ?_, rfl⟩⟩
  have h1 := opv_rel hr x
  have h2 := opv_rel hr y
  rw [hx] at h1; rw [hy] at h2
  have e1 : ac.eval x = .int j a := h1
  have e2 : ac.eval y = .int j b := h2
  exact execOp_bin ho (by rw [e1, e2]; exact hg w) (by rw [e1, e2]; exact hrun w)
 unfold divK at h
 split at h
 ·obtain ⟨hb, h⟩ := h
  exact key _ h (fun w => by simp [binOp, Op.intDiv, hb]) (fun w => rfl)
 ·obtain ⟨hb, h⟩ := h
  exact key _ h (fun w => by simp [binOp, Op.intDiv, hb]) (fun w => rfl)
 ·exact h.elim
theorem opvs_one {s : List AV} {l : List Operand} {a : AV} (h : opvs s l = [a]) : ∃ x, l = [x] ∧ opv s x = a := by
 match l, h with
 | [x], h => simp [opvs] at h; exact ⟨x, rfl, h⟩
 | [], h => simp [opvs] at h
 | _ :: _ :: _, h => simp [opvs] at h
theorem opvs_two {s : List AV} {l : List Operand} {a b : AV} (h : opvs s l = [a, b]) : ∃ x y, l = [x, y] ∧ opv s x = a ∧ opv s y = b := by
 match l, h with
 | [x, y], h => simp [opvs] at h; exact ⟨x, y, rfl, h.1, h.2⟩
 | [], h => simp [opvs] at h
 | [_], h => simp [opvs] at h
 | _ :: _ :: _ :: _, h => simp [opvs] at h
theorem execOp_blt {P : Program} {o : Oper} {ev : Operand → Value} {w : World} {b : Builtin} {args : Array Operand} {ts : Array TypeId} {v : Value}
  (ho : o.op = .call { callee := .builtin b, args := args, argTypes := ts }) (h : ∀ consts, (builtin b ts o.type consts (args.toList.map ev).toArray).run P w = .ok (.value v) w) : (execOp ev o).run P w = .ok (.value v) w := by
 have e : args.map ev = (args.toList.map ev).toArray := by apply Array.ext'; simp
 unfold execOp
 simp only [ho, resolve, invoke, Sem.run_bind, Sem.run_pure, Result.andThen_ok, e]
 exact h _
theorem lenK_sound {P : Program} {o : Oper} {s : List AV} {H : List Ent} {K : AV → Prop} {T : TypeId} {x : Operand} {args : Array Operand} {ts : Array TypeId}
  (ho : o.op = .call { callee := .builtin .len, args := args, argTypes := ts }) (ht : ts.toList = [T]) (ha : args.toList = [x]) (h : lenK P T (opv s x) K) : ∃ av, K av ∧ Reads P o s H av := by
 have hts : ts = #[T] := by rw [← Array.toArray_toList (xs := ts), ht]
 unfold lenK at h
 split at h
 ·rename_i hu
  split at h
  ·rename_i b hx
   refine ⟨_, h, fun ρ S w a _ hr => ⟨_, execOp_blt ho fun consts => ?_, rfl⟩⟩
   have hxr := opv_rel hr x
   rw [hx] at hxr
   have he : a.eval x = .string b := hxr
   rw [ha, hts]
   simp [builtin, Builtin.len_, run_underlying hu, he, goInt]
  ·exact h.elim
 ·rename_i e hu
  split at h
  ·rename_i p n c hx
   refine ⟨_, h, fun ρ S w a _ hr => ⟨_, execOp_blt ho fun consts => ?_, rfl⟩⟩
   have hxr := opv_rel hr x
   rw [hx] at hxr
   have he : a.eval x = .slice p n c := hxr
   rw [ha, hts]
   simp [builtin, Builtin.len_, run_underlying hu, he, goInt]
  ·rename_i i n hx
   refine ⟨_, h, fun ρ S w a _ hr => ⟨_, execOp_blt ho fun consts => ?_, rfl⟩⟩
   have hxr := opv_rel hr x
   rw [hx] at hxr
   obtain ⟨l, _, he⟩ := hxr
   rw [ha, hts]
   simp [builtin, Builtin.len_, run_underlying hu, he, goInt]
  ·exact h.elim
 ·exact h.elim
theorem bltK_sound {P : Program} {o : Oper} {s : List AV} {H : List Ent} {K : AV → Prop} {b : Builtin} {args : Array Operand} {ts : Array TypeId}
  (ho : o.op = .call { callee := .builtin b, args := args, argTypes := ts }) (h : bltK P b ts.toList (opvs s args.toList) K) : ∃ av, K av ∧ Reads P o s H av := by
 unfold bltK at h
 split at h
 ·split at h
  ·rename_i T x ht hx
   obtain ⟨x', ha, rfl⟩ := opvs_one hx
   exact lenK_sound ho ht ha h
  ·exact h.elim
 ·split at h
  ·rename_i T p n c ht hx
   obtain ⟨x', ha, hx'⟩ := opvs_one hx
   have hts : ts = #[T] := by rw [← Array.toArray_toList (xs := ts), ht]
   split at h
   ·rename_i e hu
    refine ⟨_, h, fun ρ S w a _ hr => ⟨_, execOp_blt ho fun consts => ?_, rfl⟩⟩
    have hxr := opv_rel hr x'
    rw [hx'] at hxr
    have he : a.eval x' = .slice p n c := hxr
    rw [ha, hts]
    simp [builtin, Builtin.cap_, run_underlying hu, he, goInt]
   ·exact h.elim
  ·exact h.elim
 ·split at h
  ·rename_i j a k b hx
   split at h
   ·rename_i hjk
    have := sameKind_eq hjk
    subst this
    obtain ⟨x', y', ha, hx, hy⟩ := opvs_two hx
    refine ⟨_, h, fun ρ S w ac _ hr => ⟨_, execOp_blt ho fun consts => ?_, rfl⟩⟩
    have h1 := opv_rel hr x'
    have h2 := opv_rel hr y'
    rw [hx] at h1; rw [hy] at h2
    have e1 : ac.eval x' = .int j a := h1
    have e2 : ac.eval y' = .int j b := h2
    rw [ha]
    simp [builtin, Builtin.min_, Builtin.min2, e1, e2, minI]
   ·exact h.elim
  ·exact h.elim
 ·split at h
  ·rename_i j a k b hx
   split at h
   ·rename_i hjk
    have := sameKind_eq hjk
    subst this
    obtain ⟨x', y', ha, hx, hy⟩ := opvs_two hx
    refine ⟨_, h, fun ρ S w ac _ hr => ⟨_, execOp_blt ho fun consts => ?_, rfl⟩⟩
    have h1 := opv_rel hr x'
    have h2 := opv_rel hr y'
    rw [hx] at h1; rw [hy] at h2
    have e1 : ac.eval x' = .int j a := h1
    have e2 : ac.eval y' = .int j b := h2
    rw [ha]
    simp [builtin, Builtin.max_, Builtin.max2, e1, e2, maxI]
   ·exact h.elim
  ·exact h.elim
 ·exact h.elim
def ReadW (P : Program) (o : Oper) (s : List AV) (H : List Ent) (K : AV → Prop) : Prop := ∃ av, K av ∧ Reads P o s H av
def readK (P : Program) (o : Oper) (s : List AV) (H : List Ent) (K : AV → Prop) : Prop :=
 match o.op with
 | .move x => forceA (opv s x) K
 | .assign x => asgK s x K
 | .pick c a b => match opv s c with
  | .c (.v (.bool t)) => brd t (forceA (opv s a) K) (forceA (opv s b) K)
  | _ => False
 | .load T x => match opv s x with
  | .c (.lp i off) => loadL P T (nthE H i) off K
  | .c (.v (.pointer (some a))) => LdN P T a H K
  | _ => False
 | .fieldAddr T x f => match opv s x with
  | .c (.lp i off) => match fieldOff P T f with | some fo => forceN fo fun fo => K (.c (.lp i (off + fo))) | none => False
  | .c (.v (.pointer (some a))) => match fieldOff P T f with | some fo => forceN fo fun fo => K (.c (.v (.pointer (some (a.add fo))))) | none => False
  | _ => False
 | .indexAddr T x i => match opv s x, opv s i with
  | .c (.sl j n), .c (.v (.int _ k)) => match P.underlying T with
   | some (.slice e) => match P.info? e with
    | some inf => Nd (0 ≤ k ∧ k < (n : Int)) (K (.c (.lp j (k.toNat * inf.size))))
    | none => False
   | _ => False
  | .c (.v (.slice a n _)), .c (.v (.int _ k)) => match P.underlying T with
   | some (.slice e) => match P.info? e with
    | some inf => Nd (a.isSome = true ∧ 0 ≤ k ∧ k < (n : Int)) (K (.c (.v (.pointer (some (elemAddr a (k.toNat * inf.size)))))))
    | none => False
   | _ => False
  | .c (.lp j off), .c (.v (.int _ k)) => match P.underlying T with
   | some (.array n e) => match P.info? e with
    | some inf => Nd (0 ≤ k ∧ k < (n : Int)) (K (.c (.lp j (off + k.toNat * inf.size))))
    | none => False
   | _ => False
  | .c (.v (.pointer (some a))), .c (.v (.int _ k)) => match P.underlying T with
   | some (.array n e) => match P.info? e with
    | some inf => Nd (0 ≤ k ∧ k < (n : Int)) (K (.c (.v (.pointer (some (a.add (k.toNat * inf.size)))))))
    | none => False
   | _ => False
  | _, _ => False
 | .index T x i => match opv s x, opv s i with
  | .c (.v (.string b)), .c (.v (.int _ n)) => match P.underlying T with
   | some .string => Nd (0 ≤ n ∧ n < (b.size : Int)) (K (.c (.v (.int .u8 (byteAt b n.toNat)))))
   | _ => False
  | _, _ => genK P o s K
 | .slice .. => ReadW P o s H K
 | .lookup .. => ReadW P o s H K
 | .convert _ _ x => match opv s x with
  | .c (.v (.slice ..)) => ReadW P o s H K
  | .c (.v (.string _)) => ReadW P o s H K
  | .c (.lp ..) => ReadW P o s H K
  | .c (.sl ..) => ReadW P o s H K
  | _ => genK P o s K
 | .call { callee := .builtin b, args := args, argTypes := ts } => match b with
  | .len => match opvs s args.toList with
   | [.c (.v (.map _))] => ReadW P o s H K
   | _ => bltK P .len ts.toList (opvs s args.toList) K
  | .min | .max | .cap => bltK P b ts.toList (opvs s args.toList) K
  | _ => ReadW P o s H K
 | .nilCheck x => match opv s x with
  | .c (.lp i off) => K (.c (.lp i off))
  | _ => genK P o s K
 | .build T parts => match P.underlying T with
  | some (.struct fs) => match P.info? T with
   | some inf => match inf.zero with
    | some z => match fieldsOk P fs.toList, fillC (placeF P fs) s parts.toList (cellsV z) with
     | true, some cs => forceA (mkAgg cs) K
     | _, _ => False
    | none => False
   | none => False
  | _ => ReadW P o s H K
 | .binOp op T x y _ => match opv s x, opv s y with
  | .c (.v (.string a)), .c (.v (.string b)) => strBin op a b K
  | .c (.v (.agg a)), .c (.v (.agg b)) => aggBin P op T a b K
  | .c (.v (.int j a)), .c (.v (.int k b)) => match isDiv op y with
   | false => genK P o s K
   | true => match sameKind j k with
    | true => divK op j a b K
    | false => False
  | .c (.lp ..), _ => ReadW P o s H K
  | _, .c (.lp ..) => ReadW P o s H K
  | _, _ => genK P o s K
 | _ => genK P o s K
theorem read_sound {P : Program} {o : Oper} {s : List AV} {H : List Ent} {K : AV → Prop} (h : readK P o s H K) : ∃ av, K av ∧ Reads P o s H av := by
 unfold readK at h
 split at h
 ·rename_i x ho
  rw [forceA_eq] at h
  exact reads_same (x := x) (fun ev => by unfold execOp; rw [ho]) h
 ·rename_i x ho
  have hk : K (opv s x) := by
   unfold asgK at h
   split at h
   ·rw [forceA_eq] at h; exact h
   ·split at h
    ·rename_i hx
     obtain ⟨h⟩ := h
     rw [hx]; exact h
    ·rw [forceA_eq] at h; exact h
  exact reads_same (x := x) (fun ev => by unfold execOp; rw [ho]) hk
 ·rename_i c a b ho
  split at h
  ·rename_i t hc
   rw [forceA_eq, forceA_eq] at h
   cases t with
   | true =>
    refine ⟨_, h, fun ρ S w ac _ hr => ⟨ac.eval a, ?_, opv_rel hr a⟩⟩
    have hcr := opv_rel hr c
    rw [hc] at hcr
    have e : ac.eval c = .bool true := hcr
    unfold execOp
    simp [ho, e, asBool]
   | false =>
    refine ⟨_, h, fun ρ S w ac _ hr => ⟨ac.eval b, ?_, opv_rel hr b⟩⟩
    have hcr := opv_rel hr c
    rw [hc] at hcr
    have e : ac.eval c = .bool false := hcr
    unfold execOp
    simp [ho, e, asBool]
  ·exact h.elim
 ·rename_i T x ho
  split at h
  ·rename_i i off hx
   exact loadL_sound ho hx h
  ·rename_i a hx
   obtain ⟨y, hok, h⟩ := h
   rw [forceV_eq] at h
   refine ⟨_, h, fun ρ S w ac hs hr => ⟨y, ?_, rfl⟩⟩
   have hxr := opv_rel hr x
   rw [hx] at hxr
   exact execOp_load ho hxr (hok w hs.facts)
  ·exact h.elim
 ·rename_i T x f ho
  have fin : ∀ (p : Addr) (fo : Nat) (w : World) (ev : Operand → Value), ev x = .pointer (some p) → fieldOff P T f = some fo → (execOp ev o).run P w = .ok (.value (.pointer (some (p.add fo)))) w := fun p fo w ev hx hfo => by
   unfold execOp
   simp only [ho, hx, Sem.run_bind, fieldOff_spec hfo w p, Result.andThen_ok, Sem.run_pure]
  split at h
  ·rename_i i off hx
   split at h
   ·rename_i fo hfo
    rw [forceN_eq] at h
    refine ⟨_, h, fun ρ S w ac hs hr => ?_⟩
    have hxr := opv_rel hr x
    rw [hx] at hxr
    obtain ⟨l, hl, he⟩ := hxr
    exact ⟨_, fin _ _ w _ he hfo, l, hl, by rw [add_lit]⟩
   ·exact h.elim
  ·rename_i a hx
   split at h
   ·rename_i fo hfo
    rw [forceN_eq] at h
    refine ⟨_, h, fun ρ S w ac hs hr => ?_⟩
    have hxr := opv_rel hr x
    rw [hx] at hxr
    exact ⟨_, fin _ _ w _ hxr hfo, rfl⟩
   ·exact h.elim
  ·exact h.elim
 ·rename_i T x i ho
  split at h
  ·rename_i j n kk k hx hi
   split at h
   ·rename_i e hu
    split at h
    ·rename_i inf hinf
     obtain ⟨hb, h⟩ := h
     refine ⟨_, h, fun ρ S w ac hs hr => ?_⟩
     have hxr := opv_rel hr x
     have hir := opv_rel hr i
     rw [hx] at hxr; rw [hi] at hir
     obtain ⟨l, hl, he⟩ := hxr
     have hi2 : ac.eval i = .int kk k := hir
     refine ⟨_, execOp_indexAddr ho (by rw [he, hi2]; exact run_indexAt hu hinf w _ n l.cap kk k hb), l, hl, by rw [add_lit]; simp⟩
    ·exact h.elim
   ·exact h.elim
  ·rename_i a n cap kk k hx hi
   split at h
   ·rename_i e hu
    split at h
    ·rename_i inf hinf
     obtain ⟨hb, h⟩ := h
     refine ⟨_, h, fun ρ S w ac hs hr => ?_⟩
     have hxr := opv_rel hr x
     have hir := opv_rel hr i
     rw [hx] at hxr; rw [hi] at hir
     have hx2 : ac.eval x = .slice a n cap := hxr
     have hi2 : ac.eval i = .int kk k := hir
     cases a with
     | none => exact absurd hb.1 (by simp)
     | some p => exact ⟨_, execOp_indexAddr ho (by rw [hx2, hi2]; exact run_indexAt hu hinf w p n cap kk k hb.2), rfl⟩
    ·exact h.elim
   ·exact h.elim
  ·rename_i j off kk k hx hi
   split at h
   ·rename_i n e hu
    split at h
    ·rename_i inf hinf
     obtain ⟨hb, h⟩ := h
     refine ⟨_, h, fun ρ S w ac hs hr => ?_⟩
     have hxr := opv_rel hr x
     have hir := opv_rel hr i
     rw [hx] at hxr; rw [hi] at hir
     obtain ⟨l, hl, he⟩ := hxr
     have hi2 : ac.eval i = .int kk k := hir
     refine ⟨_, execOp_indexAddr ho (by rw [he, hi2]; exact run_indexAt_array hu hinf w _ kk k hb), l, hl, by rw [add_lit]⟩
    ·exact h.elim
   ·exact h.elim
  ·rename_i a kk k hx hi
   split at h
   ·rename_i n e hu
    split at h
    ·rename_i inf hinf
     obtain ⟨hb, h⟩ := h
     refine ⟨_, h, fun ρ S w ac hs hr => ?_⟩
     have hxr := opv_rel hr x
     have hir := opv_rel hr i
     rw [hx] at hxr; rw [hi] at hir
     have hx2 : ac.eval x = .pointer (some a) := hxr
     have hi2 : ac.eval i = .int kk k := hir
     exact ⟨_, execOp_indexAddr ho (by rw [hx2, hi2]; exact run_indexAt_array hu hinf w _ kk k hb), rfl⟩
    ·exact h.elim
   ·exact h.elim
  ·exact h.elim
 ·rename_i T x i ho
  split at h
  ·rename_i b kk n hx hi
   split at h
   ·rename_i hu
    obtain ⟨hb, h⟩ := h
    refine ⟨_, h, fun ρ S w ac hs hr => ⟨_, ?_, rfl⟩⟩
    have hxr := opv_rel hr x
    have hir := opv_rel hr i
    rw [hx] at hxr; rw [hi] at hir
    have hx2 : ac.eval x = .string b := hxr
    have hi2 : ac.eval i = .int kk n := hir
    unfold execOp
    simp only [ho, hx2, hi2, Sem.run_bind, run_index_string w b kk n hu hb, Result.andThen_ok, Sem.run_pure]
   ·exact h.elim
  ·exact gen_sound h
 ·exact h
 ·exact h
 ·split at h
  ·exact h
  ·exact h
  ·exact h
  ·exact h
  ·exact gen_sound h
 ·rename_i b args ts ho
  split at h <;> first | exact bltK_sound ho h | exact h | (split at h <;> first | exact h | exact bltK_sound ho h)
 ·rename_i x ho
  split at h
  ·rename_i i off hx
   refine ⟨_, h, fun ρ S w ac _ hr => ?_⟩
   have hxr := opv_rel hr x
   rw [hx] at hxr
   obtain ⟨l, hl, he⟩ := hxr
   refine ⟨_, ?_, l, hl, rfl⟩
   unfold execOp
   simp [ho, he]
  ·exact gen_sound h
 ·rename_i T parts ho
  split at h
  ·rename_i fs hu
   split at h
   ·rename_i inf hi
    split at h
    ·rename_i z hz
     split at h
     ·rename_i cs hok hf
      rw [forceA_eq] at h
      exact ⟨_, h, build_sound ho hu hi hz hok hf⟩
     ·exact h.elim
    ·exact h.elim
   ·exact h.elim
  ·exact h
 ·rename_i op T x y U ho
  split at h
  ·rename_i a b hx hy
   exact strBin_sound ho hx hy h
  ·rename_i a b hx hy
   exact aggBin_sound ho hx hy h
  ·rename_i j a k b hx hy
   split at h
   ·exact gen_sound h
   ·split at h
    ·rename_i hjk
     exact divK_sound ho hx hy hjk h
    ·exact h.elim
  ·exact h
  ·exact h
  ·exact gen_sound h
 ·exact gen_sound h
theorem snocK_eq : ∀ (H : List Ent) (e : Ent) (n : Nat) (K : List Ent → Nat → Prop), snocK H e n K = K (H ++ [e]) (n + H.length)
 | [], e, n, K => by simp [snocK]
 | x :: H, e, n, K => by simp only [snocK, snocK_eq H, List.cons_append, List.length_cons]; rw [show n + 1 + H.length = n + (H.length + 1) by omega]
theorem setEK_spec : ∀ {H : List Ent} {i : Nat} {e : Ent} {K : List Ent → Prop}, setEK H i e K → i < H.length ∧ K (H.set i e)
 | [], _, _, _, h => h.elim
 | _ :: _, 0, _, _, h => ⟨by simp, h⟩
 | _ :: H, i + 1, e, K, h => by
  have := setEK_spec (H := H) (i := i) h
  exact ⟨by simp [this.1], by simpa using this.2⟩
def EffAt (P : Program) (o : Oper) (H : List Ent) (av : AV) (H' : List Ent) (ρ : List Loc) (S : Nat → Prop) (w : World) (a : Act) : Prop :=
 ∃ r v ρ' w', (execOp a.eval o).run P w = .ok r w' ∧ (r = .value v ∨ r = .skip ∧ v = undef) ∧ Sat ρ' S H' w' ∧ Ev ρ S H w ρ' S H' w' ∧ av.rel ρ' v
def Effs (P : Program) (o : Oper) (s : List AV) (H : List Ent) (av : AV) (H' : List Ent) : Prop :=
 ∀ (ρ : List Loc) (S : Nat → Prop) (w : World) (a : Act), Sat ρ S H w → RelS ρ s a.tmps.toList → EffAt P o H av H' ρ S w a
def EffW (P : Program) (o : Oper) (s : List AV) (H : List Ent) (K : AV → List Ent → Prop) : Prop :=
 ∀ (ρ : List Loc) (S : Nat → Prop) (w : World) (a : Act), Sat ρ S H w → RelS ρ s a.tmps.toList → ∃ av H', K av H' ∧ EffAt P o H av H' ρ S w a
theorem Effs.w {P : Program} {o : Oper} {s : List AV} {H : List Ent} {av : AV} {H' : List Ent} {K : AV → List Ent → Prop} (h : Effs P o s H av H') (hk : K av H') : EffW P o s H K :=
 fun ρ S w a hs hr => ⟨av, H', hk, h ρ S w a hs hr⟩
def effK (P : Program) (o : Oper) (s : List AV) (H : List Ent) (K : AV → List Ent → Prop) : Prop :=
 match o.op with
 | .alloc T => match P.info? T with
  | some i => match i.zero with
   | some z => BoxN T (cellsV z) H K
   | none => False
  | none => False
 | .box T x => match avCells (opv s x) with
  | some cs => BoxN T cs H K
  | none => False
 | .store T a x => match opv s a with
  | .c (.lp i off) => match P.info? T, avCells (opv s x), nthE H i with
   | some inf, some xs, some (.blk T' cs) => match oneCs xs, Nat.beq xs.length inf.size, putC cs off xs with
     | true, true, some cs' => setEK H i (.blk T' cs') fun H' => K (.c .any) H'
     | _, _, _ => False
   | some inf, some xs, some (.row T' sz n cs) => match oneCs xs, Nat.beq xs.length inf.size with
     | true, true => Nd (off + xs.length ≤ cs.length) (setEK H i (.row T' sz n (cs.take off ++ xs ++ cs.drop (off + xs.length))) fun H' => K (.c .any) H')
     | _, _ => False
   | _, _, _ => False
  | .c (.v (.pointer (some _))) => EffW P o s H K
  | _ => False
 | .buildSlice T len parts => match P.underlying T with
  | some (.slice e) => match P.info? e with
   | some inf => match inf.zero with
    | some _ => match Nat.ble (len + len * inf.size) 10000, fillC (fun i => some (i * inf.size, inf.size)) s parts.toList (anys (len * inf.size)) with
     | true, some cs => RwN e inf.size len cs H K
     | _, _ => False
    | none => False
   | none => False
  | _ => False
 | .call { callee := .builtin .append, args := args, argTypes := ts } => match ts.toList, opvs s args.toList with
  | [T, U], [x, y] => match Nat.beq T U with | true => appendK P T H x y K | false => EffW P o s H K
  | _, _ => False
 | _ => EffW P o s H K
theorem Imm.move {S : Nat → Prop} {w w' : World} {F : World → Prop} (h : Imm S w F) (hS : ∀ b, S b → w'.heap[b]? = w.heap[b]?) : Imm S w' F :=
 ⟨h.2 w' hS, fun w'' h2 => h.2 w'' fun b hb => (h2 b hb).trans (hS b hb)⟩
theorem RowF.move {T : TypeId} {sz n : Nat} {xs : List Value} {b cap : Nat} {w w' : World} (h : RowF T sz n xs b cap w) (hb : w'.heap[b]? = w.heap[b]?) : RowF T sz n xs b cap w' := by
 obtain ⟨arr, fr, ⟨h1, h3⟩, h2⟩ := h
 exact ⟨arr, fr, ⟨hb.trans h1, h3⟩, h2⟩
theorem EntOk.move {ρ : List Loc} {S : Nat → Prop} {w w' : World} {i : Nat} {e : Ent} (t : List Loc) (h : EntOk ρ S w i e)
  (hk : ∀ b, entB ρ i e b → w'.heap[b]? = w.heap[b]?) (hS : ∀ b, S b → w'.heap[b]? = w.heap[b]?) : EntOk (ρ ++ t) S w' i e := by
 cases e with
 | blk T cs =>
  obtain ⟨l, arr, hl, hb, hr⟩ := h
  exact ⟨l, arr, get_pre t hl, by rw [hk l.b (entB_own rfl hl)]; exact hb, RelL_pre t hr⟩
 | row T sz n cs =>
  obtain ⟨l, arr, hl, hb, h1, h2, h3, h4, hr⟩ := h
  exact ⟨l, arr, get_pre t hl, by rw [hk l.b (entB_own rfl hl)]; exact hb, h1, h2, h3, h4, RelL_pre t hr⟩
 | fact F => exact Imm.move h hS
 | fz T sz n xs b cap => exact ⟨get_pre t h.1, Imm.move h.2 hS⟩
 | app T sz xs a n cap =>
  rcases h with h | ⟨b, rfl, h⟩
  ·exact .inl h
  ·exact .inr ⟨b, rfl, h.move (hk b rfl)⟩
 | mp b es c => exact (hk b rfl).trans h
 | fam B F =>
  refine ⟨Imm.move h.1 hk, fun b hb => ?_⟩
  have h1 := hk b hb
  rw [Array.getElem?_eq_getElem (h.2 b hb)] at h1
  exact (Array.getElem?_eq_some_iff.1 h1).1
 | dead => trivial
theorem entB_pre {ρ : List Loc} {i : Nat} {e : Ent} (t : List Loc) (hi : i < ρ.length) : entB (ρ ++ t) i e = entB ρ i e := by
 cases e <;> simp [entB, List.getElem?_append_left hi]
theorem Sat.blk_lt {ρ : List Loc} {S : Nat → Prop} {H : List Ent} {w : World} (h : Sat ρ S H w) {i : Nat} {e : Ent} {b : Nat} (he : H[i]? = some e) (hb : entB ρ i e b) : b < w.heap.size := by
 have hk := h.ent i e he
 have key : ∀ (l : Loc) (arr : Array Value) (T : TypeId), ρ[i]? = some l → e.own = true → w.heap[l.b]? = some (.cells arr T (0, 0)) → b < w.heap.size := fun l arr T h1 h0 h2 => by
  have h9 : b = l.b := by cases e <;> first | (cases h0; done) | (have hb : (ρ[i]?).map Loc.b = some b := hb; rw [h1] at hb; exact (Option.some.inj hb).symm)
  subst h9
  exact (Array.getElem?_eq_some_iff.1 h2).1
 cases e with
 | blk T cs => obtain ⟨l', arr, h1, h2, _⟩ := hk; exact key l' arr _ h1 rfl h2
 | row T sz n cs => obtain ⟨l', arr, h1, h2, _⟩ := hk; exact key l' arr _ h1 rfl h2
 | fact F => cases hb
 | fz => cases hb
 | app T sz xs a n cap =>
  rcases hk with ⟨rfl, _⟩ | ⟨b', rfl, arr, fr, ⟨h2, _⟩, _⟩
  ·cases hb
  ·obtain rfl := Option.some.inj hb
   exact (Array.getElem?_eq_some_iff.1 h2).1
 | mp b' es c =>
  obtain rfl := Option.some.inj hb
  exact (Array.getElem?_eq_some_iff.1 hk).1
 | fam B F => exact hk.2 b hb
 | dead => exact hb.elim
theorem Sat.snocG {ρ : List Loc} {S : Nat → Prop} {H : List Ent} {w w' : World} {e : Ent} {l : Loc} {ob : Obj} (h : Sat ρ S H w) (hl : ∀ b, entB (ρ ++ [l]) H.length e b → b = w.heap.size)
  (hh : w'.heap = w.heap.push ob) (ho : w'.os = w.os) (ht : w'.tape = w.tape) (hu : w'.output = w.output) (he : EntOk (ρ ++ [l]) S w' H.length e) :
  Sat (ρ ++ [l]) S (H ++ [e]) w' ∧ Ev ρ S H w (ρ ++ [l]) S (H ++ [e]) w' := by
 have hold : ∀ k, k < w.heap.size → w'.heap[k]? = w.heap[k]? := fun k hk => by rw [hh, Array.getElem?_push, if_neg (by omega)]
 have hsz : w.heap.size < w'.heap.size := by rw [hh]; simp
 have hcase : ∀ (i : Nat) (f : Ent) (b : Nat), (H ++ [e])[i]? = some f → entB (ρ ++ [l]) i f b → (i < H.length ∧ H[i]? = some f ∧ entB ρ i f b) ∨ (i = H.length ∧ b = w.heap.size) := by
  intro i f b hf hfb
  by_cases hi : i < H.length
  ·rw [List.getElem?_append_left hi] at hf
   rw [entB_pre _ (by rw [h.len]; exact hi)] at hfb
   exact .inl ⟨hi, hf, hfb⟩
  ·have hi2 : i = H.length := by
    have := (List.getElem?_eq_some_iff.1 hf).1
    simp at this; omega
   subst hi2
   simp at hf
   subst hf
   exact .inr ⟨rfl, hl b hfb⟩
 have hmb : ∀ b, mb (ρ ++ [l]) (H ++ [e]) b → mb ρ H b ∨ b = w.heap.size := by
  rintro b ⟨i, f, hf, hfb⟩
  rcases hcase i f b hf hfb with ⟨_, h1, h2⟩ | ⟨_, h2⟩
  ·exact .inl ⟨i, f, h1, h2⟩
  ·exact .inr h2
 refine ⟨⟨by simp [h.len], ?_, ?_, ?_, ?_⟩, ⟨⟨[l], rfl⟩, ho, ht, hu, by omega, fun b hb _ => hold b hb, fun b hb => .inl hb, fun b hb => ?_⟩⟩
 ·intro i f hf
  by_cases hi : i < H.length
  ·rw [List.getElem?_append_left hi] at hf
   exact (h.ent i f hf).move [l] (fun b hb => hold _ (h.blk_lt hf hb)) fun b hb => hold b (h.low b hb)
  ·have hi2 : i = H.length := by
    have := (List.getElem?_eq_some_iff.1 hf).1
    simp at this; omega
   subst hi2
   simp at hf
   subst hf
   exact he
 ·intro i j f g b hf hg hfb hgb
  rcases hcase i f b hf hfb with ⟨_, a1, a2⟩ | ⟨a1, a2⟩ <;> rcases hcase j g b hg hgb with ⟨_, b1, b2⟩ | ⟨b1, b2⟩
  ·exact h.inj i j f g b a1 b1 a2 b2
  ·have := h.blk_lt a1 a2; omega
  ·have := h.blk_lt b1 b2; omega
  ·omega
 ·intro b hb hSb
  rcases hmb b hb with h1 | h1
  ·exact h.out b h1 hSb
  ·have := h.low b hSb; omega
 ·intro b hb
  have := h.low b hb; omega
 ·rcases hmb b hb with h1 | h1
  ·exact .inl h1
  ·exact .inr (by omega)
theorem Sat.snoc {ρ : List Loc} {S : Nat → Prop} {H : List Ent} {w w' : World} {e : Ent} {l : Loc} {ob : Obj} (h : Sat ρ S H w) (hl : l.b = w.heap.size)
  (hh : w'.heap = w.heap.push ob) (ho : w'.os = w.os) (ht : w'.tape = w.tape) (hu : w'.output = w.output) (he : EntOk (ρ ++ [l]) S w' H.length e) (hna : e.isApp = false := by rfl) :
  Sat (ρ ++ [l]) S (H ++ [e]) w' ∧ Ev ρ S H w (ρ ++ [l]) S (H ++ [e]) w' := by
 refine h.snocG (fun b hb => ?_) hh ho ht hu he
 exact (entB_le hna (l := l) (by rw [← h.len]; simp) hb).trans hl
theorem Sat.setG {ρ : List Loc} {S : Nat → Prop} {H : List Ent} {w w' : World} {i : Nat} {e e' : Ent} {c : Nat} (h : Sat ρ S H w) (hi : H[i]? = some e) (hc : entB ρ i e c)
  (hsz : w.heap.size ≤ w'.heap.size) (hk : ∀ k, k < w.heap.size → k ≠ c → w'.heap[k]? = w.heap[k]?) (hos : w'.os = w.os) (ht : w'.tape = w.tape) (hu : w'.output = w.output)
  (hb' : ∀ b, entB ρ i e' b → b = c ∨ w.heap.size ≤ b) (he : EntOk ρ S w' i e') : Sat ρ S (H.set i e') w' ∧ Ev ρ S H w ρ S (H.set i e') w' := by
 have hilt : i < H.length := (List.getElem?_eq_some_iff.1 hi).1
 have hcl := h.blk_lt hi hc
 have hcase : ∀ (j : Nat) (f : Ent) (b : Nat), (H.set i e')[j]? = some f → entB ρ j f b → (j ≠ i ∧ H[j]? = some f) ∨ (j = i ∧ (b = c ∨ w.heap.size ≤ b)) := by
  intro j f b hf hfb
  by_cases hj : i = j
  ·subst hj
   simp [hilt] at hf
   subst hf
   exact .inr ⟨rfl, hb' b hfb⟩
  ·rw [List.getElem?_set_ne hj] at hf
   exact .inl ⟨Ne.symm hj, hf⟩
 have hSl : ∀ b, S b → b ≠ c := fun b hb e' => h.out c ⟨i, e, hi, hc⟩ (e' ▸ hb)
 refine ⟨⟨by simp [h.len], ?_, ?_, ?_, ?_⟩, ⟨⟨[], by simp⟩, hos, ht, hu, hsz, fun b hb hn => hk b hb (fun e2 => hn (e2 ▸ ⟨i, e, hi, hc⟩)), fun b hb => .inl hb, fun b hb => ?_⟩⟩
 ·intro j f hf
  by_cases hj : i = j
  ·subst hj
   simp [hilt] at hf
   subst hf
   exact he
  ·rw [List.getElem?_set_ne hj] at hf
   have := (h.ent j f hf).move (w' := w') [] (fun b hb => hk _ (h.blk_lt hf hb) fun e2 => hj (h.inj i j e f c hi hf hc (e2 ▸ hb))) fun b hb => hk b (h.low b hb) (hSl b hb)
   simpa using this
 ·intro j k f g b hf hg hfb hgb
  rcases hcase j f b hf hfb with ⟨a1, a2⟩ | ⟨a1, a2⟩ <;> rcases hcase k g b hg hgb with ⟨b1, b2⟩ | ⟨b1, b2⟩
  ·exact h.inj j k f g b a2 b2 hfb hgb
  ·rcases b2 with b2 | b2
   ·exact absurd (h.inj j i f e b a2 hi hfb (b2 ▸ hc)) a1
   ·have := h.blk_lt a2 hfb; omega
  ·rcases a2 with a2 | a2
   ·exact absurd (h.inj k i g e b b2 hi hgb (a2 ▸ hc)) b1
   ·have := h.blk_lt b2 hgb; omega
  ·omega
 ·rintro b ⟨j, f, hf, hfb⟩ hSb
  rcases hcase j f b hf hfb with ⟨_, a2⟩ | ⟨_, a2 | a2⟩
  ·exact h.out b ⟨j, f, a2, hfb⟩ hSb
  ·exact hSl b hSb a2
  ·have := h.low b hSb; omega
 ·intro b hb; exact Nat.lt_of_lt_of_le (h.low b hb) hsz
 ·obtain ⟨j, f, hf, hfb⟩ := hb
  rcases hcase j f b hf hfb with ⟨_, a2⟩ | ⟨_, a2 | a2⟩
  ·exact .inl ⟨j, f, a2, hfb⟩
  ·exact .inl ⟨i, e, hi, a2 ▸ hc⟩
  ·exact .inr a2
theorem Sat.setNil {ρ : List Loc} {S : Nat → Prop} {H : List Ent} {w w' : World} {i : Nat} {e e' : Ent} {ob : Obj} (h : Sat ρ S H w) (hi : H[i]? = some e) (_ : ∀ b, ¬ entB ρ i e b)
  (hh : w'.heap = w.heap.push ob) (hos : w'.os = w.os) (ht : w'.tape = w.tape) (hu : w'.output = w.output)
  (hb' : ∀ b, entB ρ i e' b → b = w.heap.size) (he : EntOk ρ S w' i e') : Sat ρ S (H.set i e') w' ∧ Ev ρ S H w ρ S (H.set i e') w' := by
 have hold : ∀ k, k < w.heap.size → w'.heap[k]? = w.heap[k]? := fun k hk => by rw [hh, Array.getElem?_push, if_neg (by omega)]
 have hsz : w.heap.size < w'.heap.size := by rw [hh]; simp
 have hilt : i < H.length := (List.getElem?_eq_some_iff.1 hi).1
 have hcase : ∀ (j : Nat) (f : Ent) (b : Nat), (H.set i e')[j]? = some f → entB ρ j f b → (j ≠ i ∧ H[j]? = some f) ∨ (j = i ∧ b = w.heap.size) := by
  intro j f b hf hfb
  by_cases hj : i = j
  ·subst hj
   simp [hilt] at hf
   subst hf
   exact .inr ⟨rfl, hb' b hfb⟩
  ·rw [List.getElem?_set_ne hj] at hf
   exact .inl ⟨Ne.symm hj, hf⟩
 refine ⟨⟨by simp [h.len], ?_, ?_, ?_, ?_⟩, ⟨⟨[], by simp⟩, hos, ht, hu, by omega, fun b hb hn => hold b hb, fun b hb => .inl hb, fun b hb => ?_⟩⟩
 ·intro j f hf
  by_cases hj : i = j
  ·subst hj
   simp [hilt] at hf
   subst hf
   exact he
  ·rw [List.getElem?_set_ne hj] at hf
   have := (h.ent j f hf).move (w' := w') [] (fun b hb => hold _ (h.blk_lt hf hb)) fun b hb => hold b (h.low b hb)
   simpa using this
 ·intro j k f g b hf hg hfb hgb
  rcases hcase j f b hf hfb with ⟨a1, a2⟩ | ⟨a1, a2⟩ <;> rcases hcase k g b hg hgb with ⟨b1, b2⟩ | ⟨b1, b2⟩
  ·exact h.inj j k f g b a2 b2 hfb hgb
  ·have := h.blk_lt a2 hfb; omega
  ·have := h.blk_lt b2 hgb; omega
  ·omega
 ·rintro b ⟨j, f, hf, hfb⟩ hSb
  rcases hcase j f b hf hfb with ⟨_, a2⟩ | ⟨_, a2⟩
  ·exact h.out b ⟨j, f, a2, hfb⟩ hSb
  ·have := h.low b hSb; omega
 ·intro b hb; have := h.low b hb; omega
 ·obtain ⟨j, f, hf, hfb⟩ := hb
  rcases hcase j f b hf hfb with ⟨_, a2⟩ | ⟨_, a2⟩
  ·exact .inl ⟨j, f, a2, hfb⟩
  ·exact .inr (by omega)
theorem Sat.setE {ρ : List Loc} {S : Nat → Prop} {H : List Ent} {w w' : World} {i : Nat} {e e' : Ent} {l : Loc} (h : Sat ρ S H w) (hi : H[i]? = some e) (ho : e.own = true) (hl : ρ[i]? = some l)
  (hsz : w'.heap.size = w.heap.size) (hk : ∀ k, k ≠ l.b → w'.heap[k]? = w.heap[k]?) (hos : w'.os = w.os) (ht : w'.tape = w.tape) (hu : w'.output = w.output)
  (he : EntOk ρ S w' i e') (hna : e'.isApp = false := by rfl) : Sat ρ S (H.set i e') w' ∧ Ev ρ S H w ρ S (H.set i e') w' := by
 refine h.setG hi (entB_own ho hl) (Nat.le_of_eq hsz.symm) (fun k _ hne => hk k hne) hos ht hu (fun b hb => .inl (entB_le hna hl hb)) he
theorem oneV_eq (v : Value) : oneV v = v.oneCell' := by cases v <;> rfl
theorem oneC_rel {ρ : List Loc} {c : CV} {v : Value} (h : oneC c = true) (hr : c.rel ρ v) : v.oneCell' = true := by
 cases c with
 | any => cases h
 | v x => have : v = x := hr; subst this; rw [← oneV_eq]; exact h
 | lp i off => obtain ⟨l, _, rfl⟩ := hr; rfl
 | sl i n => obtain ⟨l, _, rfl⟩ := hr; rfl
theorem oneCs_rel {ρ : List Loc} : ∀ {cs : List CV} {xs : List Value}, oneCs cs = true → RelL ρ cs xs → ∀ v ∈ xs, v.oneCell' = true
 | [], [], _, _, v, hv => by cases hv
 | c :: cs, x :: xs, h, r, v, hv => by
  simp only [oneCs] at h
  split at h
  ·rename_i hc
   cases hv with
   | head => exact oneC_rel hc r.1
   | tail _ hv => exact oneCs_rel h r.2 v hv
  ·cases h
 | [], _ :: _, _, r, _, _ => r.elim
 | _ :: _, [], _, r, _, _ => r.elim
theorem setRow_facts (w : World) (g : Nat) (cs : Array Value) : (w.setRow g cs).heap.size = w.heap.size ∧ (∀ k, k ≠ g → (w.setRow g cs).heap[k]? = w.heap[k]?) ∧ (w.setRow g cs).os = w.os ∧ (w.setRow g cs).tape = w.tape ∧ (w.setRow g cs).output = w.output :=
 ⟨size_setRow w g cs, fun k hk => setRow_other w g k cs hk, rfl, rfl, rfl⟩
theorem run_storeCells_no (P : Program) (g o : Nat) (t : TypeId) (fr : Nat × Nat) : ∀ (vs : List Value) (i : Nat) (cur : Array Value) (w : World), w.heap[g]? = some (.cells cur t fr) → NoFr fr cur.size → o + i + vs.length ≤ cur.size → (∀ v ∈ vs, v.oneCell' = true) →
  (storeCells ⟨g, o, none⟩ vs i).run P w = .ok () (w.setRow g (cur.toList.take (o + i) ++ vs ++ cur.toList.drop (o + i + vs.length)).toArray)
 | [], i, cur, w, hg, _, _, _ => by
  simp only [storeCells, List.append_nil, List.length_nil, Nat.add_zero, List.take_append_drop, Array.toArray_toList]
  rw [setRow_self w g cur t fr hg]
  rfl
 | v :: rest, i, cur, w, hg, hfr, hl, h1 => by
  have hi : o + i < cur.size := by simp at hl; omega
  have hcell : w.cell? ⟨g, o + i, none⟩ = some cur[o + i] := by simp [World.cell?, hg, hi]
  have hno : w.frozen? ⟨g, o + i, none⟩ = false := by
   obtain ⟨lo, hi'⟩ := fr
   simp only [World.frozen?, hg, Bool.and_eq_false_iff, decide_eq_false_iff_not]
   rcases hfr with h | h
   ·cases h; right; omega
   ·left; simp only at h; omega
  have hst : (store ((⟨g, o, none⟩ : Addr).add i) v).run P w = .ok () (w.setRow g (cur.setIfInBounds (o + i) v)) := by
   rw [add_lit, run_store P w _ v _ (h1 v (by simp)), hcell]
   simp [hno, setCell_eq_setRow w g (o + i) cur t fr v hg]
  have ih := run_storeCells_no P g o t fr rest (i + 1) (cur.setIfInBounds (o + i) v) (w.setRow g (cur.setIfInBounds (o + i) v)) (setRow_heap w g cur _ t _ hg) (by simpa using hfr) (by simp at hl ⊢; omega) (fun x hx => h1 x (by simp [hx]))
  simp only [storeCells, Sem.run_bind, hst, Result.andThen_ok, ih, setRow_setRow]
  congr 3
  have e := list_seg_step cur.toList (o + i) v rest (by simp at hl ⊢; omega)
  simpa [Array.toList_setIfInBounds, Nat.add_assoc] using e
theorem run_storeVar {P : Program} {T : TypeId} {w : World} {b off : Nat} {arr : Array Value} {E : TypeId} {v : Value} {fr : Nat × Nat} (hb : w.heap[b]? = some (.cells arr E fr)) (hfr : NoFr fr arr.size)
  {inf : TypeInfo} (hi : P.info? T = some inf) (hsz : v.cells.size = inf.size) (hfit : off + v.cells.toList.length ≤ arr.size) (hone : ∀ u ∈ v.cells.toList, u.oneCell' = true) :
  (storeVar T ⟨b, off, none⟩ v).run P w = .ok () (w.setRow b (arr.toList.take off ++ v.cells.toList ++ arr.toList.drop (off + v.cells.toList.length)).toArray) := by
 have h1 := run_storeCells_no P b off E fr v.cells.toList 0 arr w hb hfr (by simpa using hfit) hone
 simp only [Nat.add_zero] at h1
 unfold storeVar
 simp only [sizeOf, typeInfo, Sem.run_bind, run_program, Result.andThen_ok, hi, Sem.run_pure, hsz, ne_eq, not_true_eq_false, if_false]
 exact h1
theorem store_sound {P : Program} {o : Oper} {s : List AV} {H : List Ent} {T : TypeId} {x y : Operand} {i off : Nat} {e e' : Ent} {xs : List CV} {inf : TypeInfo} (ho : o.op = .store T x y)
  (hx : opv s x = .c (.lp i off)) (hy : avCells (opv s y) = some xs) (he : H[i]? = some e) (heo : e.own = true) (hi : P.info? T = some inf) (hone : oneCs xs = true) (hlen : xs.length = inf.size)
  (hput : ∀ (ρ : List Loc) (S : Nat → Prop) (w : World) (l : Loc) (ys : List Value), ρ[i]? = some l → EntOk ρ S w i e → RelL ρ xs ys → ∃ arr E, w.heap[l.b]? = some (.cells arr E (0, 0)) ∧ off + ys.length ≤ arr.size ∧
   ∀ w', w'.heap[l.b]? = some (.cells (arr.toList.take off ++ ys ++ arr.toList.drop (off + ys.length)).toArray E (0, 0)) → EntOk ρ S w' i e') (hna : e'.isApp = false := by rfl) :
  Effs P o s H (.c .any) (H.set i e') := by
 intro ρ S w a hs hr
 have hxr := opv_rel hr x
 rw [hx] at hxr
 obtain ⟨l, hl, hxe⟩ := hxr
 have hyr := avCells_rel hy (opv_rel hr y)
 obtain ⟨arr, E, hb, hfit, hnew⟩ := hput ρ S w l _ hl (hs.ent i e he) hyr
 have hsz : (a.eval y).cells.size = inf.size := by rw [← hlen, RelL_len hyr]; simp
 have hrun := run_storeVar (P := P) hb (.inl rfl) hi hsz hfit (oneCs_rel hone hyr)
 obtain ⟨f1, f2, f3, f4, f5⟩ := setRow_facts w l.b (arr.toList.take off ++ (a.eval y).cells.toList ++ arr.toList.drop (off + (a.eval y).cells.toList.length)).toArray
 have hS := hs.setE he heo hl f1 f2 f3 f4 f5 (hnew _ (setRow_heap w l.b arr _ E _ hb)) hna
 refine ⟨.skip, undef, ρ, _, ?_, .inr ⟨rfl, rfl⟩, hS.1, hS.2, trivial⟩
 unfold execOp
 simp only [ho, hxe, Instr.storeAt, Instr.sureAddr, Sem.run_bind, Sem.run_pure, Result.andThen_ok, hrun]
theorem new_sound {P : Program} {o : Oper} {s : List AV} {H : List Ent} {T : TypeId} {cs : List CV}
  (h : ∀ (ρ : List Loc) (w : World) (a : Act), RelS ρ s a.tmps.toList → ∃ arr : Array Value, RelL ρ cs arr.toList ∧ (execOp a.eval o).run P w = .ok (.value (.pointer (some ⟨w.heap.size, 0, none⟩))) (w.alloc (.cells arr T))) :
  Effs P o s H (.c (.lp H.length 0)) (H ++ [.blk T cs]) := by
 intro ρ S w a hs hr
 obtain ⟨arr, hrel, hrun⟩ := h ρ w a hr
 have hS := hs.snoc (e := .blk T cs) (l := ⟨w.heap.size, 0⟩) (w' := w.alloc (.cells arr T)) (ob := .cells arr T) rfl rfl rfl rfl rfl
  ⟨⟨w.heap.size, 0⟩, arr, by rw [← hs.len]; simp, heap_alloc_new w _, RelL_pre _ hrel⟩
 exact ⟨_, _, _, _, hrun, .inl rfl, hS.1, hS.2, ⟨⟨w.heap.size, 0⟩, by rw [← hs.len]; simp, rfl⟩⟩
theorem anys_len : ∀ n, (anys n).length = n
 | 0 => rfl
 | n + 1 => by simp [anys, anys_len n]
theorem anys_rel (ρ : List Loc) : ∀ (n : Nat) (xs : List Value), xs.length = n → RelL ρ (anys n) xs
 | 0, [], _ => trivial
 | n + 1, x :: xs, h => ⟨trivial, anys_rel ρ n xs (by simpa using h)⟩
 | 0, _ :: _, h => by simp at h
 | _ + 1, [], h => by simp at h
theorem alloc_sound {P : Program} {o : Oper} {s : List AV} {H : List Ent} {T : TypeId} {i : TypeInfo} {z : Value} (ho : o.op = .alloc T) (hi : P.info? T = some i) (hz : i.zero = some z) :
  Effs P o s H (.c (.lp H.length 0)) (H ++ [.blk T (cellsV z)]) :=
 new_sound fun ρ w a _ => ⟨z.cells, cellsV_rel ρ z, by
  unfold execOp
  simp only [ho, Instr.alloc, Sem.run_bind, run_zeroValue hi hz, Result.andThen_ok]
  rfl⟩
theorem box_sound {P : Program} {o : Oper} {s : List AV} {H : List Ent} {T : TypeId} {x : Operand} {cs : List CV} (ho : o.op = .box T x) (hx : avCells (opv s x) = some cs) :
  Effs P o s H (.c (.lp H.length 0)) (H ++ [.blk T cs]) :=
 new_sound fun ρ w a hr => ⟨(a.eval x).cells, avCells_rel hx (opv_rel hr x), by
  unfold execOp
  simp only [ho]
  rfl⟩
theorem known_sound {P : Program} {o : Oper} {s : List AV} {H : List Ent} {T : TypeId} {cs : List CV} {xs : List Value} {K : AV → List Ent → Prop} (hx : plains cs = some xs)
  (h : ∀ (ρ : List Loc) (w : World) (a : Act), RelS ρ s a.tmps.toList → ∃ arr : Array Value, RelL ρ cs arr.toList ∧ (execOp a.eval o).run P w = .ok (.value (.pointer (some ⟨w.heap.size, 0, none⟩))) (w.alloc (.cells arr T)))
  (hk : ∀ b : Nat, K (.c (.v (.pointer (some ⟨b, 0, none⟩)))) (H ++ [.app T xs.length xs (some ⟨b, 0, none⟩) 1 1])) : EffW P o s H K := by
 intro ρ S w a hs hr
 obtain ⟨arr, hrel, hrun⟩ := h ρ w a hr
 have harr : arr.toList = xs := by
  exact plains_rel hx hrel
 have hrow : RowF T xs.length 1 xs w.heap.size 1 (w.alloc (.cells arr T)) :=
  ⟨arr, (0, 0), ⟨heap_alloc_new w _, .inl rfl⟩, by simp, Nat.le_refl _, by simp only [maxLen]; omega, by rw [← harr]; simp, by rw [Nat.one_mul, ← harr, List.take_of_length_le (by simp)]⟩
 have hS := hs.snocG (e := .app T xs.length xs (some ⟨w.heap.size, 0, none⟩) 1 1) (l := ⟨0, 0⟩) (w' := w.alloc (.cells arr T)) (ob := .cells arr T) (fun _ hb => (Option.some.inj hb).symm) rfl rfl rfl rfl (.inr ⟨_, rfl, hrow⟩)
 exact ⟨_, _, hk w.heap.size, _, _, _, _, hrun, .inl rfl, hS.1, hS.2, rfl⟩
theorem box_n {P : Program} {o : Oper} {s : List AV} {H : List Ent} {T : TypeId} {cs : List CV} {K : AV → List Ent → Prop} (hb : BoxN T cs H K)
  (ho : Effs P o s H (.c (.lp H.length 0)) (H ++ [.blk T cs]))
  (h : ∀ (ρ : List Loc) (w : World) (a : Act), RelS ρ s a.tmps.toList → ∃ arr : Array Value, RelL ρ cs arr.toList ∧ (execOp a.eval o).run P w = .ok (.value (.pointer (some ⟨w.heap.size, 0, none⟩))) (w.alloc (.cells arr T))) : EffW P o s H K := by
 cases hb with
 | own hk =>
  rw [snocK_eq, Nat.zero_add] at hk
  exact ho.w hk
 | known xs hx hk => exact known_sound hx h fun b => by have := hk b; rwa [snocK_eq] at this
theorem newRow_sound {P : Program} {o : Oper} {s : List AV} {H : List Ent} {e : TypeId} {sz n : Nat} {cs : List CV} (hn : n ≤ maxLen) (hcs : cs.length = n * sz)
  (h : ∀ (ρ : List Loc) (w : World) (a : Act), RelS ρ s a.tmps.toList → ∃ arr : Array Value, RelL ρ cs arr.toList ∧ (execOp a.eval o).run P w = .ok (.value (.slice (some ⟨w.heap.size, 0, none⟩) n n)) (w.alloc (.cells arr e))) :
  Effs P o s H (.c (.sl H.length n)) (H ++ [.row e sz n cs]) := by
 intro ρ S w a hs hr
 obtain ⟨arr, hrel, hrun⟩ := h ρ w a hr
 have hlen := RelL_len hrel
 have hS := hs.snoc (e := .row e sz n cs) (l := ⟨w.heap.size, n⟩) (w' := w.alloc (.cells arr e)) (ob := .cells arr e) rfl rfl rfl rfl rfl
  ⟨⟨w.heap.size, n⟩, arr, by rw [← hs.len]; simp, heap_alloc_new w _, hcs, Nat.le_refl _, hn, by show arr.size = n * sz; simp at hlen; omega, by rw [List.take_of_length_le (by omega)]; exact RelL_pre _ hrel⟩
 exact ⟨_, _, _, _, hrun, .inl rfl, hS.1, hS.2, ⟨⟨w.heap.size, n⟩, by rw [← hs.len]; simp, rfl⟩⟩
theorem buildSlice_run {P : Program} {o : Oper} {s : List AV} {T e : TypeId} {len : Nat} {parts : Array (Nat × Operand)} {inf : TypeInfo} {z : Value} {cs : List CV} (ho : o.op = .buildSlice T len parts)
  (hu : P.underlying T = some (.slice e)) (hi : P.info? e = some inf) (hz : inf.zero = some z) (hl : Nat.ble (len + len * inf.size) 10000 = true)
  (hf : fillC (fun i => some (i * inf.size, inf.size)) s parts.toList (anys (len * inf.size)) = some cs) :
  ∀ (ρ : List Loc) (w : World) (a : Act), RelS ρ s a.tmps.toList → ∃ arr : Array Value, RelL ρ cs arr.toList ∧ (execOp a.eval o).run P w = .ok (.value (.slice (some ⟨w.heap.size, 0, none⟩) len len)) (w.alloc (.cells arr e)) := by
 intro ρ w a hr
 have hb : len + len * inf.size ≤ 10000 := Nat.le_of_ble_eq_true hl
 have hng : ¬ (len * inf.size > 2 ^ 24) := by omega
 have key : ∀ zc : Array Value, ∃ us' : Array Value, Instr.fill (fun i => some (i * inf.size, inf.size)) ((Array.range (len * inf.size)).map (zc[· % zc.size]!)) (parts.map fun (i, x) => (i, a.eval x)).toList = some us' ∧ RelL ρ cs us'.toList := fun zc => by
  obtain ⟨us', h1, h2⟩ := fillC_rel hr (fun i => some (i * inf.size, inf.size)) (fun i => some (i * inf.size, inf.size)) (fun _ _ h => h) parts.toList _ cs ((Array.range (len * inf.size)).map (zc[· % zc.size]!)) hf
   (anys_rel ρ _ _ (by simp))
  refine ⟨us', ?_, h2⟩
  rw [← h1]
  congr 1
  simp
 unfold execOp
 simp only [ho, Instr.buildSlice, Sem.run_bind, run_underlying hu, sizeOf, typeInfo, run_program, hi, Result.andThen_ok, Sem.run_pure]
 rw [if_neg hng]
 by_cases h0 : len * inf.size = 0
 ·obtain ⟨us', h1, h2⟩ := key #[]
  refine ⟨us', h2, ?_⟩
  simp only [h0, if_true, Sem.run_bind, Sem.run_pure, Result.andThen_ok]
  rw [h0] at h1
  rw [h1]
  rfl
 ·obtain ⟨us', h1, h2⟩ := key z.cells
  refine ⟨us', h2, ?_⟩
  simp only [h0, if_false, Sem.run_bind, Sem.run_pure, Result.andThen_ok, run_zeroValue hi hz, h1]
  rfl
theorem row_n {P : Program} {o : Oper} {s : List AV} {H : List Ent} {e : TypeId} {sz n : Nat} {cs : List CV} {K : AV → List Ent → Prop} (hb : RwN e sz n cs H K) (hn : n ≤ maxLen) (hcs : cs.length = n * sz)
  (h : ∀ (ρ : List Loc) (w : World) (a : Act), RelS ρ s a.tmps.toList → ∃ arr : Array Value, RelL ρ cs arr.toList ∧ (execOp a.eval o).run P w = .ok (.value (.slice (some ⟨w.heap.size, 0, none⟩) n n)) (w.alloc (.cells arr e))) : EffW P o s H K := by
 cases hb with
 | own hk =>
  rw [snocK_eq, Nat.zero_add] at hk
  exact (newRow_sound hn hcs h).w hk
 | known xs hx hk =>
  intro ρ S w a hs hr
  obtain ⟨arr, hrel, hrun⟩ := h ρ w a hr
  have harr := plains_rel hx hrel
  have hlen := RelL_len hrel
  have hrow : RowF e sz n xs w.heap.size n (w.alloc (.cells arr e)) :=
   ⟨arr, (0, 0), ⟨heap_alloc_new w _, .inl rfl⟩, by rw [← harr, ← hlen, hcs], Nat.le_refl _, hn, by rw [← hcs, hlen, Array.length_toList], by rw [← harr, List.take_of_length_le (by rw [← hlen, hcs]; exact Nat.le_refl _)]⟩
  have hS := hs.snocG (e := .app e sz xs (some ⟨w.heap.size, 0, none⟩) n n) (l := ⟨0, 0⟩) (w' := w.alloc (.cells arr e)) (ob := .cells arr e) (fun _ hb => (Option.some.inj hb).symm) rfl rfl rfl rfl (.inr ⟨_, rfl, hrow⟩)
  have hk := hk w.heap.size
  rw [snocK_eq] at hk
  exact ⟨_, _, hk, _, _, _, _, hrun, .inl rfl, hS.1, hS.2, rfl⟩
theorem Sat.renew {ρ : List Loc} {S : Nat → Prop} {H : List Ent} {w w' : World} {i : Nat} {e e' : Ent} {l : Loc} (h : Sat ρ S H w) (hi : H[i]? = some e) (ho : e.own = true) (hl : ρ[i]? = some l)
  (hsz : w'.heap.size = w.heap.size) (hk : ∀ k, k ≠ l.b → w'.heap[k]? = w.heap[k]?) (hos : w'.os = w.os) (ht : w'.tape = w.tape) (hu : w'.output = w.output)
  (he : EntOk (ρ ++ [l]) S w' H.length e') (hna : e'.isApp = false := by rfl) : Sat (ρ ++ [l]) S (H.set i .dead ++ [e']) w' ∧ Ev ρ S H w (ρ ++ [l]) S (H.set i .dead ++ [e']) w' := by
 have hilt : i < H.length := (List.getElem?_eq_some_iff.1 hi).1
 have hc : entB ρ i e l.b := entB_own ho hl
 have hcase : ∀ (j : Nat) (f : Ent) (b : Nat), (H.set i .dead ++ [e'])[j]? = some f → entB (ρ ++ [l]) j f b →
   (j < H.length ∧ j ≠ i ∧ H[j]? = some f ∧ entB ρ j f b) ∨ (j = H.length ∧ b = l.b ∧ f = e') := by
  intro j f b hf hfb
  by_cases hj : j < H.length
  ·rw [List.getElem?_append_left (by simpa using hj)] at hf
   rw [entB_pre _ (by rw [h.len]; exact hj)] at hfb
   by_cases hji : j = i
   ·subst hji
    simp [hilt] at hf
    subst hf
    cases hfb
   ·rw [List.getElem?_set_ne (Ne.symm hji)] at hf
    exact .inl ⟨hj, hji, hf, hfb⟩
  ·have hj2 : j = H.length := by
    have := (List.getElem?_eq_some_iff.1 hf).1
    simp at this; omega
   subst hj2
   rw [List.getElem?_append_right (by simp)] at hf
   simp at hf
   subst hf
   exact .inr ⟨rfl, entB_le hna (by rw [← h.len]; simp) hfb, rfl⟩
 have hmb : ∀ b, mb (ρ ++ [l]) (H.set i .dead ++ [e']) b → mb ρ H b := by
  rintro b ⟨j, f, hf, hfb⟩
  rcases hcase j f b hf hfb with ⟨_, _, h1, h2⟩ | ⟨_, h1, _⟩
  ·exact ⟨j, f, h1, h2⟩
  ·subst h1; exact ⟨i, e, hi, hc⟩
 have hSl : ∀ b, S b → b ≠ l.b := fun b hb e' => h.out l.b ⟨i, e, hi, hc⟩ (e' ▸ hb)
 refine ⟨⟨by simp [h.len], ?_, ?_, ?_, ?_⟩, ⟨⟨[l], rfl⟩, hos, ht, hu, by omega, fun b hb hn => hk b (fun e2 => hn (e2 ▸ ⟨i, e, hi, hc⟩)), fun b hb => .inl hb, fun b hb => .inl (hmb b hb)⟩⟩
 ·intro j f hf
  by_cases hj : j < H.length
  ·rw [List.getElem?_append_left (by simpa using hj)] at hf
   by_cases hji : j = i
   ·subst hji
    simp [hilt] at hf
    subst hf
    trivial
   ·rw [List.getElem?_set_ne (Ne.symm hji)] at hf
    exact (h.ent j f hf).move [l] (fun b hb => hk _ fun e2 => hji (h.inj j i f e l.b hf hi (e2 ▸ hb) hc)) fun b hb => hk b (hSl b hb)
  ·have hj2 : j = H.length := by
    have := (List.getElem?_eq_some_iff.1 hf).1
    simp at this; omega
   subst hj2
   rw [List.getElem?_append_right (by simp)] at hf
   simp at hf
   subst hf
   exact he
 ·intro j k f g b hf hg hfb hgb
  rcases hcase j f b hf hfb with ⟨_, a0, a1, a2⟩ | ⟨a1, a2, _⟩ <;> rcases hcase k g b hg hgb with ⟨_, b0, b1, b2⟩ | ⟨b1, b2, _⟩
  ·exact h.inj j k f g b a1 b1 a2 b2
  ·exact absurd (h.inj j i f e l.b a1 hi (b2 ▸ a2) hc) a0
  ·exact absurd (h.inj k i g e l.b b1 hi (a2 ▸ b2) hc) b0
  ·omega
 ·intro b hb; exact h.out b (hmb b hb)
 ·intro b hb; rw [hsz]; exact h.low b hb
theorem execOp_append {P : Program} {o : Oper} {ev : Operand → Value} {w w' : World} {T : TypeId} {x y : Operand} {args : Array Operand} {ts : Array TypeId} {v : Value}
  (ho : o.op = .call { callee := .builtin .append, args := args, argTypes := ts }) (ha : args.toList = [x, y]) (ht : ts.toList = [T, T])
  (h : (Builtin.append_ #[T, T] o.type #[ev x, ev y]).run P w = .ok v w') : (execOp ev o).run P w = .ok (.value v) w' := by
 have e1 : args = #[x, y] := by rw [← Array.toArray_toList (xs := args), ha]
 have e2 : ts = #[T, T] := by rw [← Array.toArray_toList (xs := ts), ht]
 subst e1; subst e2
 unfold execOp
 simp only [ho, resolve, invoke, builtin, Sem.run_bind, Sem.run_pure, Result.andThen_ok, List.map_toArray, List.map_cons, List.map_nil, h]
theorem zeroOk_spec {inf : TypeInfo} (h : zeroOk inf = true) : ∃ z, inf.zero = some z ∧ z.cells.size = inf.size := by
 unfold zeroOk at h
 split at h
 ·rename_i z hz; exact ⟨z, hz, Nat.eq_of_beq_eq_true h⟩
 ·cases h
theorem RowF.less {T : TypeId} {sz n n0 : Nat} {xs : List Value} {b cap : Nat} {w : World} (h : RowF T sz n0 xs b cap w) (hn : n ≤ n0) : RowF T sz n (xs.take (n * sz)) b cap w := by
 obtain ⟨arr, fr, hb, h1, h2, h3, h4, htk⟩ := h
 have hm : n * sz ≤ n0 * sz := Nat.mul_le_mul_right _ hn
 refine ⟨arr, fr, hb, by rw [List.length_take, h1, Nat.min_eq_left hm], by omega, h3, h4, ?_⟩
 rw [← htk, List.take_take, Nat.min_eq_left hm]
theorem set_getSelf {α : Type} {l : List α} {i : Nat} {x : α} (h : l[i]? = some x) : l.set i x = l := by
 apply List.ext_getElem?
 intro j
 by_cases hj : i = j
 ·subst hj
  have := (List.getElem?_eq_some_iff.1 h).1
  rw [List.getElem?_set_self this, h]
 ·rw [List.getElem?_set_ne hj]
theorem run_append_room_no {P : Program} (w : World) (t ty e : TypeId) (i : TypeInfo) (ht : P.underlying t = some (.slice e)) (hi : P.info? e = some i)
  (g sLen sCap : Nat) (cur : Array Value) (fr : Nat × Nat) (hg : w.heap[g]? = some (.cells cur e fr)) (hfr : NoFr fr cur.size)
  (a : Addr) (m c : Nat) (news : List Value) (hl : news.length = m * i.size) (hnews : ∀ j u, news[j]? = some u → w.cell? (a.add j) = some u) (h1 : ∀ u ∈ news, u.oneCell' = true)
  (hroom : sLen + m ≤ sCap) (hfit : sLen * i.size + news.length ≤ cur.size) :
  (Builtin.append_ #[t, t] ty #[.slice (some ⟨g, 0, none⟩) sLen sCap, .slice (some a) m c]).run P w =
   .ok (.slice (some ⟨g, 0, none⟩) (sLen + m) sCap) (w.setRow g (cur.toList.take (sLen * i.size) ++ news ++ cur.toList.drop (sLen * i.size + news.length)).toArray) := by
 have hf := run_firstCells_some (P := P) w i.size m a m c news hl hnews
 have hst := run_storeCells_no P g (sLen * i.size) e fr news 0 cur w hg hfr (by simpa using hfit) h1
 simp only [Nat.add_zero] at hst
 simp [Builtin.append_, run_underlying ht, sizeOf, typeInfo, hi, Builtin.lenOf, hroom, hf, Addr.add_lit, hst]
theorem nextslicecap_big {need old : Nat} (h : old < need) (hb : need ≤ 140737489403904) : Builtin.nextslicecap need old ≤ 281474976710656 := by
 unfold Builtin.nextslicecap
 split
 ·omega
 ·split
  ·omega
  ·rw [growBy_four]
   repeat' split
   all_goals omega
theorem appendM_sound {P : Program} {o : Oper} {s : List AV} {H : List Ent} {T e : TypeId} {inf : TypeInfo} {x y : Operand} {args : Array Operand} {ts : Array TypeId} {m : Nat} {news : List CV} {K : AV → List Ent → Prop} {ax : Option Addr} {n cap : Nat}
  (ho : o.op = .call { callee := .builtin .append, args := args, argTypes := ts }) (ha : args.toList = [x, y]) (ht : ts.toList = [T, T])
  (hu : P.underlying T = some (.slice e)) (hi : P.info? e = some inf) (hz : zeroOk inf = true) (hlen : news.length = m * inf.size)
  {ρ : List Loc} {S : Nat → Prop} {w : World} {a : Act} (hs : Sat ρ S H w) (hr : RelS ρ s a.tmps.toList)
  (hy : ∃ (b : Addr) (c : Nat) (us : List Value), a.eval y = .slice (some b) m c ∧ RelL ρ news us ∧ (∀ j v, us[j]? = some v → w.cell? (b.add j) = some v) ∧ ∀ u ∈ us, u.oneCell' = true)
  (hx : opv s x = .c (.v (.slice ax n cap))) (h : AppM H e inf.size inf.bytes ax n cap m news K) : ∃ av H', K av H' ∧ EffAt P o H av H' ρ S w a := by
 obtain ⟨z, hz1, hz2⟩ := zeroOk_spec hz
 obtain ⟨b, c, us, he, hrel, hcell, hone⟩ := hy
 have hxr := opv_rel hr x
 rw [hx] at hxr
 have hx2 : a.eval x = .slice ax n cap := hxr
 have hul : us.length = m * inf.size := by rw [← RelL_len hrel]; exact hlen
 have fromNil : ax = none ∧ n = 0 ∧ cap = 0 → 1 ≤ m ∧ m < 9223372036854775808 ∧ m * inf.bytes ≤ 281474976710656 → ∃ cap', m ≤ cap' ∧ cap' ≤ maxLen ∧ ∃ w', (Builtin.append_ #[T, T] o.type #[.slice ax n cap, .slice (some b) m c]).run P w = .ok (.slice (some ⟨w.heap.size, 0, none⟩) m cap') w' ∧
   (∃ ob, w'.heap = w.heap.push ob) ∧ w'.os = w.os ∧ w'.tape = w.tape ∧ w'.output = w.output ∧ RowF e inf.size m us w.heap.size cap' w' := by
  rintro ⟨rfl, rfl, rfl⟩ ⟨hm1, hb2, hb1⟩
  have hm : m ≤ maxLen := by simp only [maxLen]; omega
  have hrun := run_append_nil (P := P) w T o.type e inf z hu hi hz1 b m c us hul hcell (by omega) (by omega) (by omega)
  have hge := grownCap_ge w m 0 e
  have hcm : grownCap w m 0 e ≤ maxLen := grownCap_le_maxLen w m 0 e hm
  have hsz : (us.toArray ++ Builtin.zeroCells z.cells (grownCap w m 0 e - m)).size = grownCap w m 0 e * inf.size := by
   simp only [Array.size_append, List.size_toArray, size_zeroCells, hz2, hul, ← Nat.add_mul]
   congr 1; omega
  refine ⟨grownCap w m 0 e, hge, hcm, _, hrun, ⟨_, rfl⟩, rfl, rfl, rfl, _, (0, 0), ⟨heap_alloc_new w.drew _, .inl rfl⟩, hul, hge, hcm, hsz, ?_⟩
  simp only [Array.toList_append]
  rw [← hul]; exact List.take_left
 have roomOf : 1 ≤ m ∧ room 0 m inf.bytes ∧ inf.size ≠ 0 → 1 ≤ m ∧ m < 9223372036854775808 ∧ m * inf.bytes ≤ 281474976710656 := fun ⟨h1, ⟨h2, h3⟩, _⟩ => ⟨h1, by omega, by rw [Nat.zero_add] at h2; omega⟩
 have grown : ∀ (i : Nat) (xs : List Value), H[i]? = some (.app e inf.size xs ax n cap) → (1 ≤ m ∧ n + m < 9223372036854775808 ∧ ∀ old, old < n + m → Builtin.nextslicecap (n + m) old * inf.bytes ≤ 281474976710656) →
   (∀ b cap' : Nat, n + m ≤ cap' → cap' ≤ maxLen → setEK H i (.app e inf.size (xs ++ us) (some ⟨b, 0, none⟩) (n + m) cap') fun H' => K (.c (.v (.slice (some ⟨b, 0, none⟩) (n + m) cap'))) H') → ∃ av H', K av H' ∧ EffAt P o H av H' ρ S w a := by
  intro i xs hent hm next
  rcases hs.ent i _ hent with ⟨rfl, rfl, rfl, rfl⟩ | ⟨g, rfl, arr, fr, ⟨hb, hfr⟩, hxl, hnc, hcm, hasz, htk⟩
  ·obtain ⟨cap', h1, h2, w', hrun, ⟨ob, hheap⟩, h4, h5, h6, hrow⟩ := fromNil ⟨rfl, rfl, rfl⟩ ⟨hm.1, by have := hm.2.1; omega, by have h8 := hm.2.2 0 (by have := hm.1; omega); rw [nextslicecap_zero (by have := hm.1; omega), Nat.zero_add] at h8; exact h8⟩
   have hk := next w.heap.size cap' (by omega) h2
   obtain ⟨hilt, hk⟩ := setEK_spec hk
   have hS := hs.setNil (e' := .app e inf.size us (some ⟨w.heap.size, 0, none⟩) m cap') hent (fun _ h => by cases h) hheap h4 h5 h6 (fun b hb => (Option.some.inj hb).symm) (.inr ⟨_, rfl, hrow⟩)
   rw [Nat.zero_add] at hk
   exact ⟨_, _, hk, _, _, _, _, execOp_append ho ha ht (by rw [hx2, he]; exact hrun), .inl rfl, hS.1, hS.2, rfl⟩
  ·obtain ⟨hm1, hb2, hfits⟩ := hm
   have hnm : n + m ≤ maxLen := by simp only [maxLen]; omega
   have ht1 : (arr.toList.take (n * inf.size)).length = n * inf.size := by
    simp only [List.length_take, Array.length_toList, hasz]
    exact Nat.min_eq_left (Nat.mul_le_mul_right _ hnc)
   have hnew : (xs ++ us).length = (n + m) * inf.size := by rw [List.length_append, hxl, hul, Nat.add_mul]
   by_cases hroom : n + m ≤ cap
   ·have hfit : n * inf.size + us.length ≤ arr.size := by rw [hul, hasz, ← Nat.add_mul]; exact Nat.mul_le_mul_right _ hroom
    have hrun := run_append_room_no (P := P) w T o.type e inf hu hi g n cap arr fr hb hfr b m c us hul hcell hone hroom hfit
    obtain ⟨f1, f2, f3, f4, f5⟩ := setRow_facts w g (arr.toList.take (n * inf.size) ++ us ++ arr.toList.drop (n * inf.size + us.length)).toArray
    have hk := next g cap hroom hcm
    obtain ⟨hilt, hk⟩ := setEK_spec hk
    have hS := hs.setG (e' := .app e inf.size (xs ++ us) (some ⟨g, 0, none⟩) (n + m) cap) hent rfl (Nat.le_of_eq f1.symm) (fun k _ hne => f2 k hne) f3 f4 f5 (fun b hb => .inl (Option.some.inj hb).symm)
     (.inr ⟨g, rfl, _, fr, ⟨setRow_heap w g arr _ e _ hb, by have e0 : (arr.toList.take (n * inf.size) ++ us ++ arr.toList.drop (n * inf.size + us.length)).toArray.size = arr.size := (by simp; omega); rw [e0]; exact hfr⟩, hnew, hroom, hcm, by simp; omega, by
      have : (arr.toList.take (n * inf.size) ++ us ++ arr.toList.drop (n * inf.size + us.length)).toArray.toList.take ((n + m) * inf.size) = arr.toList.take (n * inf.size) ++ us := by
       rw [List.take_append_of_le_length (by simp; rw [Nat.add_mul]; omega)]
       rw [List.take_of_length_le (by simp; rw [Nat.add_mul]; omega)]
      rw [this, htk]⟩)
    exact ⟨_, _, hk, _, _, _, _, execOp_append ho ha ht (by rw [hx2, he]; exact hrun), .inl rfl, hS.1, hS.2, rfl⟩
   ·have holds : ∀ j v, (arr.toList.take (n * inf.size))[j]? = some v → w.cell? ((⟨g, 0, none⟩ : Addr).add j) = some v := fun j v hv => by
     rw [add_lit, Nat.zero_add, cell_of_row w g j arr e fr hb]
     rw [List.getElem?_take] at hv
     split at hv
     ·simpa using hv
     ·cases hv
    have hrun := run_append_grow (P := P) w T o.type e inf z hu hi hz1 ⟨g, 0, none⟩ n cap _ ht1 holds b m c us hul hcell (by omega) (by omega) (hfits cap (by omega))
    have hge := grownCap_ge w (n + m) cap e
    have hgm : grownCap w (n + m) cap e ≤ maxLen := grownCap_le_maxLen w (n + m) cap e hnm
    have hasz2 : ((arr.toList.take (n * inf.size)).toArray ++ us.toArray ++ Builtin.zeroCells z.cells (grownCap w (n + m) cap e - (n + m))).size = grownCap w (n + m) cap e * inf.size := by
     simp only [Array.size_append, List.size_toArray, ht1, size_zeroCells, hz2, hul, ← Nat.add_mul]
     congr 1; omega
    have hk := next w.heap.size (grownCap w (n + m) cap e) hge hgm
    obtain ⟨hilt, hk⟩ := setEK_spec hk
    have hS := hs.setG (e' := .app e inf.size (xs ++ us) (some ⟨w.heap.size, 0, none⟩) (n + m) (grownCap w (n + m) cap e))
     (w' := w.drew.alloc (.cells ((arr.toList.take (n * inf.size)).toArray ++ us.toArray ++ Builtin.zeroCells z.cells (grownCap w (n + m) cap e - (n + m))) e)) hent rfl
     (by show w.heap.size ≤ (w.heap.push _).size; simp) (fun k hk _ => by show (w.heap.push _)[k]? = _; rw [Array.getElem?_push, if_neg (by omega)]) rfl rfl rfl (fun b hb => .inr (Nat.le_of_eq (Option.some.inj hb)))
     (.inr ⟨w.heap.size, rfl, _, (0, 0), ⟨heap_alloc_new w.drew _, .inl rfl⟩, hnew, hge, hgm, hasz2, by
      have hle : (arr.toList.take (n * inf.size) ++ us).length = (n + m) * inf.size := by rw [List.length_append, ht1, hul, Nat.add_mul]
      simp only [Array.toList_append]
      rw [← hle, ← htk]; exact List.take_left⟩)
    exact ⟨_, _, hk, _, _, _, _, execOp_append ho ha ht (by rw [hx2, he]; exact hrun), .inl rfl, hS.1, hS.2, rfl⟩
 cases h with
 | new ys nil hpl hm next =>
  have hus : us = ys := plains_rel hpl hrel
  subst hus
  obtain ⟨cap', h1, h2, w', hrun, ⟨ob, hheap⟩, h4, h5, h6, hrow⟩ := fromNil nil (roomOf hm)
  have hk := next w.heap.size cap' h1 h2
  rw [snocK_eq] at hk
  have hS := hs.snocG (e := .app e inf.size us (some ⟨w.heap.size, 0, none⟩) m cap') (l := ⟨0, 0⟩) (w' := w') (ob := ob) (fun b hb => (Option.some.inj hb).symm) hheap h4 h5 h6 (.inr ⟨_, rfl, hrow⟩)
  exact ⟨_, _, hk, _, _, _, _, execOp_append ho ha ht (by rw [hx2, he]; exact hrun), .inl rfl, hS.1, hS.2, rfl⟩
 | into i e0 ys hent nil hpl hm next =>
  have hus : us = ys := plains_rel hpl hrel
  subst hus
  obtain ⟨cap', h1, h2, w', hrun, ⟨ob, hheap⟩, h4, h5, h6, hrow⟩ := fromNil nil (roomOf hm)
  have hk := next w.heap.size cap' h1 h2
  obtain ⟨hilt, hk⟩ := setEK_spec hk
  rw [nthE_eq] at hent
  have hS : Sat ρ S (H.set i (.app e inf.size us (some ⟨w.heap.size, 0, none⟩) m cap')) w' ∧ Ev ρ S H w ρ S (H.set i (.app e inf.size us (some ⟨w.heap.size, 0, none⟩) m cap')) w' := by
   by_cases hb0 : ∃ c, entB ρ i e0 c
   rotate_left
   ·exact hs.setNil hent (fun b hb => hb0 ⟨b, hb⟩) hheap h4 h5 h6 (fun b hb => (Option.some.inj hb).symm) (.inr ⟨_, rfl, hrow⟩)
   ·obtain ⟨c, hb0⟩ := hb0
    exact hs.setG hent hb0 (by rw [hheap]; simp) (fun k hk _ => by rw [hheap, Array.getElem?_push, if_neg (by omega)]) h4 h5 h6 (fun b hb => .inr (Nat.le_of_eq (Option.some.inj hb))) (.inr ⟨_, rfl, hrow⟩)
  exact ⟨_, _, hk, _, _, _, _, execOp_append ho ha ht (by rw [hx2, he]; exact hrun), .inl rfl, hS.1, hS.2, rfl⟩
 | grow i xs ys hent hpl hm next =>
  have hus : us = ys := plains_rel hpl hrel
  subst hus
  rw [nthE_eq] at hent
  obtain ⟨hm1, ⟨hb1, hb2⟩, _⟩ := hm
  exact grown i xs hent ⟨hm1, hb2, fun old h => growslice_fits h hb1⟩ next
 | big i xs ys hent hpl hm next =>
  have hus : us = ys := plains_rel hpl hrel
  subst hus
  rw [nthE_eq] at hent
  obtain ⟨hm1, hby, hb⟩ := hm
  exact grown i xs hent ⟨hm1, by omega, fun old h => by rw [hby, Nat.mul_one]; exact nextslicecap_big h hb⟩ next
theorem Sat.swap {ρ : List Loc} {S : Nat → Prop} {H : List Ent} {w : World} (h : Sat ρ S H w) {i j : Nat} {T U : TypeId} {m1 m2 n1 n2 c1 c2 : Nat} {xs ys : List Value} {a1 a2 : Option Addr} (hi : H[i]? = some (.app T m1 xs a1 n1 c1)) (hj : H[j]? = some (.app U m2 ys a2 n2 c2)) (hne : i ≠ j) :
  Sat ρ S ((H.set i (.app U m2 ys a2 n2 c2)).set j (.app T m1 xs a1 n1 c1)) w ∧ Ev ρ S H w ρ S ((H.set i (.app U m2 ys a2 n2 c2)).set j (.app T m1 xs a1 n1 c1)) w := by
 have hil := (List.getElem?_eq_some_iff.1 hi).1
 have hjl := (List.getElem?_eq_some_iff.1 hj).1
 have key : ∀ (k : Nat) (g : Ent), ((H.set i (.app U m2 ys a2 n2 c2)).set j (.app T m1 xs a1 n1 c1))[k]? = some g → ∃ k', (k' = if k = i then j else if k = j then i else k) ∧ H[k']? = some g ∧ entB ρ k g = entB ρ k' g ∧ (EntOk ρ S w k' g → EntOk ρ S w k g) := by
  intro k g hk
  by_cases h1 : k = i
  ·subst h1
   rw [List.getElem?_set_ne (fun e => hne e.symm), List.getElem?_set_self hil] at hk
   cases hk
   exact ⟨j, by rw [if_pos rfl], hj, rfl, fun x => x⟩
  by_cases h2 : k = j
  ·subst h2
   rw [List.getElem?_set_self (by rw [List.length_set]; exact hjl)] at hk
   cases hk
   exact ⟨i, by rw [if_neg h1, if_pos rfl], hi, rfl, fun x => x⟩
  ·rw [List.getElem?_set_ne (fun e => h2 e.symm), List.getElem?_set_ne (fun e => h1 e.symm)] at hk
   exact ⟨k, by rw [if_neg h1, if_neg h2], hk, rfl, fun x => x⟩
 have hmb : ∀ b, mb ρ ((H.set i (.app U m2 ys a2 n2 c2)).set j (.app T m1 xs a1 n1 c1)) b → mb ρ H b := fun b ⟨k, g, hk, hb⟩ => by
  obtain ⟨k', _, hk', he, _⟩ := key k g hk
  exact ⟨k', g, hk', by rw [← he]; exact hb⟩
 refine ⟨⟨by rw [List.length_set, List.length_set]; exact h.len, fun k g hk => ?_, fun k l g f b hk hl hb hb' => ?_, fun b hb => h.out b (hmb b hb), h.low⟩, ⟨⟨[], by simp⟩, rfl, rfl, rfl, Nat.le_refl _, fun _ _ _ => rfl, fun _ h => .inl h, fun b hb => .inl (hmb b hb)⟩⟩
 ·obtain ⟨k', _, hk', _, ho⟩ := key k g hk
  exact ho (h.ent k' g hk')
 ·obtain ⟨k', ek, hk', he, _⟩ := key k g hk
  obtain ⟨l', el, hl', he', _⟩ := key l f hl
  have := h.inj k' l' g f b hk' hl' (by rw [← he]; exact hb) (by rw [← he']; exact hb')
  rw [ek, el] at this
  (repeat' split at this) <;> omega
theorem appendTo_sound {P : Program} {o : Oper} {s : List AV} {H : List Ent} {T e : TypeId} {inf : TypeInfo} {x y : Operand} {args : Array Operand} {ts : Array TypeId} {m : Nat} {news : List CV} {K : AV → List Ent → Prop}
  (ho : o.op = .call { callee := .builtin .append, args := args, argTypes := ts }) (ha : args.toList = [x, y]) (ht : ts.toList = [T, T])
  (hu : P.underlying T = some (.slice e)) (hi : P.info? e = some inf) (hz : zeroOk inf = true) (hlen : news.length = m * inf.size)
  {ρ : List Loc} {S : Nat → Prop} {w : World} {a : Act} (hs : Sat ρ S H w) (hr : RelS ρ s a.tmps.toList)
  (hy : ∃ (b : Addr) (c : Nat) (us : List Value), a.eval y = .slice (some b) m c ∧ RelL ρ news us ∧ (∀ j v, us[j]? = some v → w.cell? (b.add j) = some v) ∧ ∀ u ∈ us, u.oneCell' = true)
  (h : appendTo e inf H (opv s x) m news K) : ∃ av H', K av H' ∧ EffAt P o H av H' ρ S w a := by
 obtain ⟨z, hz1, hz2⟩ := zeroOk_spec hz
 unfold appendTo at h
 split at h
 ·rename_i ax n cap hx
  cases h with
  | base h => exact appendM_sound ho ha ht hu hi hz hlen hs hr hy hx h
  | cut i n0 xs0 hent hn next =>
   obtain ⟨hilt, h⟩ := setEK_spec next
   rw [nthE_eq] at hent
   have hS : Sat ρ S (H.set i (.app e inf.size (xs0.take (n * inf.size)) ax n cap)) w ∧ Ev ρ S H w ρ S (H.set i (.app e inf.size (xs0.take (n * inf.size)) ax n cap)) w := by
    rcases hs.ent i _ hent with ⟨rfl, rfl, rfl, rfl⟩ | ⟨g, rfl, hrow⟩
    ·have : n = 0 := by omega
     subst this
     have e1 : H.set i (.app e inf.size (List.take (0 * inf.size) []) none 0 0) = H := by
      rw [List.take_nil]
      exact set_getSelf hent
     rw [e1]
     exact ⟨hs, Ev.refl _ _ _ _⟩
    ·exact hs.setG (w' := w) (e' := .app e inf.size (xs0.take (n * inf.size)) (some ⟨g, 0, none⟩) n cap) hent rfl (Nat.le_refl _) (fun _ _ _ => rfl) rfl rfl rfl (fun b hb => .inl (Option.some.inj hb).symm) (.inr ⟨g, rfl, hrow.less hn⟩)
   obtain ⟨av, H', hK, r, v, ρ', w', h1, h2, h3, h4, h5⟩ := appendM_sound ho ha ht hu hi hz hlen hS.1 hr hy hx h
   exact ⟨av, H', hK, r, v, ρ', w', h1, h2, h3, hS.2.trans h4, h5⟩
  | swap i j hi' hj' hne next =>
   obtain ⟨_, h1⟩ := setEK_spec next
   obtain ⟨_, h⟩ := setEK_spec h1
   rw [nthE_eq] at hi' hj'
   have hS := hs.swap hi' hj' (Nat.ne_of_beq_eq_false hne)
   obtain ⟨av, H', hK, r, v, ρ', w', h1, h2, h3, h4, h5⟩ := appendM_sound ho ha ht hu hi hz hlen hS.1 hr hy hx h
   exact ⟨av, H', hK, r, v, ρ', w', h1, h2, h3, hS.2.trans h4, h5⟩
 ·rename_i i n hx
  rw [nthE_eq] at h
  split at h
  ·rename_i T' sz k cs hent
   split at h
   ·rename_i hT
    have hT' := Nat.eq_of_beq_eq_true hT
    subst hT'
    obtain ⟨⟨hnk, hsz, hm1, ⟨hb1, hb2⟩, hne⟩, h⟩ := h
    subst hnk; subst hsz
    obtain ⟨hilt, h⟩ := setEK_spec h
    rw [snocK_eq] at h
    refine ⟨_, _, h, ?_⟩
    obtain ⟨b, c, us, he, hrel, hcell, hone⟩ := hy
    have hxr := opv_rel hr x
    rw [hx] at hxr
    obtain ⟨l, hl, hxe⟩ := hxr
    obtain ⟨l', arr, hl', hb, hcl, hnc, hcm, hasz, hcr⟩ := hs.ent i _ hent
    have : l' = l := Option.some.inj (hl'.symm.trans hl)
    subst this
    have hul : us.length = m * inf.size := by rw [← RelL_len hrel]; exact hlen
    have hnm : n + m ≤ maxLen := by simp only [maxLen]; omega
    have hnew : (cs ++ news).length = (n + m) * inf.size := by rw [List.length_append, hcl, hlen, Nat.add_mul]
    by_cases hroom : n + m ≤ l'.cap
    ·have hfit : n * inf.size + us.length ≤ arr.size := by rw [hul, hasz, ← Nat.add_mul]; exact Nat.mul_le_mul_right _ hroom
     have hrun := run_append_room (P := P) w T o.type T' inf hu hi l'.b n l'.cap arr hb b m c us hul hcell hone hroom hfit
     obtain ⟨f1, f2, f3, f4, f5⟩ := setRow_facts w l'.b (arr.toList.take (n * inf.size) ++ us ++ arr.toList.drop (n * inf.size + us.length)).toArray
     have hS := hs.renew (e' := .row T' inf.size (n + m) (cs ++ news)) hent rfl hl f1 f2 f3 f4 f5
      ⟨l', _, by rw [← hs.len]; simp, setRow_heap w l'.b arr _ T' _ hb, hnew, hroom, hcm, by simp; omega, by
       have ht1 : (arr.toList.take (n * inf.size)).length = n * inf.size := by simp; omega
       have : (arr.toList.take (n * inf.size) ++ us ++ arr.toList.drop (n * inf.size + us.length)).toArray.toList.take ((n + m) * inf.size) = arr.toList.take (n * inf.size) ++ us := by
        rw [List.take_append_of_le_length (by simp; rw [Nat.add_mul]; omega)]
        rw [List.take_of_length_le (by simp; rw [Nat.add_mul]; omega)]
       rw [this]; exact RelL_append (RelL_pre _ hcr) (RelL_pre _ hrel)⟩
     exact ⟨_, _, _, _, execOp_append ho ha ht (by rw [hxe, he]; exact hrun), .inl rfl, hS.1, hS.2, ⟨l', by simp [← hs.len], rfl⟩⟩
    ·have holds : ∀ j v, (arr.toList.take (n * inf.size))[j]? = some v → w.cell? ((⟨l'.b, 0, none⟩ : Addr).add j) = some v := fun j v hv => by
      rw [add_lit, Nat.zero_add, cell_of_row w l'.b j arr T' (0, 0) hb]
      rw [List.getElem?_take] at hv
      split at hv
      ·simpa using hv
      ·cases hv
     have ht1 : (arr.toList.take (n * inf.size)).length = n * inf.size := by
      simp only [List.length_take, Array.length_toList, hasz]
      exact Nat.min_eq_left (Nat.mul_le_mul_right _ hnc)
     have hrun := run_append_grow (P := P) w T o.type T' inf z hu hi hz1 ⟨l'.b, 0, none⟩ n l'.cap _ ht1 holds b m c us hul hcell (by omega) (by omega) (growslice_fits (by omega) hb1)
     have hge := grownCap_ge w (n + m) l'.cap T'
     have hgm : grownCap w (n + m) l'.cap T' ≤ maxLen := grownCap_le_maxLen w (n + m) l'.cap T' hnm
     have hk := hs.setE (w' := w) (e' := .dead) hent rfl hl rfl (fun _ _ => rfl) rfl rfl rfl trivial
     have hasz2 : ((arr.toList.take (n * inf.size)).toArray ++ us.toArray ++ Builtin.zeroCells z.cells (grownCap w (n + m) l'.cap T' - (n + m))).size = grownCap w (n + m) l'.cap T' * inf.size := by
      simp only [Array.size_append, List.size_toArray, ht1, size_zeroCells, hz2, hul, ← Nat.add_mul]
      congr 1; omega
     have hS := hk.1.snoc (e := .row T' inf.size (n + m) (cs ++ news)) (l := ⟨w.heap.size, grownCap w (n + m) l'.cap T'⟩)
      (w' := w.drew.alloc (.cells ((arr.toList.take (n * inf.size)).toArray ++ us.toArray ++ Builtin.zeroCells z.cells (grownCap w (n + m) l'.cap T' - (n + m))) T')) rfl rfl rfl rfl rfl
      ⟨⟨w.heap.size, grownCap w (n + m) l'.cap T'⟩, _, by rw [List.length_set, ← hs.len]; simp, heap_alloc_new w.drew _, hnew, hge, hgm, hasz2, by
       have : ((arr.toList.take (n * inf.size)).toArray ++ us.toArray ++ Builtin.zeroCells z.cells (grownCap w (n + m) l'.cap T' - (n + m))).toList.take ((n + m) * inf.size) = arr.toList.take (n * inf.size) ++ us := by
        have hle : (arr.toList.take (n * inf.size) ++ us).length = (n + m) * inf.size := by rw [List.length_append, ht1, hul, Nat.add_mul]
        simp only [Array.toList_append]
        rw [← hle]; exact List.take_left
       rw [this]; exact RelL_append (RelL_pre _ hcr) (RelL_pre _ hrel)⟩
     exact ⟨_, _, _, _, execOp_append ho ha ht (by rw [hxe, he]; exact hrun), .inl rfl, hS.1, hk.2.trans hS.2, ⟨⟨w.heap.size, grownCap w (n + m) l'.cap T'⟩, by simp [← hs.len], rfl⟩⟩
   ·exact h.elim
  ·exact h.elim
 ·exact h.elim
theorem vs_len : ∀ xs : List Value, (vs xs).length = xs.length
 | [] => rfl
 | _ :: xs => by simp [vs, vs_len xs]
theorem fz_row2 {ρ : List Loc} {S : Nat → Prop} {w : World} {i : Nat} {T : TypeId} {sz n : Nat} {xs : List Value} {b cap : Nat} (h : EntOk ρ S w i (.fz T sz n xs b cap)) :
  ∃ l arr fr, ρ[i]? = some l ∧ w.heap[l.b]? = some (.cells arr T fr) ∧ (vs xs).length = n * sz ∧ n ≤ l.cap ∧ l.cap ≤ maxLen ∧ arr.size = l.cap * sz ∧ RelL ρ (vs xs) (arr.toList.take (n * sz)) := by
 obtain ⟨hl, ⟨arr, fr, ⟨hb, _⟩, h1, h2, h3, h4, htk⟩, _⟩ := h
 exact ⟨⟨b, cap⟩, arr, fr, hl, hb, by rw [vs_len, h1], h2, h3, h4, by rw [htk]; exact vs_rel ρ xs⟩
theorem appendK_sound {P : Program} {o : Oper} {s : List AV} {H : List Ent} {T : TypeId} {x y : Operand} {args : Array Operand} {ts : Array TypeId} {K : AV → List Ent → Prop}
  (ho : o.op = .call { callee := .builtin .append, args := args, argTypes := ts }) (ha : args.toList = [x, y]) (ht : ts.toList = [T, T])
  (h : appendK P T H (opv s x) (opv s y) K) : EffW P o s H K := by
 intro ρ S w a hs hr
 unfold appendK at h
 split at h
 ·rename_i e hu
  split at h
  ·rename_i inf hi
   split at h
   ·rename_i hz
    split at h
    ·rename_i j m hy
     have row : ∀ {T' : TypeId} {sz k : Nat} {cs : List CV}, (∃ l arr fr, ρ[j]? = some l ∧ w.heap[l.b]? = some (.cells arr T' fr) ∧ cs.length = k * sz ∧ k ≤ l.cap ∧ l.cap ≤ maxLen ∧ arr.size = l.cap * sz ∧ RelL ρ cs (arr.toList.take (k * sz))) →
       Nd (m ≤ k ∧ sz = inf.size ∧ oneCs (cs.take (m * sz)) = true) (appendTo e inf H (opv s x) m (cs.take (m * sz)) K) → ∃ av H', K av H' ∧ EffAt P o H av H' ρ S w a := by
      rintro T' sz k cs ⟨l, arr, fr, hl, hb, hcl, hkc, hcm, hasz, hrel⟩ ⟨⟨hmk, hsz, hone⟩, h⟩
      subst hsz
      have hl2 : (cs.take (m * inf.size)).length = m * inf.size := by
       simp only [List.length_take, hcl]
       exact Nat.min_eq_left (Nat.mul_le_mul_right _ hmk)
      refine appendTo_sound ho ha ht hu hi hz hl2 hs hr ?_ h
      have hyr := opv_rel hr y
      rw [hy] at hyr
      obtain ⟨l', hl', hye⟩ := hyr
      have : l' = l := Option.some.inj (hl'.symm.trans hl)
      subst this
      have hr2 := RelL_take (m * inf.size) hrel
      have hr3 : RelL ρ (cs.take (m * inf.size)) (arr.toList.take (m * inf.size)) := by
       rw [List.take_take, Nat.min_eq_left (Nat.mul_le_mul_right _ hmk)] at hr2
       exact hr2
      refine ⟨⟨l'.b, 0, none⟩, l'.cap, _, hye, hr3, fun i v hv => ?_, oneCs_rel hone hr3⟩
      rw [add_lit, Nat.zero_add, cell_of_row w l'.b i arr T' fr hb]
      rw [List.getElem?_take] at hv
      split at hv
      ·simpa using hv
      ·cases hv
     rw [nthE_eq] at h
     split at h
     ·rename_i T' sz k cs hent
      exact row (by obtain ⟨l, arr, h1, h2, h3⟩ := hs.ent j _ hent; exact ⟨l, arr, (0, 0), h1, h2, h3⟩) h
     ·rename_i T' sz k xs0 b0 cap0 hent0
      exact row (fz_row2 (hs.ent j _ hent0)) h
     ·exact h.elim
    ·rename_i a0 m c hy
     by_cases hm0 : Nat.beq m 0 = true
     ·have h1 := brd_true h hm0
      simp only [forceA_eq] at h1
      have hm : m = 0 := Nat.eq_of_beq_eq_true hm0
      subst hm
      have hyv : ∀ (ρ : List Loc) (ac : Act), RelS ρ s ac.tmps.toList → ac.eval y = .slice a0 0 c := fun ρ ac hr => by
       have := opv_rel hr y
       rw [hy] at this
       exact this
      have hz0 : ∀ (w : World), (Builtin.firstCells inf.size 0 (.slice a0 0 c)).run P w = .ok #[] w := fun w => by
       cases a0 with
       | none => simp [Builtin.firstCells]
       | some p => simp [Builtin.firstCells, loadCells, loadCellsFrom]
      have run0 : ∀ (w : World) (base : Option Addr) (n cap : Nat), n ≤ cap → (Builtin.append_ #[T, T] o.type #[.slice base n cap, .slice a0 0 c]).run P w = .ok (.slice base n cap) w := fun w base n cap hn => by
       cases base with
       | none => simp [Builtin.append_, run_underlying hu, sizeOf, typeInfo, hi, Builtin.lenOf, hn, hz0]
       | some p => simp [Builtin.append_, run_underlying hu, sizeOf, typeInfo, hi, Builtin.lenOf, hn, hz0, storeCells]
      unfold appendZ at h1
      split at h1
      ·rename_i base n cap hx
       obtain ⟨hn, h1⟩ := h1
       refine ⟨_, _, h1, ?_⟩
       have hxr := opv_rel hr x
       rw [hx] at hxr
       have hx2 : a.eval x = .slice base n cap := hxr
       exact ⟨_, _, _, _, execOp_append ho ha ht (by rw [hx2, hyv ρ a hr]; exact run0 w base n cap hn), .inl rfl, hs, Ev.refl _ _ _ _, by rw [hx]; rfl⟩
      ·rename_i i n hx
       rw [nthE_eq] at h1
       split at h1
       ·rename_i T' sz k cs hent
        obtain ⟨hn, h1⟩ := h1
        refine ⟨_, _, h1, ?_⟩
        have hxr := opv_rel hr x
        rw [hx] at hxr
        obtain ⟨l, hl, hxe⟩ := hxr
        obtain ⟨l', arr, hl', hb, hcl, hkc, _⟩ := hs.ent i _ hent
        have : l' = l := Option.some.inj (hl'.symm.trans hl)
        subst this
        exact ⟨_, _, _, _, execOp_append ho ha ht (by rw [hxe, hyv ρ a hr]; exact run0 w _ n l'.cap (by omega)), .inl rfl, hs, Ev.refl _ _ _ _, by rw [hx]; exact ⟨l', hl', rfl⟩⟩
       ·exact h1.elim
      ·exact h1.elim
     ·have h1 := brd_false h (by cases hq : Nat.beq m 0 with | true => exact absurd hq hm0 | false => rfl)
      obtain ⟨hsome, news, hlen, hone, hok, h1⟩ := h1
      cases a0 with
      | none => cases hsome
      | some p =>
       have hvl : (vs news).length = m * inf.size := by rw [vs_eq, List.length_map]; exact hlen
       refine appendTo_sound ho ha ht hu hi hz hvl hs hr ?_ h1
       have hyr := opv_rel hr y
       rw [hy] at hyr
       exact ⟨p, c, news, hyr, RelL_vs ρ news, fun j v hv => hok w hs.facts j v hv, fun u hu => by rw [← oneV_eq]; exact hone u hu⟩
    ·exact h.elim
   ·exact h.elim
  ·exact h.elim
 ·exact h.elim
theorem fillC_len {place : Nat → Option (Nat × Nat)} {s : List AV} : ∀ {parts : List (Nat × Operand)} {cs cs' : List CV}, fillC place s parts cs = some cs' → cs'.length = cs.length
 | [], cs, cs', h => by simp only [fillC, Option.some.injEq] at h; rw [h]
 | (i, x) :: rest, cs, cs', h => by
  simp only [fillC] at h
  split at h
  ·split at h
   ·rename_i cs1 _ hput
    rw [fillC_len h]
    exact putC_len hput
   ·cases h
  ·cases h
 where putC_len : ∀ {cs xs cs' : List CV} {off : Nat}, putC cs off xs = some cs' → cs'.length = cs.length
 | cs, [], cs', 0, h => by cases cs <;> (simp [putC] at h; subst h; rfl)
 | c :: cs, x :: xs, cs', 0, h => by
  simp only [putC] at h
  split at h
  ·rename_i l hl; cases h; simp [putC_len hl]
  ·cases h
 | c :: cs, xs, cs', off + 1, h => by
  simp only [putC] at h
  split at h
  ·rename_i l hl; cases h; simp [putC_len hl]
  ·cases h
 | [], _ :: _, _, 0, h => by simp [putC] at h
 | [], _, _, _ + 1, h => by simp [putC] at h
theorem eff_sound {P : Program} {o : Oper} {s : List AV} {H : List Ent} {K : AV → List Ent → Prop} (h : effK P o s H K) : EffW P o s H K := by
 unfold effK at h
 split at h
 ·rename_i T ho
  split at h
  ·rename_i i hi
   split at h
   ·rename_i z hz
    exact box_n h (alloc_sound ho hi hz) fun ρ w a _ => ⟨z.cells, cellsV_rel ρ z, by
     unfold execOp
     simp only [ho, Instr.alloc, Sem.run_bind, run_zeroValue hi hz, Result.andThen_ok]
     rfl⟩
   ·exact h.elim
  ·exact h.elim
 ·rename_i T x ho
  split at h
  ·rename_i cs hx
   exact box_n h (box_sound ho hx) fun ρ w a hr => ⟨(a.eval x).cells, avCells_rel hx (opv_rel hr x), by
    unfold execOp
    simp only [ho]
    rfl⟩
  ·exact h.elim
 ·rename_i T x y ho
  split at h
  ·rename_i i off hx
   rw [nthE_eq] at h
   split at h
   ·rename_i inf xs T' cs hi hy hent
    split at h
    ·rename_i cs' hone hlen hput
     obtain ⟨_, h⟩ := setEK_spec h
     refine (store_sound ho hx hy hent rfl hi hone (Nat.eq_of_beq_eq_true hlen) fun ρ S w l ys hl hent hys => ?_).w h
     obtain ⟨l', arr, hl', hb, hrel⟩ := hent
     have : l' = l := Option.some.inj (hl'.symm.trans hl)
     subst this
     obtain ⟨hfit, hnew⟩ := putC_rel hput hrel hys
     exact ⟨arr, T', hb, by simpa using hfit, fun w' hw' => ⟨l', _, hl', hw', by simpa using hnew⟩⟩
    ·exact h.elim
   ·rename_i inf xs T' sz n cs hi hy hent
    split at h
    ·rename_i hone hlen
     obtain ⟨hfit, h⟩ := h
     obtain ⟨_, h⟩ := setEK_spec h
     refine (store_sound ho hx hy hent rfl hi hone (Nat.eq_of_beq_eq_true hlen) fun ρ S w l ys hl hent hys => ?_).w h
     obtain ⟨l', arr, hl', hb, hcl, hnc, hcm, hasz, hrel⟩ := hent
     have : l' = l := Option.some.inj (hl'.symm.trans hl)
     subst this
     have hyl := RelL_len hys
     have hnl : n * sz ≤ arr.size := by rw [hasz]; exact Nat.mul_le_mul_right _ hnc
     refine ⟨arr, T', hb, by omega, fun w' hw' => ⟨l', _, hl', hw', ?_, hnc, hcm, ?_, ?_⟩⟩
     ·simp; omega
     ·simp; omega
     ·have e : (arr.toList.take off ++ ys ++ arr.toList.drop (off + ys.length)).toArray.toList.take (n * sz) = (arr.toList.take (n * sz)).take off ++ ys ++ (arr.toList.take (n * sz)).drop (off + ys.length) := by
       apply List.ext_getElem?
       intro j
       simp only [List.getElem?_take, List.getElem?_append, List.getElem?_drop, List.length_append, List.length_take, Array.length_toList]
       by_cases h1 : j < off
       ·have : min off arr.size = off := by omega
        have h2 : min off (min (n * sz) arr.size) = off := by omega
        simp [this, h2, h1, show j < off + ys.length by omega, show j < n * sz by omega]
       ·have : min off arr.size = off := by omega
        have h2 : min off (min (n * sz) arr.size) = off := by omega
        by_cases h3 : j < off + ys.length
        ·simp [this, h2, h1, h3, show j < n * sz by omega]
        ·simp only [this, h2, h1, h3, if_false]
         by_cases h4 : j < n * sz
         ·simp [h4, show off + ys.length + (j - (off + ys.length)) = j by omega]
         ·simp [h4]; omega
      rw [e]
      have := RelL_append (RelL_append (RelL_take off hrel) hys) (RelL_drop (off + xs.length) hrel)
      rw [hyl] at this ⊢
      exact this
    ·exact h.elim
   ·exact h.elim
  ·exact h
  ·exact h.elim
 ·rename_i T len parts ho
  split at h
  ·rename_i e hu
   split at h
   ·rename_i inf hi
    split at h
    ·rename_i z hz
     split at h
     ·rename_i cs hb hf
      have hcl : cs.length = len * inf.size := by rw [fillC_len hf, anys_len]
      have hlm : len ≤ maxLen := by have := Nat.le_of_ble_eq_true hb; simp only [maxLen]; omega
      exact row_n h hlm hcl (buildSlice_run ho hu hi hz hb hf)
     ·exact h.elim
    ·exact h.elim
   ·exact h.elim
  ·exact h.elim
 ·rename_i args ts ho
  split at h
  ·rename_i T U x y hts hxy
   split at h
   ·rename_i hTU
    have hTU' := Nat.eq_of_beq_eq_true hTU
    subst hTU'
    obtain ⟨x', y', hargs, rfl, rfl⟩ := opvs_two hxy
    exact appendK_sound ho hargs hts h
   ·exact h
  ·exact h.elim
 ·exact h
end Go.AX
