/-
  Lemmas (Ax8 Ax9).
-/
import Derived.Deep.Quiet
import Derived.StillTail
import Derived.Test.YtgogonnnojcioaaGreatDoorMde1
set_option linter.unusedVariables false
set_option linter.unusedSimpArgs false
namespace Go.AX
def Qjl (P : Program) (f : FuncId) : Prop := ∃ fn, P.funcs[f]? = some fn /\ (fn.name == "runtime.NumGoroutine") = false /\ fn.body.isSome = true
def Qth (ρ : List Loc) : Out -> Ending -> Prop
 | .val av, e => ∃ v, e = .returned v /\ av.rel ρ v
 | .vals l, e => ∃ xs : List Value, e = .returned (.tuple xs.toArray) /\ RelS ρ l xs
 | .pan chain, e => e = .panicked chain
structure SpecH (P : Program) (f : FuncId) (args : List AV) (H : List Ent) (K : Out -> List Ent -> Prop) : Prop where
 ok : Qjl P f
 run : ∀ (ρ : List Loc) (S : Nat -> Prop) (w : World) (vs : List Value), Sat ρ S H w -> RelS ρ args vs -> Calls P f vs.toArray w fun e w' =>
  ∃ ρ' S' H' out, Sat ρ' S' H' w' /\ Ev ρ S H w ρ' S' H' w' /\ Qth ρ' out e /\ K out H'
theorem SpecH.mono {P : Program} {f : FuncId} {args : List AV} {H : List Ent} {K K' : Out -> List Ent -> Prop} (h : SpecH P f args H K) (hk : ∀ out H', K out H' -> K' out H') : SpecH P f args H K' :=
 ⟨h.ok, fun ρ S w vs hs hr => (h.run ρ S w vs hs hr).mono fun _ _ ⟨ρ', S', H', out, a, b, c, d⟩ => ⟨ρ', S', H', out, a, b, c, hk _ _ d⟩⟩
inductive QA8 (P : Program) (f : FuncId) (args : List AV) (H : List Ent) (K : AV -> Prop) : Prop where
 | intro (x : Value) (spec : SpecH P f args H fun out H' => out = .val (.c (.v x)) /\ H' = H) (next : Qlb x fun x => K (.c (.v x)))
def wkC : CV -> CV -> Prop
 | _, .any => True
 | c, d => c = d
def wkCs : List CV -> List CV -> Prop
 | [], [] => True
 | c :: cs, d :: ds => wkC c d /\ wkCs cs ds
 | _, _ => False
def wkS : List AV -> List AV -> Prop
 | [], [] => True
 | a :: s, b :: t => match b with
  | .c .any => wkS s t
  | .c (.v x) => a = .c (.v x) /\ wkS s t
  | .c (.lp i o) => a = .c (.lp i o) /\ wkS s t
  | .c (.sl i n) => a = .c (.sl i n) /\ wkS s t
  | .agg cs => a = .agg cs /\ wkS s t
 | _, _ => False
def wkE : Ent -> Ent -> Prop
 | _, .dead => True
 | .blk T cs, .blk U ds => T = U /\ wkCs cs ds
 | .row T a n cs, .row U b m ds => T = U /\ a = b /\ n = m /\ cs = ds
 | .fact F, .fact G => ∀ w, F w -> G w
 | .fz T sz n xs b cap, .fz T' sz' n' xs' b' cap' => T = T' /\ sz = sz' /\ n = n' /\ xs = xs' /\ b = b' /\ cap = cap'
 | .fz T sz n xs b cap, .fact G => ∀ w, RowF T sz n xs b cap w -> G w
 | .app T sz xs a n cap, .app T' sz' xs' a' n' cap' => (T = T' /\ sz = sz' /\ xs = xs' /\ a = a' /\ n = n' /\ cap = cap') \/ (xs' = [] /\ a' = none /\ n' = 0 /\ cap' = 0) \/ (T = T' /\ sz = sz' /\ xs' = xs.take (n' * sz) /\ a = a' /\ n' <= n /\ cap = cap')
 | .mp b es c, .mp b' es' c' => b = b' /\ es = es' /\ c = c'
 | .fam B F, .fam B' F' => (∀ b, B' b ↔ B b) /\ ∀ w, F w -> F' w
 | .dead, .app _ _ xs a n cap => xs = [] /\ a = none /\ n = 0 /\ cap = 0
 | _, _ => False
def wkH : List Ent -> List Ent -> Prop
 | _, [] => True
 | e :: H, f :: G => wkE e f /\ wkH H G
 | [], _ :: _ => False
def okC (n : Nat) : CV -> Prop
 | .lp i _ | .sl i _ => i < n
 | _ => True
def okCs (n : Nat) : List CV -> Prop
 | [] => True
 | c :: cs => okC n c /\ okCs n cs
def Qnh (n : Nat) : List CV -> Bool
 | [] => true
 | .lp i _ :: cs => match Nat.blt i n with | true => Qnh n cs | false => false
 | .sl i _ :: cs => match Nat.blt i n with | true => Qnh n cs | false => false
 | _ :: cs => Qnh n cs
def okSB (n : Nat) : List AV -> Bool
 | [] => true
 | .c (.lp i _) :: s => match Nat.blt i n with | true => okSB n s | false => false
 | .c (.sl i _) :: s => match Nat.blt i n with | true => okSB n s | false => false
 | .agg cs :: s => match Qnh n cs with | true => okSB n s | false => false
 | _ :: s => okSB n s
def okE (n : Nat) : Ent -> Prop
 | .blk _ cs | .row _ _ _ cs => okCs n cs
 | _ => True
def okH (n : Nat) : List Ent -> Prop
 | [] => True
 | e :: H => okE n e /\ okH n H
def Qlc : List AV -> (List AV -> Prop) -> Prop
 | [], K => K []
 | a :: s, K => Qer a fun a => Qlc s fun s => K (a :: s)
def Qmj : List Ent -> (List Ent -> Prop) -> Prop
 | [], K => K []
 | e :: H, K => Qmj H fun H => K (e :: H)
def mkS : Nat -> Nat -> List (Nat × AV) -> List AV
 | 0, _, _ => []
 | n + 1, k, l => look k l :: mkS n (k + 1) l
 where
 look (k : Nat) : List (Nat × AV) -> AV
  | [] => .c .any
  | (j, a) :: l => match Nat.beq j k with | true => a | false => look k l
def padB : List Ent -> Bool
 | [] => true
 | .app _ _ [] none 0 0 :: es => padB es
 | .dead :: es => padB es
 | _ :: _ => false
def Qxl (E : List AV -> List Ent -> (Ex -> List AV -> List Ent -> Prop) -> Prop) (K : Ex -> List AV -> List Ent -> Prop) (n : Nat) : List AV -> List Ent -> Prop :=
 Nat.rec (motive := fun _ => List AV -> List Ent -> Prop) (fun _ _ => False)
  (fun _ ih s H => E s H fun e s' H' => match e with
   | .normal => ih s' H'
   | .exit n => K (.exit n) s' H'
   | .ret => K .ret s' H'
   | .pan c => K (.pan c) s' H') n
def TurnS (H G : List Ent) : Prop := G.length = H.length /\ ∀ (ρ : List Loc) (S : Nat -> Prop) (w : World), Sat ρ S H w -> ∃ S', Sat ρ S' G w /\ Ev ρ S H w ρ S' G w
inductive LoopN (E : List AV -> List Ent -> (Ex -> List AV -> List Ent -> Prop) -> Prop) (s : List AV) (H : List Ent) (K : Ex -> List AV -> List Ent -> Prop) : Prop where
 | intro (ι : Type) (inv : ι -> Prop) (sl : ι -> List AV) (hp : ι -> List Ent) (μ : ι -> Nat) (pad : List Ent) (padok : padB pad = true)
   (len : ∀ i, (hp i).length = (H ++ pad).length) (oks : ∀ i, okSB (H ++ pad).length (sl i) = true) (okh : ∀ i, inv i -> okH (H ++ pad).length (hp i))
   (start : ∃ i, inv i /\ wkS s (sl i) /\ wkH (H ++ pad) (hp i))
   (round : ∀ i, inv i -> Qlc (sl i) fun s => Qmj (hp i) fun H => E s H fun e s' H' => match e with
    | .normal => ∃ j, inv j /\ μ j < μ i /\ wkS s' (sl j) /\ wkH H' (hp j)
    | .exit n => K (.exit n) s' H'
    | .ret => K .ret s' H'
    | .pan c => K (.pan c) s' H')
 | unroll (n : Nat) (rounds : Qxl E K n s H)
 | introS (ι : Type) (inv : ι -> Prop) (sl : ι -> List AV) (hp : ι -> List Ent) (μ : ι -> Nat) (pad : List Ent) (padok : padB pad = true)
   (len : ∀ i, (hp i).length = (H ++ pad).length) (oks : ∀ i, okSB (H ++ pad).length (sl i) = true) (okh : ∀ i, inv i -> okH (H ++ pad).length (hp i))
   (start : ∃ i, inv i /\ wkS s (sl i) /\ ∃ G, TurnS (H ++ pad) G /\ wkH G (hp i))
   (round : ∀ i, inv i -> Qlc (sl i) fun s => Qmj (hp i) fun H => E s H fun e s' H' => match e with
    | .normal => ∃ j, inv j /\ μ j < μ i /\ wkS s' (sl j) /\ ∃ G, TurnS H' G /\ wkH G (hp j)
    | .exit n => K (.exit n) s' H'
    | .ret => K .ret s' H'
    | .pan c => K (.pan c) s' H')
def kind (P : Program) (o : Op) : Nat :=
 match o with
 | .alloc _ | .box _ _ | .store _ _ _ | .buildSlice _ _ _ => 1
 | .makeSlice .. | .makeMap .. | .mapUpdate .. | .insert .. | .mapEntry .. | .entryStore .. | .range .. | .next .. | .entry .. => 1
 | .convert _ dst _ => match P.underlying dst with | some (.slice _) => 1 | _ => 0
 | .call { callee := .builtin b, .. } => match b with | .len | .cap | .min | .max | .unsafeSliceData => 0 | _ => 1
 | .call { callee := .value (.func f), .. } => match P.funcs[f]? with | some fn => (match fn.body with | none => 1 | some _ => 2) | none => 2
 | .call { callee := .value _, .. } => 2
 | .call { callee := .invoke .., .. } => 2
 | .panic _ => 3
 | _ => 0
def pvs : List Value -> List AV
 | [] => []
 | x :: xs => .c (.v x) :: pvs xs
inductive InvN (P : Program) (t : TypeId) (v : Value) (name : String) (K : FuncId -> Value -> Prop) : Prop where
 | intro (f : FuncId) (recv : Value) (run : ∀ w, (Go.method (P.types.size + Made.depth) t v name).run P w = .ok (f, recv) w) (next : K f recv)
def Qxf (P : Program) (s : List AV) (o : Op) (K : FuncId -> List AV -> Prop) : Prop :=
 match o with
 | .call { callee := .value f, args, .. } => match opv s f with
  | .c (.v (.func (.func g) first cap)) => K g (pvs first.toList ++ opvs s args.toList ++ pvs cap.toList)
  | _ => False
 | .call { callee := .invoke r name, args, .. } => match opv s r with
  | .c (.v (.iface t v)) => InvN P t v name fun f recv => K f (.c (.v recv) :: opvs s args.toList)
  | _ => False
 | _ => False
def panK (s : List AV) (o : Op) (H : List Ent) (K : Out -> List Ent -> Prop) : Prop :=
 match o with
 | .panic x => match opv s x with
  | .c (.v (.iface t v)) => K (.pan [{ v := .iface t v, recovered := false }]) H
  | _ => False
 | _ => False
def Qjm (P : Program) (o : Oper) (s : List AV) (H : List Ent) (K : Out -> List Ent -> Prop) : Prop :=
 match kind P o.op with
 | 0 => Qss P o s H fun av => K (.val av) H
 | 1 => effK P o s H fun av H' => K (.val av) H'
 | 3 => panK s o.op H K
 | _ => Qxf P s o.op fun f args => SpecH P f args H K
def Qd3 (ops : Array Oper) (o : Oper) (s : List AV) (A B : List AV -> Prop) : Prop :=
 match o.guard with
 | none => A s
 | some (j, want) =>
  match (ops[j]?).bind (·.dst) with
  | none => False
  | some d => match nth s d with
   | .c (.v (.bool b)) => brd b (setK s d (.c (.v (.bool true))) (bif want then A else B)) (setK s d (.c (.v (.bool false))) (bif want then B else A))
   | .c (.v (.tuple _)) => B s
   | _ => False
def Qlj (P : Program) (ops : Array Oper) (l : List Oper) : List AV -> List Ent -> (Ex -> List AV -> List Ent -> Prop) -> Prop :=
 List.rec (motive := fun _ => List AV -> List Ent -> (Ex -> List AV -> List Ent -> Prop) -> Prop)
  (fun s H K => K .normal s H)
  (fun o _ ih s H K => Qd3 ops o s (fun s => Qjm P o s H fun out H' => match out with
    | .val av => putK s o.dst av fun s' => ih s' H' K
    | .vals _ => False
    | .pan c => K (.pan c) s H')
   (fun s => putK s o.dst (.c (.v undef)) fun s' => ih s' H K)) l
theorem Qpm (P : Program) (ops : Array Oper) (o : Oper) (rest : List Oper) (s : List AV) (H : List Ent) (K : Ex -> List AV -> List Ent -> Prop) :
  Qlj P ops (o :: rest) s H K = Qd3 ops o s (fun s => Qjm P o s H fun out H' => match out with
    | .val av => putK s o.dst av fun s' => Qlj P ops rest s' H' K
    | .vals _ => False
    | .pan c => K (.pan c) s H')
   (fun s => putK s o.dst (.c (.v undef)) fun s' => Qlj P ops rest s' H K) := rfl
def Qs7 : List CV -> Bool
 | [] => true
 | .any :: _ => false
 | _ :: cs => Qs7 cs
def detA : AV -> Bool
 | .c .any => false
 | .c _ => true
 | .agg cs => Qs7 cs
def Qoj (P : Program) (o : Oper) (s : List AV) (H : List Ent) (K : AV -> Prop) : Prop :=
 match kind P o.op with
 | 0 => Qss P o s H fun av => match detA av with | true => K av | false => False
 | 2 => Qxf P s o.op fun f args => QA8 P f args H K
 | _ => False
def Qs4 (P : Program) (ops : Array Oper) (l : List Oper) : List AV -> List Ent -> (List AV -> Prop) -> Prop :=
 List.rec (motive := fun _ => List AV -> List Ent -> (List AV -> Prop) -> Prop)
  (fun s _ K => K s)
  (fun o _ ih s H K => Qd3 ops o s (fun s => Qoj P o s H fun av => putK s o.dst av fun s' => ih s' H K)
   (fun s => putK s o.dst (.c (.v undef)) fun s' => ih s' H K)) l
theorem Qs3 (P : Program) (ops : Array Oper) (o : Oper) (rest : List Oper) (s : List AV) (H : List Ent) (K : List AV -> Prop) :
  Qs4 P ops (o :: rest) s H K = Qd3 ops o s (fun s => Qoj P o s H fun av => putK s o.dst av fun s' => Qs4 P ops rest s' H K)
   (fun s => putK s o.dst (.c (.v undef)) fun s' => Qs4 P ops rest s' H K) := rfl
def Qa4 : Array Bool -> List Nat -> Array Bool
 | ls, [] => ls
 | ls, k :: l => Qa4 (ls.setIfInBounds k true) l
def preB (md : Region.Mode) (ops : Array Oper) : List Nat -> Array Bool -> Bool
 | [], _ => true
 | k :: l, ls => (Region.ready md ops ls).contains k && Region.free md ops ls k && preB md ops l (ls.setIfInBounds k true)
def tlB (md : Region.Mode) (ops : Array Oper) : List (Nat × Nat) -> List Nat -> Array Bool -> Bool
 | [], rem, ls => rem.isEmpty && (Region.ready md ops ls).isEmpty
 | (k, 0) :: l, rem, ls => (Region.ready md ops ls).contains k && decide (Region.ready md ops (Qa4 ls rem) = [k]) && !rem.contains k && tlB md ops l rem (ls.setIfInBounds k true)
 | (k, 1) :: l, rem, ls => (Region.ready md ops ls).contains k && Region.free md ops ls k && !rem.contains k && tlB md ops l rem (ls.setIfInBounds k true)
 | (k, _) :: l, rem, ls => rem.contains k && decide (Region.ready md ops (Qa4 ls (rem.erase k)) = [k]) && tlB md ops l (rem.erase k) (ls.setIfInBounds k true)
def Qak (tl : List (Nat × Nat)) : List Nat := (tl.filter fun k => Nat.beq k.2 2).map Prod.fst
def Qbt (tl : List (Nat × Nat)) : List Nat := (tl.filter fun k => !Nat.beq k.2 2).map Prod.fst
def QAy : Operand -> Bool
 | .const _ => true
 | _ => false
structure MkD where
 val : Nat -> Value
 cells : Array Value
 T : TypeId
 cap : Nat
 ent : Ent
 av : Nat -> AV
def mkD (P : Program) (o : Oper) : Option MkD :=
 match o.op with
 | .alloc T => match P.info? T with
  | some inf => match inf.zero with
   | some z => some ⟨fun b => .pointer (some ⟨b, 0, none⟩), z.cells, T, 0, .blk T (Qip z), fun i => .c (.lp i 0)⟩
   | none => none
  | none => none
 | .buildSlice T len parts => match P.underlying T with
  | some (.slice e) => match P.info? e with
   | some inf => match inf.zero with
    | some _ => match parts.toList.all fun x => QAy x.2 with
     | true => match Nat.ble (len + len * inf.size) 10000, Qjq (fun i => some (i * inf.size, inf.size)) [] parts.toList (anys (len * inf.size)) with
      | true, some cs => match Qbr cs with
       | some xs => some ⟨fun b => .slice (some ⟨b, 0, none⟩) len len, xs.toArray, e, len, .row e inf.size len cs, fun i => .c (.sl i len)⟩
       | none => none
      | _, _ => none
     | false => none
    | none => none
   | none => none
  | _ => none
 | _ => none
def Qpi (P : Program) (md : Region.Mode) (ops : Array Oper) (i : Nat) : Bool :=
 match ops[i]? with
 | some o => (mkD P o).isSome && o.guard.isNone && o.dst.isSome && o.after.all fun e => !Region.binds md e
 | none => false
def Qwp (md : Region.Mode) (ops : Array Oper) (t0 : Nat) : List Nat -> Bool
 | [] => true
 | i :: l => (t0 :: l).any (fun j => Region.waitsFor md ops j i) && Qwp md ops t0 l
def Qmm (md : Region.Mode) (ops : Array Oper) (hd : List Nat) : List Nat -> Bool
 | [] => hd.isEmpty
 | t0 :: l => Qwp md ops t0 hd && l.all fun t => (t0 :: l).any fun t' => Region.waitsFor md ops t t'
def hdB (md : Region.Mode) (ops : Array Oper) (fl : List Nat) : List (Nat × Nat) -> Array Bool -> Bool
 | [], _ => true
 | (k, 0) :: l, ls => (Region.ready md ops ls).contains k && decide (Region.ready md ops (Qa4 ls fl) = [k]) && hdB md ops fl l (ls.setIfInBounds k true)
 | (k, _) :: l, ls => (Region.ready md ops ls).contains k && Region.free md ops ls k && hdB md ops fl l (ls.setIfInBounds k true)
def Qh4 (hd : List (Nat × Nat)) : List Nat := (hd.filter fun k => Nat.ble k.2 1).map Prod.fst
def disj (a b : List Nat) : Bool := a.all fun i => !b.contains i
def Qna (P : Program) (md : Region.Mode) (ops : Array Oper) (pre : List Nat) (hd tl : List (Nat × Nat)) : Bool :=
 (Region.noSelect ops && decide (pre.length + hd.length + tl.length = ops.size) && ((List.range ops.size).all fun i => pre.contains i || (hd.map Prod.fst).contains i || (tl.map Prod.fst).contains i)) &&
  (disj pre (tl.map Prod.fst) && disj (hd.map Prod.fst) (tl.map Prod.fst) && disj (Qbt tl) (Qak tl) && decide (Qak tl).Nodup) &&
  ((Qak tl).all (Qpi P md ops) && (Qak tl).all (Region.free md ops (Qa4 (Array.replicate ops.size false) pre))) &&
  (preB md ops pre (Array.replicate ops.size false) && ((Qbt tl).isEmpty || Qmm md ops (Qh4 hd) (Qbt tl))) &&
  (hdB md ops (Qak tl) hd (Qa4 (Array.replicate ops.size false) pre) && tlB md ops tl (Qak tl) (Qa4 (Qa4 (Array.replicate ops.size false) pre) (hd.map Prod.fst)))
structure BlindW (P : Program) (o : Oper) (s : List AV) (K : AV -> Prop) (x : Value) : Prop where
 plain : Qar s o.op.operands.toList = true
 run : ∀ w, (execOp (Qat s) o).run P w = .ok (.value x) w
 next : K (.c (.v x))
def Qfo (P : Program) (o : Oper) (s : List AV) (K : AV -> Prop) : Prop :=
 match o.op with
 | .move x => Qer (opv s x) K
 | .assign x => asgK s x K
 | .fieldAddr T x f => match opv s x with
  | .c (.lp i off) => match Qe8 P T f with | some fo => Qph fo fun fo => K (.c (.lp i (off + fo))) | none => False
  | .c (.v (.pointer (some a))) => match Qe8 P T f with | some fo => Qph fo fun fo => K (.c (.v (.pointer (some (a.add fo))))) | none => False
  | _ => False
 | .slice .. => ∃ x, BlindW P o s K x
 | .call .. => ∃ x, BlindW P o s K x
 | .nilCheck x => match opv s x with
  | .c (.lp i off) => K (.c (.lp i off))
  | _ => genK P o s K
 | _ => genK P o s K
def nthO : List Oper -> Nat -> Option Oper
 | [], _ => none
 | x :: _, 0 => some x
 | _ :: xs, n + 1 => nthO xs n
def Qfh (ops : Array Oper) (k : Nat) (F : Oper -> Prop) : Prop := match nthO ops.toList k with | some o => F o | none => False
def Qio (P : Program) (ops : Array Oper) (l : List Nat) : List AV -> (List AV -> Prop) -> Prop :=
 List.rec (motive := fun _ => List AV -> (List AV -> Prop) -> Prop)
  (fun s K => K s)
  (fun k _ ih s K => Qfh ops k fun o => Qd3 ops o s (fun s => Qfo P o s fun av => putK s o.dst av fun s' => ih s' K)
   (fun s => putK s o.dst (.c (.v undef)) fun s' => ih s' K)) l
def QAi (P : Program) (o : Oper) (s : List AV) (H : List Ent) (how : Nat) (K : AV -> List Ent -> Prop) : Prop :=
 match how with
 | 0 => Qjm P o s H fun out H' => match out with | .val av => Nd (wkH H' H) (K av H') | _ => False
 | 1 => Qss P o s H fun av => match detA av with | true => K av H | false => False
 | _ => Qfo P o s fun av => K av H
def Qpn (P : Program) (ops : Array Oper) (l : List (Nat × Nat)) : List AV -> List Ent -> (List AV -> List Ent -> Prop) -> Prop :=
 List.rec (motive := fun _ => List AV -> List Ent -> (List AV -> List Ent -> Prop) -> Prop)
  (fun s H K => K s H)
  (fun kb _ ih s H K => Qfh ops kb.1 fun o => Qd3 ops o s (fun s => QAi P o s H kb.2 fun av H' => putK s o.dst av fun s' => ih s' H' K)
   (fun s => putK s o.dst (.c (.v undef)) fun s' => ih s' H K)) l
structure ReadC (P : Program) (C : World -> Prop) (o : Oper) (s : List AV) (K : AV -> Prop) (x : Value) : Prop where
 sel : ∀ cs b, o.op ≠ .select cs b
 plain : Qar s o.op.operands.toList = true
 run : ∀ w, C w -> (execOp (Qat s) o).run P w = .ok (.value x) w
 next : K (.c (.v x))
def QAj (P : Program) (C : World -> Prop) (o : Oper) (s : List AV) (H : List Ent) (how : Nat) (K : AV -> List Ent -> Prop) : Prop :=
 match how with
 | 0 => Qjm P o s H fun out H' => match out with | .val av => Nd (∀ w, Qax H' w -> C w) (K av H') | _ => False
 | 1 => ∃ x, ReadC P C o s (fun av => K av H) x
 | _ => Qfo P o s fun av => K av H
def Qpo (P : Program) (C : World -> Prop) (ops : Array Oper) (l : List (Nat × Nat)) : List AV -> List Ent -> (List AV -> List Ent -> Prop) -> Prop :=
 List.rec (motive := fun _ => List AV -> List Ent -> (List AV -> List Ent -> Prop) -> Prop)
  (fun s H K => K s H)
  (fun kb _ ih s H K => Qfh ops kb.1 fun o => Qd3 ops o s (fun s => QAj P C o s H kb.2 fun av H' => putK s o.dst av fun s' => ih s' H' K)
   (fun s => putK s o.dst (.c (.v undef)) fun s' => ih s' H K)) l
def ownK (P : Program) (o : Oper) (H : List Ent) (K : Out -> List Ent -> Prop) : Prop :=
 match mkD P o with
 | some D => Qfa H D.ent 0 fun H' n => K (.val (D.av n)) H'
 | none => False
def Qzw (P : Program) (o : Oper) (s : List AV) (H : List Ent) (how : Nat) (K : Out -> List Ent -> Prop) : Prop :=
 match how with
 | 0 => Qjm P o s H K
 | 1 => Qfo P o s fun av => K (.val av) H
 | _ + 2 => ownK P o H K
def Qd2 (P : Program) (ops : Array Oper) (l : List (Nat × Nat)) : List AV -> List Ent -> (Ex -> List AV -> List Ent -> Prop) -> Prop :=
 List.rec (motive := fun _ => List AV -> List Ent -> (Ex -> List AV -> List Ent -> Prop) -> Prop)
  (fun s H K => K .normal s H)
  (fun kb _ ih s H K => Qfh ops kb.1 fun o => Qd3 ops o s (fun s => Qzw P o s H kb.2 fun out H' => match out with
    | .val av => putK s o.dst av fun s' => ih s' H' K
    | .vals _ => False
    | .pan c => K (.pan c) s H')
   (fun s => putK s o.dst (.c (.v undef)) fun s' => ih s' H K)) l
def Qs5 (P : Program) (ops : Array Oper) (l : List Nat) : List AV -> List Ent -> (List AV -> Prop) -> Prop :=
 List.rec (motive := fun _ => List AV -> List Ent -> (List AV -> Prop) -> Prop)
  (fun s _ K => K s)
  (fun k _ ih s H K => Qfh ops k fun o => Qd3 ops o s (fun s => Qoj P o s H fun av => putK s o.dst av fun s' => ih s' H K)
   (fun s => putK s o.dst (.c (.v undef)) fun s' => ih s' H K)) l
inductive Ord where
 | nil
 | cons (i : Nat) (sub rest : Ord)
def Ord.keys : Ord -> List Nat
 | .nil => []
 | .cons i _ r => i :: r.keys
def ordB (md : Region.Mode) (ops : Array Oper) : Ord -> Array Bool -> Nat -> Bool
 | .nil, _, _ => true
 | .cons _ _ _, _, 0 => false
 | .cons i sub rest, ls, n + 1 => (decide (Region.ready md ops (ls.setIfInBounds i true) = sub.keys) && ordB md ops sub (ls.setIfInBounds i true) n) && ordB md ops rest ls (n + 1)
def andO (rest : Ord) (A B : Prop) : Prop := Ord.rec (motive := fun _ => Prop) A (fun _ _ _ _ _ => A /\ B) rest
def Qlk (P : Program) (ops : Array Oper) (t : Ord) : Bool -> List AV -> List Ent -> (Ex -> List AV -> List Ent -> Prop) -> Prop :=
 Ord.rec (motive := fun _ => Bool -> List AV -> List Ent -> (Ex -> List AV -> List Ent -> Prop) -> Prop)
  (fun head s H K => match head with | true => K .normal s H | false => True)
  (fun i _ rest isub irest _ s H K => andO rest (Qfh ops i fun o => Qd3 ops o s (fun s => Qjm P o s H fun out H' => match out with
    | .val av => putK s o.dst av fun s' => isub true s' H' K
    | .vals _ => False
    | .pan c => K (.pan c) s H') (fun s => putK s o.dst (.c (.v undef)) fun s' => isub true s' H K)) (irest false s H K)) t
def Qy0 (md : Region.Mode) (ops : Array Oper) (pre : List Nat) (t : Ord) (n : Nat) : Bool :=
 Region.noSelect ops && decide (ops.size = pre.length + n) && preB md ops pre (Array.replicate ops.size false) && decide (Region.ready md ops (Qa4 (Array.replicate ops.size false) pre) = t.keys) && ordB md ops t (Qa4 (Array.replicate ops.size false) pre) n
def exOk : Ex -> Exit -> Prop
 | .normal, .normal => True
 | .exit n, .exit m => n = m
 | .ret, .ret => True
 | .pan c, .panic d => c = d
 | _, _ => False
def relX (ex : Ex) (ρ : List Loc) (s : List AV) (xs : List Value) : Prop :=
 match ex with
 | .pan _ => True
 | _ => RelS ρ s xs
def Post (ρ : List Loc) (S : Nat -> Prop) (H : List Ent) (w : World) (dfs : List Deferred) (K : Ex -> List AV -> List Ent -> Prop) (e : Exit) (a' : Act) (w' : World) : Prop :=
 ∃ ρ' S' s' H' ex, Sat ρ' S' H' w' /\ Ev ρ S H w ρ' S' H' w' /\ relX ex ρ' s' a'.tmps.toList /\ a'.defers = dfs /\ exOk ex e /\ K ex s' H'
def SemR (P : Program) (ops : Array Oper) (s : List AV) (H : List Ent) (K : Ex -> List AV -> List Ent -> Prop) : Prop :=
 ∀ (id : Nat) (ρ : List Loc) (S : Nat -> Prop) (w : World) (a : Act), Sat ρ S H w -> RelS ρ s a.tmps.toList -> (Code.region id ops true).wp P (Post ρ S H w a.defers K) a w
inductive DrawN (P : Program) (ops : Array Oper) (s : List AV) (H : List Ent) (K : Ex -> List AV -> List Ent -> Prop) : Prop where
 | quiet (ok : Region.lexB .any ops = true) (next : Qs4 P ops ops.toList s H fun s' => K .normal s' H)
 | plan (pre : List Nat) (hd tl : List (Nat × Nat)) (ok : Qna P .any ops pre hd tl = true) (next : Qio P ops pre s fun s1 => Qpn P ops hd s1 H fun s2 H2 => Qd2 P ops tl s2 H2 K)
 | planQ (pre hd : List Nat) (tl : List (Nat × Nat)) (ok : Qna P .any ops pre (hd.map fun k => (k, 1)) tl = true) (next : Qio P ops pre s fun s1 => Qs5 P ops hd s1 H fun s2 => Qd2 P ops tl s2 H K)
 | planC (C : World -> Prop) (pre : List Nat) (hd tl : List (Nat × Nat)) (ok : Qna P .any ops pre hd tl = true) (now : ∀ w, Qax H w -> C w) (next : Qio P ops pre s fun s1 => Qpo P C ops hd s1 H fun s2 H2 => Qd2 P ops tl s2 H2 K)
 | tree (pre : List Nat) (t : Ord) (n : Nat) (ok : Qy0 .any ops pre t n = true) (next : Qio P ops pre s fun s1 => Qlk P ops t true s1 H K)
 | sem (next : SemR P ops s H K)
theorem DrawN.calm {P : Program} {ops : Array Oper} {s : List AV} {H : List Ent} {K : Ex -> List AV -> List Ent -> Prop} (ok : (Region.lexB .any ops && ops.toList.all fun o => !Nat.beq (kind P o.op) 1) = true) (next : Qs4 P ops ops.toList s H fun s' => K .normal s' H) : DrawN P ops s H K :=
 .quiet (by rw [ZAz] at ok; exact ok.1) next
def Qpr (c : Operand) (s : List AV) (A B : List AV -> Prop) : Prop :=
 match c with
 | .tmp t => match nth s t with
  | .c (.v (.bool b)) => brd b (setK s t (.c (.v (.bool true))) A) (setK s t (.c (.v (.bool false))) B)
  | _ => False
 | .const (.bool b) => brd b (A s) (B s)
 | _ => False
def seqK (E : List AV -> List Ent -> (Ex -> List AV -> List Ent -> Prop) -> Prop) (K : Ex -> List AV -> List Ent -> Prop) (e : Ex) (s : List AV) (H : List Ent) : Prop :=
 match e with
 | .normal => E s H K
 | .exit n => K (.exit n) s H
 | .ret => K .ret s H
 | .pan c => K (.pan c) s H
def Qgb (id : Nat) (K : Ex -> List AV -> List Ent -> Prop) (e : Ex) (s : List AV) (H : List Ent) : Prop :=
 match e with
 | .normal => K .normal s H
 | .exit n => bif Nat.beq n id then K .normal s H else K (.exit n) s H
 | .ret => K .ret s H
 | .pan c => K (.pan c) s H
def Qfv (P : Program) (ops : Array Oper) (draw : Bool) (s : List AV) (H : List Ent) (K : Ex -> List AV -> List Ent -> Prop) : Prop :=
 match draw with
 | false => Qlj P ops ops.toList s H K
 | true => DrawN P ops s H K
def exec (P : Program) (c : Code) : List AV -> List Ent -> (Ex -> List AV -> List Ent -> Prop) -> Prop :=
 Code.rec (motive := fun _ => List AV -> List Ent -> (Ex -> List AV -> List Ent -> Prop) -> Prop)
  (fun s H K => K .normal s H)
  (fun _ ops draw s H K => Qfv P ops draw s H K)
  (fun _ _ ia ib s H K => ia s H (seqK ib K))
  (fun c _ _ ia ib s H K => Qpr c s (fun s => ia s H K) (fun s => ib s H K))
  (fun id _ ib s H K => ib s H (Qgb id K))
  (fun _ ib s H K => LoopN ib s H K)
  (fun _ _ _ _ _ _ _ _ _ => False)
  (fun id s H K => K (.exit id) s H)
  (fun _ _ _ _ _ => False)
  (fun _ s H K => K .normal s H)
  (fun _ _ _ _ => False)
  (fun s H K => K .ret s H)
  (fun _ _ _ _ => False)
  c
def Qhq (n : Nat) (args : List AV) (K : List AV -> Prop) : Prop :=
 match n, args with
 | 0, _ => K []
 | n + 1, [] => Qhq n [] fun s => K (.c .any :: s)
 | n + 1, x :: xs => Qhq n xs fun s => K (x :: s)
def Qor (P : Program) (r : ResultVar) (s : List AV) (H : List Ent) (K : AV -> Prop) : Prop :=
 match r with
 | .tmp t => Qer (nth s t) K
 | .cell a T => match nth s a with
  | .c (.lp i off) => Qu9 P T (nthE H i) off K
  | _ => False
def Quh (P : Program) (s : List AV) (H : List Ent) (rs : List ResultVar) : (List AV -> Prop) -> Prop :=
 List.rec (motive := fun _ => (List AV -> Prop) -> Prop)
  (fun K => K [])
  (fun r _ ih K => Qor P r s H fun av => ih fun xs => K (av :: xs)) rs
def plainS : List AV -> Option (List Value)
 | [] => some []
 | .c (.v x) :: l => match plainS l with | some xs => some (x :: xs) | none => none
 | _ :: _ => none
def resK (P : Program) (rs : List ResultVar) (s : List AV) (H : List Ent) (K : Out -> Prop) : Prop :=
 match rs with
 | [r] => Qor P r s H fun av => K (.val av)
 | rs => Quh P s H rs fun l => match plainS l with
  | some xs => K (.val (.c (.v (.tuple xs.toArray))))
  | none => K (.vals l)
def endK (P : Program) (rs : List ResultVar) (K : Out -> List Ent -> Prop) (e : Ex) (s : List AV) (H : List Ent) : Prop :=
 match e with
 | .normal => resK P rs s H fun out => K out H
 | .ret => resK P rs s H fun out => K out H
 | .exit _ => False
 | .pan c => K (.pan c) H
theorem Qff : ∀ {s : List AV} {i : Nat} {v : AV} {K : List AV -> Prop}, setK s i v K -> i < s.length /\ K (s.set i v)
 | [], _, _, _, h => h.elim
 | _ :: _, 0, _, _, h => ⟨by simp, h⟩
 | _ :: s, i + 1, v, K, h => by
  have := Qff (s := s) (i := i) h
  exact ⟨by simp [this.1], by simpa using this.2⟩
theorem Qit {ρ : List Loc} : ∀ {cs : List AV} {xs : List Value}, RelS ρ cs xs -> cs.length = xs.length
 | [], [], _ => rfl
 | _ :: _, _ :: _, h => by simp [Qit h.2]
 | [], _ :: _, h => h.elim
 | _ :: _, [], h => h.elim
theorem Qj7 {ρ : List Loc} : ∀ {s : List AV} {xs : List Value} {i : Nat} {av : AV} {v : Value}, RelS ρ s xs -> av.rel ρ v -> RelS ρ (s.set i av) (xs.set i v)
 | [], [], _, _, _, _, _ => by simp [RelS]
 | _ :: _, _ :: _, 0, _, _, h, k => ⟨k, h.2⟩
 | _ :: _, _ :: _, i + 1, _, _, h, k => ⟨h.1, Qj7 h.2 k⟩
 | [], _ :: _, _, _, _, h, _ => h.elim
 | _ :: _, [], _, _, _, h, _ => h.elim
theorem Qnk {ρ : List Loc} : ∀ {s : List AV} {xs : List Value} {d : Nat} {x : Value}, RelS ρ s xs -> nth s d = .c (.v x) -> xs[d]? = some x
 | [], [], _, _, _, h => by simp [nth] at h
 | _ :: _, _ :: _, 0, _, r, h => by
  simp only [nth] at h
  have h1 := r.1
  rw [h] at h1
  have : _ = _ := h1
  simp [this]
 | _ :: _, _ :: _, d + 1, _, r, h => by
  simp only [nth] at h
  simpa using Qnk r.2 h
 | [], _ :: _, _, _, r, _ => r.elim
 | _ :: _, [], _, _, r, _ => r.elim
theorem Qjv : ∀ {xs : List Value} {d : Nat} {x : Value}, xs[d]? = some x -> xs.set d x = xs
 | [], _, _, h => by simp at h
 | _ :: _, 0, _, h => by simp at h; simp [h]
 | _ :: xs, d + 1, x, h => by simp at h; simp [Qjv (xs := xs) h]
theorem Qap {s : List AV} {d : Option Nat} {av : AV} {K : List AV -> Prop} (h : putK s d av K) :
  ∃ s', K s' /\ ∀ (ρ : List Loc) (a : Act) (v : Value), RelS ρ s a.tmps.toList -> av.rel ρ v -> RelS ρ s' (a.put d v).tmps.toList := by
 cases d with
 | none => exact ⟨s, h, fun ρ a v hr _ => hr⟩
 | some d =>
  obtain ⟨_, h⟩ := Qff h
  exact ⟨_, h, fun ρ a v hr hv => by simpa [Act.put, Array.toList_setIfInBounds] using Qj7 (i := d) hr hv⟩
theorem put_defers (a : Act) (d : Option Nat) (v : Value) : (a.put d v).defers = a.defers := by cases d <;> rfl
theorem Qbf {ops : Array Oper} {o : Oper} {s : List AV} {A B : List AV -> Prop} (h : Qd3 ops o s A B) {ρ : List Loc} {a : Act} (hr : RelS ρ s a.tmps.toList) :
  (Region.wanted o (yielded ops a.tmps) = true /\ ∃ s', A s' /\ RelS ρ s' a.tmps.toList) \/ (Region.wanted o (yielded ops a.tmps) = false /\ ∃ s', B s' /\ RelS ρ s' a.tmps.toList) := by
 unfold Qd3 at h
 split at h
 ·rename_i hg
  exact .inl ⟨by simp [Region.wanted, hg], s, h, hr⟩
 ·rename_i j want hg
  split at h
  ·exact h.elim
  ·rename_i d hd
   split at h
   ·rename_i b hb
    have hx := Qnk hr hb
    have hy : yielded ops a.tmps j = some b := by
     have : a.tmps[d]? = some (.bool b) := by simpa using hx
     simp [yielded, hd, this]
    have hset : ∀ t, b = t -> RelS ρ (s.set d (.c (.v (.bool t)))) a.tmps.toList := fun t ht => by
     have := Qj7 (i := d) hr (av := .c (.v (.bool t))) (v := .bool t) rfl
     rw [Qjv (by rw [hx, ht])] at this
     exact this
    have hw : Region.wanted o (yielded ops a.tmps) = (b == want) := by
     simp only [Region.wanted, hg, hy]
     cases b <;> cases want <;> rfl
    rw [hw]
    cases b
    ·have h1 := (Qff (Qir h rfl)).2
     cases want
     ·exact .inl ⟨rfl, _, h1, hset _ rfl⟩
     ·exact .inr ⟨rfl, _, h1, hset _ rfl⟩
    ·have h1 := (Qff (Qj4 h rfl)).2
     cases want
     ·exact .inr ⟨rfl, _, h1, hset _ rfl⟩
     ·exact .inl ⟨rfl, _, h1, hset _ rfl⟩
   ·rename_i q hq
    have hx := Qnk hr hq
    have hy : yielded ops a.tmps j = none := by
     have : a.tmps[d]? = some (.tuple q) := by simpa using hx
     simp [yielded, hd, this]
    exact .inr ⟨by simp only [Region.wanted, hg, hy]; rfl, s, h, hr⟩
   ·exact h.elim
theorem Qgl (ρ : List Loc) : ∀ xs : List Value, RelS ρ (pvs xs) xs
 | [] => trivial
 | _ :: xs => ⟨rfl, Qgl ρ xs⟩
theorem Qjx {ρ : List Loc} {s : List AV} {a : Act} (h : RelS ρ s a.tmps.toList) : ∀ l : List Operand, RelS ρ (opvs s l) (l.map a.eval)
 | [] => trivial
 | x :: l => ⟨Qah h x, Qjx h l⟩
theorem Qhv {ρ : List Loc} : ∀ {cs ds : List AV} {xs ys : List Value}, RelS ρ cs xs -> RelS ρ ds ys -> RelS ρ (cs ++ ds) (xs ++ ys)
 | [], _, [], _, _, h => by simpa using h
 | _ :: _, _, _ :: _, _, h, k => ⟨h.1, Qhv h.2 k⟩
 | [], _, _ :: _, _, h, _ => h.elim
 | _ :: _, _, [], _, h, _ => h.elim
theorem Qi9 {P : Program} {o : Oper} {s : List AV} {K : FuncId -> List AV -> Prop} (h : Qxf P s o.op K) :
  ∃ f args, K f args /\ ∀ (ρ : List Loc) (w : World) (a : Act), Qjl P f -> RelS ρ s a.tmps.toList -> ∃ vs, RelS ρ args vs /\ (execOp a.eval o).run P w = .ok (.enter f vs.toArray) w := by
 unfold Qxf at h
 split at h
 ·rename_i f args ts ho
  split at h
  ·rename_i g first cap hf
   refine ⟨_, _, h, fun ρ w a hok hr => ?_⟩
   have hfr := Qah hr f
   rw [hf] at hfr
   have hfe : a.eval f = .func (.func g) first cap := hfr
   refine ⟨first.toList ++ args.toList.map a.eval ++ cap.toList, Qhv (Qhv (Qgl ρ _) (Qjx hr _)) (Qgl ρ _), ?_⟩
   obtain ⟨fn, h1, h2, h3⟩ := hok
   unfold execOp
   have hb : fn.body.isNone = false := by cases hfn : fn.body <;> simp_all
   simp only [ho, resolve, hfe, Deferred.ofValue, invoke, callFunc, Sem.run_bind, Sem.run_pure, ZCz, run_program, h1, h2, hb, Bool.false_eq_true, if_false]
   congr 2
   apply Array.ext'
   simp
  ·exact h.elim
 ·rename_i r name args ts ho
  split at h
  ·rename_i t v hf
   obtain ⟨f, recv, hrun, h⟩ := h
   refine ⟨_, _, h, fun ρ w a hok hr => ?_⟩
   have hfr := Qah hr r
   rw [hf] at hfr
   have hfe : a.eval r = .iface t v := hfr
   refine ⟨recv :: args.toList.map a.eval, ⟨rfl, Qjx hr _⟩, ?_⟩
   obtain ⟨fn, h1, h2, h3⟩ := hok
   unfold execOp
   have hb : fn.body.isNone = false := by cases hfn : fn.body <;> simp_all
   have ha : (#[Value.iface t v] ++ args.map a.eval)[0]? = some (.iface t v) := by rw [Array.getElem?_append_left (by simp)]; rfl
   simp only [ho, resolve, hfe, invoke, callMethod, ha, Sem.run_bind, Sem.run_pure, ZCz, run_program, hrun, callFunc, h1, h2, hb, Bool.false_eq_true, if_false]
   congr 2
   apply Array.ext'
   simp
   rw [Zpz (by simp)]
  ·exact h.elim
 ·exact h.elim
theorem Qd4 {P : Program} {o : Oper} {s : List AV} {H : List Ent} {K : Out -> List Ent -> Prop} (h : Qjm P o s H K) {ρ : List Loc} {S : Nat -> Prop} {w : World} {a : Act} (hs : Sat ρ S H w) (hr : RelS ρ s a.tmps.toList)
  {next : Act -> World -> Prop} {Q : Exit -> Act -> World -> Prop}
  (hv : ∀ ρ' S' H' w' av v, Sat ρ' S' H' w' -> Ev ρ S H w ρ' S' H' w' -> av.rel ρ' v -> K (.val av) H' -> next (a.put o.dst v) w')
  (hp : ∀ ρ' S' H' w' c, Sat ρ' S' H' w' -> Ev ρ S H w ρ' S' H' w' -> K (.pan c) H' -> Q (.panic c) a w') (hn : ∀ l H', ¬ K (.vals l) H') : o.wp P a w next Q := by
 unfold Qjm at h
 split at h
 ·obtain ⟨av, hK, hrd⟩ := Qg0 h
  obtain ⟨v, hrun, hrel⟩ := hrd ρ S w a hs hr
  unfold Oper.wp
  rw [hrun]
  exact hv ρ S H w av v hs (Ev.refl _ _ _ _) hrel hK
 ·obtain ⟨av, H', hK, r, v, ρ', w', hrun, hrv, hs', hev, hrel⟩ := Qvp h ρ S w a hs hr
  unfold Oper.wp
  rw [hrun]
  rcases hrv with rfl | ⟨rfl, rfl⟩
  ·exact hv ρ' S H' w' av v hs' hev hrel hK
  ·exact hv ρ' S H' w' av _ hs' hev hrel hK
 ·unfold panK at h
  split at h
  ·rename_i x ho
   split at h
   ·rename_i t v hf
    have hxr := Qah hr x
    rw [hf] at hxr
    have hxe : a.eval x = .iface t v := hxr
    have hrun : (execOp a.eval o).run P w = .halt (.panic (.iface t v)) w := by
     unfold execOp
     simp only [ho, hxe]
     rfl
    unfold Oper.wp
    rw [hrun]
    exact hp ρ S H w _ hs (Ev.refl _ _ _ _) h
   ·exact h.elim
  ·exact h.elim
 ·obtain ⟨f, args, hspec, hcall⟩ := Qi9 (P := P) h
  obtain ⟨vs, hvs, hrun⟩ := hcall ρ w a hspec.ok hr
  unfold Oper.wp
  rw [hrun]
  refine (hspec.run ρ S w vs hs hvs).mono fun e w' ⟨ρ', S', H', out, hs', hev, hout, hK⟩ => ?_
  cases out with
  | val av =>
   obtain ⟨v, rfl, hrel⟩ := hout
   exact hv ρ' S' H' w' av v hs' hev hrel hK
  | vals l => exact absurd hK (hn l H')
  | pan c =>
   have : e = .panicked c := hout
   subst this
   exact hp ρ' S' H' w' c hs' hev hK
theorem Post.from {ρ ρ1 : List Loc} {S S1 : Nat -> Prop} {H H1 : List Ent} {w w1 : World} {dfs : List Deferred} {K : Ex -> List AV -> List Ent -> Prop} {e : Exit} {a' : Act} {w' : World}
  (hev : Ev ρ S H w ρ1 S1 H1 w1) (h : Post ρ1 S1 H1 w1 dfs K e a' w') : Post ρ S H w dfs K e a' w' := by
 obtain ⟨ρ', S', s', H', ex, h1, h2, h3, h4, h5, h6⟩ := h
 exact ⟨ρ', S', s', H', ex, h1, hev.trans h2, h3, h4, h5, h6⟩
theorem Qhg {P : Program} {ops : Array Oper} {Q Q' : Exit -> Act -> World -> Prop} (hq : ∀ e a w, Q e a w -> Q' e a w) : ∀ (l : List Oper) (a : Act) (w : World), wpList P ops Q l a w -> wpList P ops Q' l a w
 | [], a, w, h => hq _ _ _ h
 | o :: l, a, w, h => by
  unfold wpList at h ⊢
  split at h
  ·rename_i hw
   rw [if_pos hw]
   rcases h with h | ⟨h1, a0, w0, h2⟩
   ·refine .inl ?_
    have h2 := Oper.wp_mono (K' := wpList P ops Q' l) (fun a w => Qhg hq l a w) h
    revert h2
    unfold Oper.wp
    generalize (execOp a.eval o).run P w = r
    intro h2
    cases r with
    | ok n w' =>
     cases n <;> simp only [Oper.upon] at h2 ⊢ <;> first
      | exact h2
      | exact h2.mono fun e w'' he => (by
        cases e with
        | returned v => exact he
        | panicked c => exact hq _ _ _ he
        | outgrown => obtain ⟨a0, w0, h0⟩ := he; exact ⟨a0, w0, hq _ _ _ h0⟩)
    | halt x w' => cases x <;> simp only [Oper.upon] at h2 ⊢ <;> exact hq _ _ _ h2
   ·exact .inr ⟨h1, a0, w0, hq _ _ _ h2⟩
  ·rename_i hw
   rw [if_neg hw]
   exact Qhg hq l _ _ h
theorem Qdy {P : Program} {ops : Array Oper} {K : Ex -> List AV -> List Ent -> Prop} : ∀ (l : List Oper) (s : List AV) (H : List Ent), Qlj P ops l s H K ->
  ∀ (ρ : List Loc) (S : Nat -> Prop) (w : World) (a : Act), Sat ρ S H w -> RelS ρ s a.tmps.toList -> wpList P ops (Post ρ S H w a.defers K) l a w
 | [], s, H, h, ρ, S, w, a, hs, hr => ⟨ρ, S, s, H, .normal, hs, Ev.refl _ _ _ _, hr, rfl, trivial, h⟩
 | o :: l, s, H, h, ρ, S, w, a, hs, hr => by
  rw [Qpm] at h
  unfold wpList
  rcases Qbf h hr with ⟨hw, s', h', hr'⟩ | ⟨hw, s', h', hr'⟩
  ·rw [if_pos hw]
   refine .inl (Qd4 h' hs hr' (fun ρ1 S1 H1 w1 av v hs1 hev hrel hK => ?_) (fun ρ1 S1 H1 w1 c hs1 hev hK => ?_) fun _ _ h => h)
   ·obtain ⟨s2, hK2, hput⟩ := Qap hK
    have hrs : RelS ρ1 s' a.tmps.toList := by obtain ⟨t, ht⟩ := hev.pre; rw [ht]; exact Qb5 t hr'
    have ih := Qdy l s2 H1 hK2 ρ1 S1 w1 (a.put o.dst v) hs1 (hput ρ1 a v hrs hrel)
    rw [put_defers] at ih
    exact Qhg (fun e a' w' hq => hq.from hev) l _ _ ih
   ·exact ⟨ρ1, S1, s', H1, .pan c, hs1, hev, trivial, rfl, rfl, hK⟩
  ·rw [if_neg (by simp [hw])]
   obtain ⟨s2, hK2, hput⟩ := Qap h'
   have ih := Qdy l s2 H hK2 ρ S w (a.put o.dst undef) hs (hput ρ a undef hr' rfl)
   rw [put_defers] at ih
   exact ih
theorem Sat.heap {ρ : List Loc} {S : Nat -> Prop} {H : List Ent} {w w' : World} (h : Sat ρ S H w) (hh : w'.heap = w.heap) : Sat ρ S H w' :=
 ⟨h.len, fun i e he => by
  have := (h.ent i e he).move (w' := w') [] (fun _ _ => by rw [hh]) (fun b _ => by rw [hh])
  simpa using this, h.inj, h.out, fun b hb => by rw [hh]; exact h.low b hb⟩
theorem Ev.drew (ρ : List Loc) (S : Nat -> Prop) (H : List Ent) (w : World) : Ev ρ S H w ρ S H { w with drawn := w.drawn + 1 } :=
 ⟨⟨[], by simp⟩, rfl, rfl, rfl, Zcz _, fun _ _ _ => rfl, fun _ h => .inl h, fun _ h => .inl h⟩
def Cls (ρ : List Loc) (S : Nat -> Prop) (H : List Ent) (w w' : World) : Prop := ∃ S', Sat ρ S' H w' /\ Ev ρ S H w ρ S' H w'
theorem Qi6 {ρ : List Loc} : ∀ {cs : List CV} {xs ys : List Value}, Qs7 cs = true -> RelL ρ cs xs -> RelL ρ cs ys -> xs = ys
 | [], [], [], _, _, _ => rfl
 | c :: cs, x :: xs, y :: ys, h, r, q => by
  have key : Qs7 cs = true /\ x = y := by
   cases c with
   | any => simp [Qs7] at h
   | v z => exact ⟨h, (show x = z from r.1).trans (show y = z from q.1).symm⟩
   | lp i off =>
    obtain ⟨l, hl, hx⟩ := r.1
    obtain ⟨l', hl', hy⟩ := q.1
    have : l' = l := Zzz (hl'.symm.trans hl)
    subst this
    exact ⟨h, hx.trans hy.symm⟩
   | sl i n =>
    obtain ⟨l, hl, hx⟩ := r.1
    obtain ⟨l', hl', hy⟩ := q.1
    have : l' = l := Zzz (hl'.symm.trans hl)
    subst this
    exact ⟨h, hx.trans hy.symm⟩
  rw [key.2, Qi6 key.1 r.2 q.2]
 | [], _ :: _, _, _, r, _ => r.elim
 | _ :: _, [], _, _, r, _ => r.elim
 | [], [], _ :: _, _, _, q => q.elim
 | _ :: _, _ :: _, [], _, _, q => q.elim
theorem Qll {ρ : List Loc} {av : AV} {x y : Value} (h : detA av = true) (r : av.rel ρ x) (q : av.rel ρ y) : x = y := by
 cases av with
 | agg cs =>
  obtain ⟨xs, rfl, hx⟩ := r
  obtain ⟨ys, rfl, hy⟩ := q
  rw [Qi6 h hx hy]
 | c c =>
  have : ∀ z w : Value, RelL ρ [c] [z] -> RelL ρ [c] [w] -> Qs7 [c] = true -> z = w := fun z w h1 h2 h3 => by
   have := Qi6 h3 h1 h2; simpa using this
  refine this x y ⟨r, trivial⟩ ⟨q, trivial⟩ ?_
  cases c <;> first | rfl | cases h
theorem Qqd {P : Program} {o : Oper} {s : List AV} {H : List Ent} {K : AV -> Prop} (h : Qoj P o s H K) {ρ : List Loc} {S : Nat -> Prop} {w : World} {a : Act} (hr : RelS ρ s a.tmps.toList) (h0 : ∃ w', Cls ρ S H w w') :
  ∃ av v, K av /\ av.rel ρ v /\ ∀ w', Cls ρ S H w w' -> o.quietAt P a (Cls ρ S H w) w' v := by
 unfold Qoj at h
 split at h
 ·obtain ⟨av, hK, hrd⟩ := Qg0 h
  split at hK
  ·rename_i hd
   obtain ⟨w0, S0, hs0, _⟩ := h0
   obtain ⟨v, _, hrel⟩ := hrd ρ S0 w0 a hs0 hr
   refine ⟨av, v, hK, hrel, fun w' ⟨S', hs', _⟩ => ?_⟩
   obtain ⟨v', hrun, hrel'⟩ := hrd ρ S' w' a hs' hr
   have := Qll hd hrel hrel'
   subst this
   unfold Oper.quietAt
   rw [hrun]
   exact ⟨rfl, rfl⟩
  ·exact hK.elim
 ·obtain ⟨f, args, hq, hcall⟩ := Qi9 (P := P) h
  obtain ⟨x, hspec, hK⟩ := hq
  rw [Qfl] at hK
  refine ⟨_, x, hK, rfl, fun w' ⟨S', hs', hev'⟩ => ?_⟩
  obtain ⟨vs, hvs, hrun⟩ := hcall ρ w' a hspec.ok hr
  unfold Oper.quietAt
  rw [hrun]
  refine ⟨rfl, (hspec.run ρ S' w' vs hs' hvs).mono fun e w'' ⟨ρ2, S2, H2, out, hs2, hev2, hout, ho, hH⟩ => ?_⟩
  subst ho; subst hH
  obtain ⟨v, rfl, hrel⟩ := hout
  have hvx : v = x := hrel
  subst hvx
  have hρ : ρ2 = ρ := by
   obtain ⟨t, ht⟩ := hev2.pre
   have h1 := hs2.len
   have h2 := hs'.len
   have : t = [] := by
    apply Zez
    rw [ht] at h1; simp at h1; omega
   rw [ht, this, List.append_nil]
  subst hρ
  exact ⟨rfl, S2, hs2, hev'.trans hev2⟩
 ·exact h.elim
theorem Qe1 {P : Program} {ops : Array Oper} {H : List Ent} {K : List AV -> Prop} {ρ : List Loc} {S : Nat -> Prop} {w : World} (h0 : ∃ w', Cls ρ S H w w') : ∀ (l : List Oper) (s : List AV), Qs4 P ops l s H K ->
  ∀ (a : Act), RelS ρ s a.tmps.toList -> wpQuiet P ops (Cls ρ S H w) (fun a' => ∃ s', K s' /\ RelS ρ s' a'.tmps.toList /\ a'.defers = a.defers) l a
 | [], s, h, a, hr => ⟨s, h, hr, rfl⟩
 | o :: l, s, h, a, hr => by
  rw [Qs3] at h
  unfold wpQuiet
  rcases Qbf h hr with ⟨hw, s', h', hr'⟩ | ⟨hw, s', h', hr'⟩
  ·rw [if_pos hw]
   obtain ⟨av, v, hK, hrel, hq⟩ := Qqd h' hr' h0
   obtain ⟨s2, hK2, hput⟩ := Qap hK
   have ih := Qe1 h0 l s2 hK2 (a.put o.dst v) (hput ρ a v hr' hrel)
   rw [put_defers] at ih
   exact ⟨v, hq, ih⟩
  ·rw [if_neg (by simp [hw])]
   obtain ⟨s2, hK2, hput⟩ := Qap h'
   have ih := Qe1 h0 l s2 hK2 (a.put o.dst undef) (hput ρ a undef hr' rfl)
   rw [put_defers] at ih
   exact ih
theorem Quz : ∀ (l : List Oper) (i : Nat), nthO l i = l[i]?
 | [], _ => by simp [nthO]
 | _ :: _, 0 => by simp [nthO]
 | _ :: l, i + 1 => by simp [nthO, Quz l i]
theorem Qc1 {ops : Array Oper} {k : Nat} {F : Oper -> Prop} (h : Qfh ops k F) : ∃ o, ops[k]? = some o /\ F o := by
 unfold Qfh at h
 rw [Quz, Array.getElem?_toList] at h
 split at h
 ·rename_i o ho; exact ⟨o, ho, h⟩
 ·exact h.elim
theorem Qpf {P : Program} {o : Oper} {s : List AV} {K : AV -> Prop} (h : genK P o s K) {ρ : List Loc} {a : Act} (hr : RelS ρ s a.tmps.toList) : ∃ av v, K av /\ av.rel ρ v /\ ∀ w, (execOp a.eval o).run P w = .ok (.value v) w := by
 unfold genK at h
 split at h
 ·exact h.elim
 ·rename_i hsel
  split at h
  ·rename_i hp
   split at h
   ·rename_i v hv
    rw [Qfl] at h
    refine ⟨_, v, h, rfl, fun w => ?_⟩
    rw [execOp_congr o (fun cs b e => hsel cs b e) (ρ' := Qat s) fun x hx => Qby hr _ hp x (Array.mem_toList_iff.2 hx)]
    exact Qfx P _ _ hv w
   ·exact h.elim
  ·exact h.elim
theorem Qd8 {P : Program} {o : Oper} {s : List AV} {K : AV -> Prop} (h : Qfo P o s K) {ρ : List Loc} {a : Act} (hr : RelS ρ s a.tmps.toList) : ∃ av v, K av /\ av.rel ρ v /\ ∀ w, (execOp a.eval o).run P w = .ok (.value v) w := by
 unfold Qfo at h
 split at h
 ·rename_i x ho
  rw [Qbz] at h
  exact ⟨_, _, h, Qah hr x, fun w => by unfold execOp; rw [ho]; rfl⟩
 ·rename_i x ho
  have hk : K (opv s x) := by
   unfold asgK at h
   split at h
   ·rw [Qbz] at h; exact h
   ·split at h
    ·rename_i hx
     obtain ⟨h⟩ := h
     rw [hx]; exact h
    ·rw [Qbz] at h; exact h
  exact ⟨_, _, hk, Qah hr x, fun w => by unfold execOp; rw [ho]; rfl⟩
 ·rename_i T x f ho
  have fin : ∀ (p : Addr) (fo : Nat) (w : World) (ev : Operand -> Value), ev x = .pointer (some p) -> Qe8 P T f = some fo -> (execOp ev o).run P w = .ok (.value (.pointer (some (p.add fo)))) w := fun p fo w ev hx hfo => by
   unfold execOp
   simp only [ho, hx, Sem.run_bind, Qim hfo w p, ZCz, Sem.run_pure]
  have hxr := Qah hr x
  split at h
  ·rename_i i off hx
   split at h
   ·rename_i fo hfo
    rw [Qii] at h
    rw [hx] at hxr
    obtain ⟨l, hl, he⟩ := hxr
    exact ⟨_, _, h, ⟨l, hl, rfl⟩, fun w => by rw [fin _ fo w _ he hfo, add_lit]⟩
   ·exact h.elim
  ·rename_i p hx
   split at h
   ·rename_i fo hfo
    rw [Qii] at h
    rw [hx] at hxr
    exact ⟨_, _, h, rfl, fun w => fin p fo w _ hxr hfo⟩
   ·exact h.elim
  ·exact h.elim
 ·rename_i ho
  obtain ⟨x, hp, hrun, hk⟩ := h
  refine ⟨_, x, hk, rfl, fun w => ?_⟩
  rw [execOp_congr o (fun cs b e => by rw [ho] at e; cases e) (ρ' := Qat s) fun x hx => Qby hr _ hp x (Array.mem_toList_iff.2 hx)]
  exact hrun w
 ·rename_i ho
  obtain ⟨x, hp, hrun, hk⟩ := h
  refine ⟨_, x, hk, rfl, fun w => ?_⟩
  rw [execOp_congr o (fun cs b e => by rw [ho] at e; cases e) (ρ' := Qat s) fun x hx => Qby hr _ hp x (Array.mem_toList_iff.2 hx)]
  exact hrun w
 ·rename_i x ho
  split at h
  ·rename_i i off hx
   have hxr := Qah hr x
   rw [hx] at hxr
   obtain ⟨l, hl, he⟩ := hxr
   exact ⟨_, _, h, ⟨l, hl, rfl⟩, fun w => by unfold execOp; simp [ho, he]⟩
  ·exact Qpf h hr
 ·exact Qpf h hr
theorem Post.put {ρ : List Loc} {S : Nat -> Prop} {H : List Ent} {w : World} {dfs : List Deferred} {K : Ex -> List AV -> List Ent -> Prop} {c : List PanicEntry} {a : Act} {d : Option Nat} {v : Value} {w' : World} (h : Post ρ S H w dfs K (.panic c) (a.put d v) w') : Post ρ S H w dfs K (.panic c) a w' := by
 obtain ⟨ρ', S', s', H', ex, h1, h2, h3, h4, h5, h6⟩ := h
 cases ex with
 | pan c' => exact ⟨ρ', S', s', H', .pan c', h1, h2, trivial, by rw [put_defers] at h4; exact h4, h5, h6⟩
 | normal => exact h5.elim
 | ret => exact h5.elim
 | exit n => exact h5.elim
theorem Qso {P : Program} {ops : Array Oper} {md : Region.Mode} {k : Nat} {o : Oper} {s : List AV} {ls : Array Bool} {fuel : Nat} {a : Act} {w : World} {Q : Exit -> Act -> World -> Prop} {A B : List AV -> Prop} (ho : ops[k]? = some o) (hsel : Region.noSelect ops = true) (hr1 : (Region.ready md ops ls).contains k = true) (hf : Region.free md ops ls k = true)
  (hQ : ∀ c a v w, Q (.panic c) (a.put o.dst v) w -> Q (.panic c) a w) {ρ : List Loc} (hr : RelS ρ s a.tmps.toList)
  (h : Qd3 ops o s A B) (hA : ∀ s, A s -> RelS ρ s a.tmps.toList -> ∃ (av : AV) (v : Value), av.rel ρ v /\ (∀ w, (execOp a.eval o).run P w = .ok (.value v) w) /\ wpAny P md ops Q fuel (ls.setIfInBounds k true) (a.put o.dst v) w)
  (hB : ∀ s, B s -> RelS ρ s a.tmps.toList -> wpAny P md ops Q fuel (ls.setIfInBounds k true) (a.put o.dst undef) w) : wpAny P md ops Q (fuel + 1) ls a w := by
 rcases Qbf h hr with ⟨hw, s', h', hr'⟩ | ⟨hw, s', h', hr'⟩
 ·obtain ⟨av, v, _, hrun, hn⟩ := hA s' h' hr'
  exact wpAny_take ho hsel hf hr1 (fun c a w => hQ c a v w) (.inl ⟨hw, hrun⟩) hn
 ·exact wpAny_take ho hsel hf hr1 (fun c a w => hQ c a undef w) (.inr ⟨hw, rfl⟩) (hB s' h' hr')
theorem Qdf {P : Program} {ops : Array Oper} {md : Region.Mode} {K : List AV -> Prop} {Q : Exit -> Act -> World -> Prop} {ρ : List Loc} {w : World} {g : Nat} (hsel : Region.noSelect ops = true) (hQ : ∀ c a d v w, Q (.panic c) (Act.put a d v) w -> Q (.panic c) a w) {dfs : List Deferred} {ls2 : Array Bool}
  (next : ∀ s a, K s -> RelS ρ s a.tmps.toList -> a.defers = dfs -> wpAny P md ops Q g ls2 a w) : ∀ (l : List Nat) (s : List AV) (ls : Array Bool) (a : Act), Qio P ops l s K -> preB md ops l ls = true -> Qa4 ls l = ls2 -> RelS ρ s a.tmps.toList -> a.defers = dfs ->
   wpAny P md ops Q (l.length + g) ls a w
 | [], s, ls, a, h, _, he, hr, hd => by
  have he' : ls = ls2 := he
  subst he'
  rw [List.length_nil, Nat.zero_add]; exact next s a h hr hd
 | k :: l, s, ls, a, h0, hB, he, hr, hd => by
  have h : Qfh ops k fun o => Qd3 ops o s (fun s => Qfo P o s fun av => putK s o.dst av fun s' => Qio P ops l s' K) (fun s => putK s o.dst (.c (.v undef)) fun s' => Qio P ops l s' K) := h0
  obtain ⟨o, ho, h⟩ := Qc1 h
  simp only [preB, ZAz] at hB
  rw [Znz, Nat.add_right_comm]
  refine Qso ho hsel hB.1.1 hB.1.2 (fun c a v w => hQ c a o.dst v w) hr h (fun s' hA hr' => ?_) fun s' hB' hr' => ?_
  ·obtain ⟨av, v, hK, hrel, hrun⟩ := Qd8 hA hr'
   obtain ⟨s2, hK2, hput⟩ := Qap hK
   exact ⟨av, v, hrel, hrun, Qdf hsel hQ next l s2 _ _ hK2 hB.2 he (hput ρ a v hr' hrel) (by rw [put_defers]; exact hd)⟩
  ·obtain ⟨s2, hK2, hput⟩ := Qap hB'
   exact Qdf hsel hQ next l s2 _ _ hK2 hB.2 he (hput ρ a undef hr' rfl) (by rw [put_defers]; exact hd)
end Go.AX
