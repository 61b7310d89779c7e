/-
  Lemmas (P9 Ax40 Ax46 Ax45 Ax44 Ax39 Ax41 Ax42 Ax43 C1 Ax27 Ax37 A1 R1 K3 C2 Ax47 D1 Ax52 Ax54 D2 C3 C4 N3 C5 C6 Ax48).
-/
import Derived.Lay
import Derived.Lib.LaidU8
import Derived.PinnedBridge
import Derived.Test.YtahjbnfbilkbcaaGreatDoorEqv4
/-
  Plain: which graphs are valid (program and document).
-/
namespace Go.Core
open Go.Scan

/-- A word that begins with a great letter or a small one (document). -/
def wordD (s : List UInt8) (great : Bool) : Bool := !s.isEmpty && decide (s.length ≤ 40) && ltr (hd s) && (grt (hd s) == great) && s.tail.all fun c => ltr c || dig c
def constD (s : List UInt8) : Bool := wordD s true
def ivarD (s : List UInt8) : Bool := decide (s.length ≤ 40) && decide (1 < s.length) && hd s == 64 && wordD s.tail false
theorem wordD_true (s : List UInt8) : wordD s true = icB s := by
  cases s with
  | nil => rfl
  | cons c r =>
    have h := grt_iff c
    unfold wordD icB iwB hd
    rw [Bool.eq_iff_iff]
    simp only [List.isEmpty_cons, Bool.not_false, Bool.true_and, List.headD_cons, List.tail_cons, Bool.and_eq_true, Bool.not_eq_true', beq_iff_eq, decide_eq_true_eq, List.all_cons, Bool.and_true]
    have e : (r.all fun c => ltr c || dig c) = r.all wrd := rfl
    rw [e]
    constructor
    · rintro ⟨⟨⟨h1, h2⟩, h3⟩, h4⟩
      obtain ⟨a1, a2, a3⟩ := h.2 h3
      exact ⟨⟨⟨⟨a1, h4⟩, h1⟩, a2⟩, a3⟩
    · rintro ⟨⟨⟨⟨h1, h2⟩, h3⟩, h4⟩, h5⟩
      have h6 := h.1 ⟨h1, h4, h5⟩
      exact ⟨⟨⟨h3, grt_ltr h6⟩, h6⟩, h2⟩
theorem wordD_false (s : List UInt8) : wordD s false = (iwB s && sml (hd s)) := by
  cases s with
  | nil => rfl
  | cons c r =>
    unfold wordD iwB hd
    rw [Bool.eq_iff_iff]
    simp only [List.isEmpty_cons, Bool.not_false, Bool.true_and, List.headD_cons, List.tail_cons, Bool.and_eq_true, Bool.not_eq_true', beq_iff_eq, decide_eq_true_eq, List.all_cons, Bool.and_true]
    have e : (r.all fun c => ltr c || dig c) = r.all wrd := rfl
    rw [e]
    constructor
    · rintro ⟨⟨⟨h1, h2⟩, h3⟩, h4⟩
      have h5 : sml c = true := by
        unfold ltr at h2
        rw [h3, Bool.or_false] at h2
        exact h2
      obtain ⟨a1, a2, a3, a4⟩ := sml_wrd h5
      exact ⟨⟨⟨⟨a1, h4⟩, h1⟩, a3⟩, h5⟩
    · rintro ⟨⟨⟨⟨h1, h2⟩, h3⟩, h4⟩, h5⟩
      obtain ⟨a1, a2, a3, a4⟩ := sml_wrd h5
      exact ⟨⟨⟨h3, a2⟩, a4⟩, h2⟩
theorem constD_eq (s : List UInt8) : constD s = icB s := wordD_true s
theorem ivarD_eq (s : List UInt8) : ivarD s = iiB s := by
  unfold ivarD iiB
  rw [wordD_false]
  generalize decide (s.length ≤ 40) = a
  generalize decide (1 < s.length) = b
  cases a <;> cases b <;> cases (hd s == 64) <;> cases iwB s.tail <;> cases sml (hd s.tail) <;> rfl
def maxI : Int := 1000000000000000
def rangeB (n : Nat) (c : Cell) : Bool := c.items.all fun i => decide (0 ≤ i) && decide (i < (n : Int))
/-- A cell is valid by itself (program). -/
def plainS (c : Cell) : Bool :=
  (decide (0 ≤ c.kind) && decide (c.kind ≤ 8)) && (if c.kind = 4 then decide (c.text.length ≤ 2000) else if c.kind = 5 then decide (c.text.length ≤ 40) else if c.kind = 8 then icB c.text else decide (c.text = [])) &&
    (decide (c.kind = 3) || decide (c.num = 0)) && (decide (-maxI ≤ c.num) && decide (c.num ≤ maxI)) &&
    (if c.kind ≤ 5 then decide (c.items = []) && decide (c.names = []) else if c.kind ≠ 8 then decide (c.names = []) && (decide (c.kind = 6) || decide (c.items.length % 2 = 0)) else
      decide (c.names.length = c.items.length) && decide c.names.Nodup && c.names.all iiB)
/-- The same (document). -/
def cellD (n : Nat) (c : Cell) : Bool :=
  rangeB n c && !(decide (c.kind < 0) || decide (8 < c.kind) || decide (c.kind ≤ 5) && !decide (c.items = []) || !decide (c.kind = 8) && !decide (c.names = []) || !decide (c.kind = 3) && !decide (c.num = 0)) &&
    (if c.kind = 3 then decide (c.text = []) && decide (-maxI ≤ c.num) && decide (c.num ≤ maxI) else if c.kind = 4 then decide (c.text.length ≤ 2000) else if c.kind = 5 then decide (c.text.length ≤ 40) else
      if c.kind = 7 then decide (c.text = []) && decide (c.items.length % 2 = 0) else if c.kind = 8 then constD c.text && decide (c.names.length = c.items.length) && ((List.range c.names.length).all fun i => ivarD (c.names.getD i []) && !decide (c.names.getD i [] ∈ c.names.take i))
      else decide (c.text = []))
theorem names_iff (l : List (List UInt8)) : ((List.range l.length).all fun i => ivarD (l.getD i []) && !decide (l.getD i [] ∈ l.take i)) = (decide l.Nodup && l.all iiB) := by
  rw [Bool.eq_iff_iff]
  simp only [List.all_eq_true, List.mem_range, Bool.and_eq_true, Bool.not_eq_true', decide_eq_false_iff_not, decide_eq_true_eq]
  constructor
  · intro h
    refine ⟨List.pairwise_iff_getElem.2 fun i j hi hj hij he => ?_, fun x hx => ?_⟩
    · have h1 := (h j hj).2
      rw [List.getD_eq_getElem?_getD, List.getElem?_eq_getElem hj] at h1
      refine h1 (List.mem_of_getElem? (i := i) ?_)
      rw [List.getElem?_take_of_lt hij, List.getElem?_eq_getElem hi, he]
      rfl
    · obtain ⟨i, hi⟩ := List.getElem?_of_mem hx
      have h1 := (h i (List.getElem?_eq_some_iff.1 hi).1).1
      rw [List.getD_eq_getElem?_getD, hi, ivarD_eq] at h1
      exact h1
  · rintro ⟨h1, h2⟩ i hi
    have e : l.getD i [] = l[i] := by rw [List.getD_eq_getElem?_getD, List.getElem?_eq_getElem hi]; rfl
    refine ⟨by rw [e, ivarD_eq]; exact h2 _ (List.getElem_mem _), fun hm => ?_⟩
    rw [e] at hm
    obtain ⟨j, hj⟩ := List.getElem?_of_mem hm
    have hji : j < i := by
      have := (List.getElem?_eq_some_iff.1 hj).1
      rw [List.length_take] at this
      omega
    rw [List.getElem?_take_of_lt hji] at hj
    rw [List.getElem?_eq_getElem (by omega)] at hj
    exact List.pairwise_iff_getElem.1 h1 j i (by omega) hi hji (Option.some.inj hj)
theorem cell_eq (n : Nat) (c : Cell) : (plainS c && rangeB n c) = cellD n c := by
  unfold plainS cellD
  rw [names_iff, constD_eq]
  cases rangeB n c with
  | false => simp
  | true =>
    rw [Bool.and_true, Bool.true_and]
    have hb : c.num = 0 → -maxI ≤ c.num ∧ c.num ≤ maxI := fun h => by rw [h]; decide
    by_cases h0 : 0 ≤ c.kind ∧ c.kind ≤ 8
    · have : c.kind = 0 ∨ c.kind = 1 ∨ c.kind = 2 ∨ c.kind = 3 ∨ c.kind = 4 ∨ c.kind = 5 ∨ c.kind = 6 ∨ c.kind = 7 ∨ c.kind = 8 := by omega
      rw [Bool.eq_iff_iff]
      rcases this with h | h | h | h | h | h | h | h | h <;> rw [h] <;> simp <;> first | (constructor <;> intro hx <;> simp_all <;> done) | skip
    · rw [Bool.eq_iff_iff]
      have : c.kind < 0 ∨ 8 < c.kind := by omega
      rcases this with h | h <;> simp [h] <;> omega
end Go.Core

/-
  AX, fortieth text: the address of an element, in a drawing region.
-/
namespace Go.AX
/-- The address of an element of a slice at a known block. -/
theorem ReadC.idx {P : Program} {C : World → Prop} {o : Oper} {s : List AV} {K : AV → Prop} {T e : TypeId} {inf : TypeInfo} {x i : Operand} {b n cap sz : Nat} {kk : IntKind} (k : Nat) (ho : o.op = .indexAddr T x i) (hu : P.underlying T = some (.slice e)) (hi : P.info? e = some inf) (hsz : inf.size = sz)
    (hx : opv s x = .c (.v (.slice (some ⟨b, 0, none⟩) n cap))) (hy : opv s i = .c (.v (.int kk (k : Int)))) (hk : k < n) (next : K (.c (.v (.pointer (some ⟨b, k * sz, none⟩))))) : ∃ x, ReadC P C o s K x :=
  ⟨.pointer (some ⟨b, k * sz, none⟩), fun cs b e => (by rw [ho] at e; cases e), by rw [ho]; show allPlain s [x, i] = true; simp [allPlain, hx, hy], fun w _ => by
    have hx2 : plainEv s x = .slice (some ⟨b, 0, none⟩) n cap := by unfold plainEv; rw [hx]
    have hy2 : plainEv s i = .int kk (k : Int) := by unfold plainEv; rw [hy]
    have h := run_indexAt (P := P) hu hi w ⟨b, 0, none⟩ n cap kk (k : Int) ⟨by omega, by omega⟩
    rw [Int.toNat_natCast, hsz, add_lit0] at h
    exact execOp_indexAddr ho (by rw [hx2, hy2]; exact h), next⟩
/-- The address of a field of a struct at a known block. -/
theorem ReadC.field {P : Program} {C : World → Prop} {o : Oper} {s : List AV} {K : AV → Prop} {T : TypeId} {x : Operand} {b q f : Nat} (fo : Nat) (ho : o.op = .fieldAddr T x f) (hx : opv s x = .c (.v (.pointer (some ⟨b, q, none⟩)))) (hf : fieldOff P T f = some fo) (next : K (.c (.v (.pointer (some ⟨b, q + fo, none⟩))))) : ∃ x, ReadC P C o s K x :=
  ⟨.pointer (some ⟨b, q + fo, none⟩), fun cs b e => (by rw [ho] at e; cases e), by rw [ho]; show allPlain s [x] = true; simp [allPlain, hx], fun w _ => by
    have hx2 : plainEv s x = .pointer (some ⟨b, q, none⟩) := by unfold plainEv; rw [hx]
    have h := fieldOff_spec (P := P) hf w ⟨b, q, none⟩
    rw [add_lit] at h
    unfold execOp
    simp only [ho, hx2, Sem.run_bind, h, Result.andThen_ok, Sem.run_pure], next⟩
end Go.AX

/-
  AX, forty-sixth text: regions that draw their order, by a plan whose readings may stand anywhere between what is written; what is read is told by facts.
-/
namespace Go.AX

def hasN : List Nat → Nat → Bool
  | [], _ => false
  | x :: l, n => match Nat.beq x n with | true => true | false => hasN l n
/-- What is made whenever the order has it: behind a place that only the walk knows. -/
def ownD (D : MkD) (H : List Ent) (Kv : AV → List Ent → Prop) : Prop := snocK H D.ent 0 fun H' n => Kv (D.av n) H'
/-- The same of a slice of constants, at an address that is any number. -/
def knwD (D : MkD) (H : List Ent) (Kv : AV → List Ent → Prop) : Prop :=
  match D with
  | ⟨val, _, _, cap, ent, _⟩ => match ent with
    | .row e sz n cs => match plains cs with
      | some xs => ∀ b : Nat, snocK H (.app e sz xs (some ⟨b, 0, none⟩) n cap) 0 fun H' _ => Kv (.c (.v (val b))) H'
      | none => False
    | _ => False
/-- A step of a plan without a head: mode 1 is a blind operation, or a load that is the same in all worlds of the kind. -/
def stepR (P : Program) (C : World → Prop) (kn : Bool) (o : Oper) (s : List AV) (H : List Ent) (how : Nat) (Kv : AV → List Ent → Prop) (Kp : List PanicEntry → List Ent → Prop) : Prop :=
  match how with
  | 0 => stepK P o s H fun out H' => match out with
    | .val av => Nd (∀ w, Facts H' w → C w) (Kv av H')
    | .vals _ => False
    | .pan c => Kp c H'
  | 1 => match o.op with
    | .load _ _ => ∃ x, ReadC P C o s (fun av => Kv av H) x
    | .indexAddr _ _ _ => ∃ x, ReadC P C o s (fun av => Kv av H) x
    | _ => blindK P o s fun av => Kv av H
  | _ + 2 => match mkD P o with
    | some D => match kn with
      | false => ownD D H fun av H' => Nd (∀ w, Facts H' w → C w) (Kv av H')
      | true => knwD D H fun av H' => Nd (∀ w, Facts H' w → C w) (Kv av H')
    | none => False
def execR (P : Program) (C : World → Prop) (kn : List Nat) (ops : Array Oper) (l : List (Nat × Nat)) : List AV → List Ent → (Ex → List AV → List Ent → Prop) → Prop :=
  List.rec (motive := fun _ => List AV → List Ent → (Ex → List AV → List Ent → Prop) → Prop)
    (fun s H K => K .normal s H)
    (fun kb _ ih s H K => pickK ops kb.1 fun o => wantK ops o s (fun s => stepR P C (hasN kn kb.1) o s H kb.2 (fun av H' => putK s o.dst av fun s' => ih s' H' K) (fun c H' => K (.pan c) s H'))
      (fun s => putK s o.dst (.c (.v undef)) fun s' => ih s' H K)) l
def planRB (P : Program) (md : Region.Mode) (ops : Array Oper) (pre : List Nat) (tl : List (Nat × Nat)) : Bool :=
  (((((((((Region.noSelect ops && decide (pre.length + tl.length = ops.size)) && ((List.range ops.size).all fun i => pre.contains i || (tl.map Prod.fst).contains i)) && disj pre (tl.map Prod.fst)) && disj (wraps tl) (floats tl)) && decide (floats tl).Nodup) &&
    (floats tl).all (floatB P md ops)) && (floats tl).all (Region.free md ops (setAll (Array.replicate ops.size false) pre))) && preB md ops pre (Array.replicate ops.size false)) &&
    tlB md ops tl (floats tl) (setAll (Array.replicate ops.size false) pre))

/-- What an entry says of a block that was made so. -/
structure MkK (D : MkD) (b : Nat) (en : Ent) : Prop where
  ent : ∀ (ρ : List Loc) (S : Nat → Prop) (w : World) (i : Nat), ρ[i]? = some ⟨b, D.cap⟩ → w.heap[b]? = some (.cells D.cells D.T (0, 0)) → EntOk ρ S w i en
  entb : ∀ (ρ : List Loc) (i : Nat), ρ[i]? = some ⟨b, D.cap⟩ → entB ρ i en = fun c => some b = some c
section
variable {P : Program} {ops : Array Oper} {C : World → Prop} {kn : List Nat}
theorem MkOk.mk1 {o : Oper} {D : MkD} (h : MkOk P o D) (b : Nat) : MkK D b D.ent :=
  ⟨fun ρ S w i h1 h2 => h.ent ρ S w i b h1 h2, fun ρ i h1 => by rw [h.entb, h1]; rfl⟩
theorem rel_plains {ρ : List Loc} : ∀ {cs : List CV} {xs ys : List Value}, plains cs = some xs → RelL ρ cs ys → ys = xs
  | _, _, _, h, hr => plains_rel h hr
theorem MkOk.mk2 {o : Oper} {D : MkD} (h : MkOk P o D) (b : Nat) {e : TypeId} {sz n : Nat} {cs : List CV} {xs : List Value} (he : D.ent = .row e sz n cs) (hx : plains cs = some xs) : MkK D b (.app e sz xs (some ⟨b, 0, none⟩) n D.cap) :=
  ⟨fun ρ S w i h1 h2 => by
    have h3 := h.ent ρ S w i b h1 h2
    rw [he] at h3
    obtain ⟨l, arr, hl, hb, hc, hn, hm, hz, hr⟩ := h3
    rw [h1] at hl; cases hl
    have hxs := rel_plains hx hr
    exact .inr ⟨b, rfl, arr, (0, 0), ⟨hb, .inl rfl⟩, by rw [← hxs]; rw [← RelL_len hr, hc], hn, hm, hz, hxs⟩, fun ρ i h1 => rfl⟩
theorem known2 {ρ0 ρ : List Loc} {S0 S : Nat → Prop} {H0 H : List Ent} {w0 w : World} {e : Fl} {en : Ent} (hs : Sat ρ S H w) (hev : Ev ρ0 S0 H0 w0 ρ S H w) (he : Hid P ops ρ S H w w0.heap.size e) {D : MkD} (hok : MkK D e.b en) (hb : w.heap[e.b]? = some (.cells D.cells D.T (0, 0))) :
    Sat (ρ ++ [⟨e.b, D.cap⟩]) S (H ++ [en]) w ∧ Ev ρ0 S0 H0 w0 (ρ ++ [⟨e.b, D.cap⟩]) S (H ++ [en]) w := by
  have hcase : ∀ (i : Nat) (f : Ent), (H ++ [en])[i]? = some f → (i < H.length ∧ H[i]? = some f) ∨ (i = H.length ∧ f = en) := fun i f hf => by
    by_cases hi : i < H.length
    · rw [List.getElem?_append_left hi] at hf; exact .inl ⟨hi, hf⟩
    · have hi2 : i = H.length := by
        have := (List.getElem?_eq_some_iff.1 hf).1
        simp at this; omega
      subst hi2
      simp at hf
      exact .inr ⟨rfl, hf.symm⟩
  have hb2 : ∀ (i : Nat) (f : Ent) (b : Nat), (H ++ [en])[i]? = some f → entB (ρ ++ [⟨e.b, D.cap⟩]) i f b → (H[i]? = some f ∧ entB ρ i f b) ∨ (i = H.length ∧ b = e.b) := fun i f b hf hfb => by
    rcases hcase i f hf with ⟨hi, hf'⟩ | ⟨rfl, rfl⟩
    · rw [entB_pre _ (by rw [hs.len]; exact hi)] at hfb
      exact .inl ⟨hf', hfb⟩
    · refine .inr ⟨rfl, ?_⟩
      rw [hok.entb _ _ (by rw [← hs.len]; simp)] at hfb
      exact (Option.some.inj hfb).symm
  refine ⟨⟨by simp [hs.len], fun i f hf => ?_, fun i j f g b hf hg hfb hgb => ?_, fun b ⟨i, f, hf, hfb⟩ hS => ?_, hs.low⟩, ⟨?_, hev.os, hev.tape, hev.output, hev.size, hev.keep, hev.imm, fun b ⟨i, f, hf, hfb⟩ => ?_⟩⟩
  · rcases hcase i f hf with ⟨hi, hf'⟩ | ⟨rfl, rfl⟩
    · exact (hs.ent i f hf').move [⟨e.b, D.cap⟩] (fun _ _ => rfl) fun _ _ => rfl
    · exact hok.ent _ _ _ _ (by rw [← hs.len]; simp) hb
  · rcases hb2 i f b hf hfb with ⟨a1, a2⟩ | ⟨a1, a2⟩ <;> rcases hb2 j g b hg hgb with ⟨b1, b2⟩ | ⟨b1, b2⟩
    · exact hs.inj i j f g b a1 b1 a2 b2
    · exact absurd ⟨i, f, a1, b2 ▸ a2⟩ he.m
    · exact absurd ⟨j, g, b1, a2 ▸ b2⟩ he.m
    · omega
  · rcases hb2 i f b hf hfb with ⟨a1, a2⟩ | ⟨_, a2⟩
    · exact hs.out b ⟨i, f, a1, a2⟩ hS
    · exact he.s (a2 ▸ hS)
  · obtain ⟨t, ht⟩ := hev.pre
    exact ⟨t ++ [⟨e.b, D.cap⟩], by rw [ht, List.append_assoc]⟩
  · rcases hb2 i f b hf hfb with ⟨a1, a2⟩ | ⟨_, a2⟩
    · exact hev.own b ⟨i, f, a1, a2⟩
    · exact .inr (a2 ▸ he.lo)
theorem anyC_read {Q : Exit → Act → World → Prop} {i : Nat} {oi : Oper} {v : Value} (hi : ops[i]? = some oi) (hsel : ∀ (j : Nat) (o : Oper) cs b, ops[j]? = some o → o.op ≠ .select cs b)
    (hQ : ∀ c a w, Q (.panic c) (a.put oi.dst v) w → Q (.panic c) a w) :
    ∀ (f : Nat) (ls : Array Bool) (a : Act) (w : World),
      (∀ j oj, ops[j]? = some oj → j ≠ i → ls.getD j true = false → (∀ e ∈ oj.after, Region.binds .any e = true → e.on ≠ i) → oi.apart ops oj = true) →
      i ∈ Region.ready .any ops ls → YR P ops C oi v a → AnyC P ops Q C [] f (ls.setIfInBounds i true) (a.put oi.dst v) w → AnyC P ops Q C [] (f + 1) ls a w := by
  have nl : ∀ ls : Array Bool, ∀ t ∈ ([] : List Nat), ls.getD t false = false := fun _ t h => by cases h
  have own : ∀ (f : Nat) (ls : Array Bool) (a : Act) (w : World), YR P ops C oi v a → AnyC P ops Q C [] f (ls.setIfInBounds i true) (a.put oi.dst v) w → wpOp P ops Q i (AnyC P ops Q C [] f (ls.setIfInBounds i true)) a w := fun f ls a w hy hH => by
    unfold wpOp
    simp only [hi]
    rcases hy with ⟨hw, hv⟩ | ⟨hw, rfl⟩
    · rw [if_pos hw]
      refine .inl ?_
      unfold Oper.wp
      rw [hv w (hH.cls (nl _))]
      exact hH
    · rw [if_neg (by simp [hw])]; exact hH
  intro f
  induction f with
  | zero =>
    intro ls a w _ hr hy hL
    refine ⟨fun _ => hL.cls (nl _), fun h0 => (by rw [h0] at hr; cases hr), fun j hj => ?_⟩
    by_cases hji : j = i
    · subst hji; exact own 0 ls a w hy hL
    · have := ready_mono hj hji; rw [hL.2.1] at this; cases this
  | succ f ih =>
    intro ls a w hfree hr hy hH
    have hun := (mem_ready.1 hr).1
    refine ⟨fun _ => hH.cls (nl _), fun h0 => (by rw [h0] at hr; cases hr), fun j hj => ?_⟩
    by_cases hji : j = i
    · subst hji; exact own (f + 1) ls a w hy hH
    · obtain ⟨hjun, oj, hoj, hall⟩ := mem_ready.1 hj
      have hno : ∀ e ∈ oj.after, Region.binds .any e = true → e.on ≠ i := fun e he hb he2 => by
        have := hall e he hb
        rw [he2, getD_both hun] at this
        cases this
      have h1 := wpOp_swap hoj (hfree j oj hoj hji hjun hno) (fun cs b => hsel i oi cs b hi) (fun cs b => hsel j oj cs b hoj) hQ hy (hH.2.2 j (ready_mono hj hji))
      refine wpOp_mono (fun a' w' h3 => ih (ls.setIfInBounds j true) a' w' (fun k ok hk hki hun' hno' => ?_) (ready_mono hr (Ne.symm hji)) h3.1 ?_) h1
      · refine hfree k ok hk hki ?_ hno'
        by_cases hjk : j = k
        · subst hjk; exact hjun
        · rw [getD_set_ne true hjk] at hun'; exact hun'
      · rw [Array.setIfInBounds_comm _ _ hji]; exact h3.2
variable {K : Ex → List AV → List Ent → Prop} {ρ0 : List Loc} {S0 : Nat → Prop} {H0 : List Ent} {w0 : World} {dfs : List Deferred}
theorem tail_read {pre hd hq : List Nat} {tl : List (Nat × Nat)} (cx : Ctx P ops pre hd hq tl) : ∀ (l : List (Nat × Nat)) (s : List AV) (H : List Ent), (∀ w, Facts H w → C w) → execR P C kn ops l s H K → ∀ (rem : List Nat) (lc : Array Bool), tlB .any ops l rem lc = true →
    ∀ (n : Nat) (E : List Fl), n + E.length = rem.length → ∀ (ls : Array Bool) (ρ : List Loc) (S : Nat → Prop) (w : World) (a : Act), Mid P ops pre tl rem w0 lc E ls ρ S H w → Ev ρ0 S0 H0 w0 ρ S H w → a.defers = dfs → Sat ρ S H w → RelS ρ s a.tmps.toList →
      AnyC P ops (Post ρ0 S0 H0 w0 dfs K) C [] (l.length - E.length) ls (pt a E) w
  | [], s, H, hC, h, rem, lc, hB, n, E, hn, ls, ρ, S, w, a, m, hev, hdf, hs, hr => by
    simp only [tlB, Bool.and_eq_true, List.isEmpty_iff] at hB
    have hE : E = [] := by rw [hB.1] at hn; simp at hn; exact hn.2
    subst hE
    refine ⟨fun _ => hC w hs.facts, ?_, ρ, S, s, H, .normal, hs, hev, hr, hdf, trivial, h⟩
    rw [List.eq_nil_iff_forall_not_mem]
    intro j hj
    rcases (m.lst.ready (rem := rem) m.sub hj).1 with h1 | h1
    · rw [hB.1] at h1; rw [show setAll lc [] = lc from rfl, hB.2] at h1; cases h1
    · rw [hB.1] at h1; cases h1
  | (k, q) :: l, s, H, hC, h0, rem, lc, hB, n, E, hn, ls, ρ, S, w, a, m, hev, hdf, hs, hr => by
    have hp : pickK ops k fun o => wantK ops o s (fun s => stepR P C (hasN kn k) o s H q (fun av H' => putK s o.dst av fun s' => execR P C kn ops l s' H' K) (fun c H' => K (.pan c) s H')) (fun s => putK s o.dst (.c (.v undef)) fun s' => execR P C kn ops l s' H K) := h0
    obtain ⟨o, ho, hq⟩ := pickK_spec hp
    clear hp
    have hkl : k < ops.size := (Array.getElem?_eq_some_iff.1 ho).1
    have hrl := rem_le _ _ _ hB m.ndr
    have hEl := m.len
    have hsel := Region.noSelect_spec cx.sel k o
    match q with
    | 0 =>
      simp only [tlB, Bool.and_eq_true, decide_eq_true_eq, Bool.not_eq_true', List.contains_iff_mem] at hB
      obtain ⟨⟨⟨hk1, hk2⟩, hk3⟩, hB⟩ := hB
      have hk1 : k ∈ Region.ready .any ops lc := by simpa using hk1
      have hk3 : k ∉ rem := by intro hm; rw [← List.contains_iff_mem] at hm; rw [hm] at hk3; cases hk3
      have hrl2 := rem_le _ _ _ hB m.ndr
      have hkE : k ∉ E.map Fl.i := fun hm => by obtain ⟨e, he, hi⟩ := List.mem_map.1 hm; exact hk3 (hi ▸ m.sub e he)
      rw [show ((k, 0) :: l).length - E.length = (l.length - E.length) + 1 by simp; omega]
      have hoff := off_of cx ho hk1 m.pre (fun e he => ⟨(m.rf _ (m.sub e he)).1, (m.rf _ (m.sub e he)).2, fun h => hk3 (h ▸ m.sub e he)⟩) m.hid
      refine ⟨fun _ => hC w hs.facts, fun h1 => absurd (m.lst.own hk1 hkE) (by rw [h1]; simp), fun i hi => ?_⟩
      have hrd := m.lst.ready m.sub hi
      by_cases hik : i = k
      · subst hik
        refine op_pt ho (fun cs b => hsel cs b ho) hoff (fun c a d v w h => post_put c a d v w h) ?_
        unfold wpOp
        simp only [ho]
        rcases wantK_spec hq hr with ⟨hw, s', h', hr'⟩ | ⟨hw, s', h', hr'⟩
        · rw [if_pos hw]
          refine .inl (step_sound (K := fun out H' => match out with
            | .val av => Nd (∀ w, Facts H' w → C w) (putK s' o.dst av fun s2 => execR P C kn ops l s2 H' K)
            | .vals _ => False
            | .pan c => K (.pan c) s' H') h' hs hr' (fun ρ1 S1 H1 w1 av v hs1 hev1 hrel hK => ?_) (fun ρ1 S1 H1 w1 c hs1 hev1 hK => ?_) fun _ _ h => h)
          · obtain ⟨hC1, hK⟩ := hK
            obtain ⟨s2, hK2, hput⟩ := putK_spec hK
            have hrs : RelS ρ1 s' a.tmps.toList := by obtain ⟨t, ht⟩ := hev1.pre; rw [ht]; exact RelS_pre t hr'
            exact tail_read cx l s2 H1 hC1 hK2 rem _ hB n E hn _ ρ1 S1 w1 _ (m.step hkl hk3 hev1) (hev.trans hev1) (by rw [put_defers]; exact hdf) hs1 (hput ρ1 a v hrs hrel)
          · exact ⟨ρ1, S1, s', H1, .pan c, hs1, hev.trans hev1, trivial, hdf, rfl, hK⟩
        · rw [if_neg (by simp [hw])]
          obtain ⟨s2, hK2, hput⟩ := putK_spec h'
          exact tail_read cx l s2 H hC hK2 rem _ hB n E hn _ ρ S w _ (m.step hkl hk3 (Ev.refl _ _ _ _)) hev (by rw [put_defers]; exact hdf) hs (hput ρ a undef hr' rfl)
      · have hir : i ∈ rem := by
          rcases hrd.1 with h1 | h1
          · rw [hk2] at h1; simp at h1; exact absurd h1 hik
          · exact h1
        have hEl2 : E.length + 1 ≤ rem.length := by
          have := nodup_len (b := rem) (a := i :: E.map Fl.i) (List.nodup_cons.2 ⟨hrd.2.1, m.ndi⟩) fun x hx => by
            cases hx with
            | head => exact hir
            | tail _ hx => obtain ⟨e, he, rfl⟩ := List.mem_map.1 hx; exact m.sub e he
          simpa using this
        refine m.others cx hs hev hir hrd.2.1 fun e w1 he hs1 hev1 hm1 => ?_
        have := tail_read cx ((k, 0) :: l) s H hC h0 rem lc (by simp only [tlB, Bool.and_eq_true, decide_eq_true_eq]; exact ⟨⟨⟨by simpa using hk1, hk2⟩, by simpa using hk3⟩, hB⟩) (n - 1) (e :: E) (by simp; omega) _ ρ S w1 a hm1 (hev.trans hev1) hdf hs1 hr
        rw [show ((k, 0) :: l).length - (e :: E).length = l.length - E.length by simp] at this
        exact this
    | 1 =>
      simp only [tlB, Bool.and_eq_true, Bool.not_eq_true', List.contains_iff_mem] at hB
      obtain ⟨⟨⟨hk1, hfr⟩, hk3⟩, hB⟩ := hB
      have hk1 : k ∈ Region.ready .any ops lc := by simpa using hk1
      have hk3 : k ∉ rem := by intro hm; rw [← List.contains_iff_mem] at hm; rw [hm] at hk3; cases hk3
      have hrl2 := rem_le _ _ _ hB m.ndr
      have hkE : k ∉ E.map Fl.i := fun hm => by obtain ⟨e, he, hi⟩ := List.mem_map.1 hm; exact hk3 (hi ▸ m.sub e he)
      rw [show ((k, 1) :: l).length - E.length = (l.length - E.length) + 1 by simp; omega]
      have hoff := off_of cx ho hk1 m.pre (fun e he => ⟨(m.rf _ (m.sub e he)).1, (m.rf _ (m.sub e he)).2, fun h => hk3 (h ▸ m.sub e he)⟩) m.hid
      have hd' : ∀ e ∈ E, o.dst ≠ some e.d := fun e he => (hoff e he).2
      have fin : ∀ (v : Value) (s2 : List AV), Yields P ops o v a → execR P C kn ops l s2 H K → RelS ρ s2 (a.put o.dst v).tmps.toList → AnyC P ops (Post ρ0 S0 H0 w0 dfs K) C [] (l.length - E.length + 1) ls (pt a E) w := fun v s2 hy hK hr2 => by
        have he := exec_pt (ops := ops) (fun cs b => hsel cs b ho) a E hoff
        refine anyC_blind ho (Region.noSelect_spec cx.sel) (fun c a w h => h.put) (by simp) _ ls _ w (fun j oj hj hne hun hno => Region.free_spec ho hfr j oj hj hne (m.lst.un hun) hno) (m.lst.own hk1 hkE) (hy.of_same he.1 he.2) ?_
        rw [put_pt _ _ _ _ hd']
        exact tail_read cx l s2 H hC hK rem _ hB n E hn _ ρ S w _ (m.step hkl hk3 (Ev.refl _ _ _ _)) hev (by rw [put_defers]; exact hdf) hs hr2
      have finR : ∀ (v : Value) (s2 : List AV), YR P ops C o v a → execR P C kn ops l s2 H K → RelS ρ s2 (a.put o.dst v).tmps.toList → AnyC P ops (Post ρ0 S0 H0 w0 dfs K) C [] (l.length - E.length + 1) ls (pt a E) w := fun v s2 hy hK hr2 => by
        have he := exec_pt (ops := ops) (fun cs b => hsel cs b ho) a E hoff
        refine anyC_read ho (Region.noSelect_spec cx.sel) (fun c a w h => h.put) _ ls _ w (fun j oj hj hne hun hno => Region.free_spec ho hfr j oj hj hne (m.lst.un hun) hno) (m.lst.own hk1 hkE) (hy.same he.1 he.2) ?_
        rw [put_pt _ _ _ _ hd']
        exact tail_read cx l s2 H hC hK rem _ hB n E hn _ ρ S w _ (m.step hkl hk3 (Ev.refl _ _ _ _)) hev (by rw [put_defers]; exact hdf) hs hr2
      rcases wantK_spec hq hr with ⟨hw, s', h', hr'⟩ | ⟨hw, s', h', hr'⟩
      · by_cases hld : (∃ T x, o.op = .load T x) ∨ ∃ T x i, o.op = .indexAddr T x i
        · have h2 : ∃ x, ReadC P C o s' (fun av => putK s' o.dst av fun s2 => execR P C kn ops l s2 H K) x := by
            have h3 := h'
            unfold stepR at h3
            rcases hld with ⟨T, y, hop⟩ | ⟨T, y, i, hop⟩
            · simp only [hop] at h3
              exact h3
            · simp only [hop] at h3
              exact h3
          obtain ⟨x, rc⟩ := h2
          obtain ⟨s2, hK2, hput⟩ := putK_spec rc.next
          refine finR x s2 (.inl ⟨hw, fun w' hw' => ?_⟩) hK2 (hput ρ a x hr' rfl)
          rw [execOp_congr o rc.sel (ρ' := plainEv s') fun y hy => allPlain_eval hr' _ rc.plain y (Array.mem_toList_iff.2 hy)]
          exact rc.run w' hw'
        · have h2 : blindK P o s' fun av => putK s' o.dst av fun s2 => execR P C kn ops l s2 H K := by
            have h3 := h'
            unfold stepR at h3
            simp only at h3
            split at h3
            · rename_i T x hop
              exact absurd (.inl ⟨T, x, hop⟩) hld
            · rename_i T x i hop
              exact absurd (.inr ⟨T, x, i, hop⟩) hld
            · exact h3
          obtain ⟨av, v, hK, hrel, hrun⟩ := blind_sound (K := fun av => putK s' o.dst av fun s2 => execR P C kn ops l s2 H K) h2 hr'
          obtain ⟨s2, hK2, hput⟩ := putK_spec hK
          exact fin v s2 (.inl ⟨hw, hrun⟩) hK2 (hput ρ a v hr' hrel)
      · obtain ⟨s2, hK2, hput⟩ := putK_spec h'
        exact fin undef s2 (.inr ⟨hw, rfl⟩) hK2 (hput ρ a undef hr' rfl)
    | q + 2 =>
      have hB0 := hB
      simp only [tlB, Bool.and_eq_true, decide_eq_true_eq, List.contains_iff_mem] at hB
      obtain ⟨⟨hk1, hk2⟩, hB⟩ := hB
      have hk1 : k ∈ rem := by simpa using hk1
      have hrl2 := rem_le _ _ _ hB (m.ndr.erase k)
      have hle := List.length_erase_of_mem hk1
      have hpos : 0 < rem.length := List.length_pos_of_mem hk1
      obtain ⟨o', d, D, ho', hmk, hg, hdst, haft⟩ := floatB_spec (cx.op k (m.rf k hk1).1)
      have hok := mkD_ok hmk
      obtain rfl : o' = o := Option.some.inj (ho'.symm.trans ho)
      -- the plan's own state behind its turn
      have hst : ∀ b : Nat, ∃ en s2, MkK D b en ∧ (∀ w, Facts (H ++ [en]) w → C w) ∧ execR P C kn ops l s2 (H ++ [en]) K ∧ ∀ (ρ : List Loc) (a : Act), ρ[H.length]? = some ⟨b, D.cap⟩ → RelS ρ s a.tmps.toList → RelS ρ s2 (a.put o'.dst (D.val b)).tmps.toList := fun b => by
        have h2 := hq
        unfold wantK at h2
        rw [hg] at h2
        unfold stepR at h2
        simp only [hmk] at h2
        split at h2
        · unfold ownD at h2
          rw [snocK_eq, Nat.zero_add] at h2
          obtain ⟨s2, hK2, hput⟩ := putK_spec h2.next
          exact ⟨D.ent, s2, hok.mk1 b, h2.ok, hK2, fun ρ a hl hr => hput ρ a (D.val b) hr (hok.rel _ _ b hl)⟩
        · unfold knwD at h2
          split at h2
          rename_i val cells T cap ent av heq
          split at h2
          · rename_i e sz n cs
            split at h2
            · rename_i xs hx
              have h3 := h2 b
              rw [snocK_eq] at h3
              obtain ⟨s2, hK2, hput⟩ := putK_spec h3.next
              exact ⟨_, s2, hok.mk2 b rfl hx, h3.ok, hK2, fun ρ a hl hr => hput ρ a _ hr rfl⟩
            · exact h2.elim
          · exact h2.elim
      have mid2 : ∀ (E' : List Fl) (ls' : Array Bool) (ρ1 : List Loc) (S1 : Nat → Prop) (H1 : List Ent) (w1 : World), Lst ops (lc.setIfInBounds k true) E' ls' → (∀ e ∈ E', e ∈ E) → (E'.map Fl.i).Nodup → (E'.map Fl.d).Nodup → (E'.map Fl.b).Nodup → (∀ e ∈ E', e.i ≠ k) → (∀ e ∈ E', Hid P ops ρ1 S1 H1 w1 w0.heap.size e) →
          Mid P ops pre tl (rem.erase k) w0 (lc.setIfInBounds k true) E' ls' ρ1 S1 H1 w1 := fun E' ls' ρ1 S1 H1 w1 hl hsub h1 h2 h3b hne hh =>
        ⟨hl, fun j hj => getD_set_true (m.pre j hj), fun e he => (List.mem_erase_of_ne (hne e he)).2 (m.sub e (hsub e he)), h1, h2, h3b, fun i hi => by
          have h3 : i ∈ rem := List.mem_of_mem_erase hi
          have hne' : k ≠ i := fun h => by subst h; exact (List.Nodup.not_mem_erase m.ndr) hi
          exact ⟨(m.rf i h3).1, by rw [getD_set_ne false hne']; exact (m.rf i h3).2⟩, m.ndr.erase k, hh⟩
      by_cases hkE : k ∈ E.map Fl.i
      · obtain ⟨e, he, hei⟩ := List.mem_map.1 hkE
        obtain ⟨E', hE'⟩ : ∃ E', E.Perm (e :: E') := by
          obtain ⟨l1, l2, rfl⟩ := List.append_of_mem he
          exact ⟨l1 ++ l2, List.perm_middle⟩
        have hh := m.hid e he
        obtain ⟨oe, De, hoe, hmke, _, hde, hptr, hheap⟩ := hh.op
        rw [hei, ho] at hoe
        obtain rfl := Option.some.inj hoe
        rw [hmk] at hmke; cases hmke
        obtain ⟨en, s2, hmk2, hC2, hK2, hput⟩ := hst e.b
        have hkn := known2 hs hev hh hmk2 hheap
        have hEmem : ∀ e' ∈ E', e' ∈ E := fun e' he' => hE'.mem_iff.2 (by simp [he'])
        have hndi := (hE'.map Fl.i).nodup_iff.1 m.ndi
        have hndd := (hE'.map Fl.d).nodup_iff.1 m.ndd
        have hndb := (hE'.map Fl.b).nodup_iff.1 m.ndb
        have hbne : ∀ e' ∈ E', ¬ mb (ρ ++ [⟨e.b, D.cap⟩]) (H ++ [en]) e'.b := fun e' he' ⟨j, f, hf, hfb⟩ => by
          by_cases hj : j < H.length
          · rw [List.getElem?_append_left hj] at hf
            rw [entB_pre _ (by rw [hs.len]; exact hj)] at hfb
            exact (m.hid e' (hEmem e' he')).m ⟨j, f, hf, hfb⟩
          · have hj2 : j = H.length := by
              have := (List.getElem?_eq_some_iff.1 hf).1
              simp at this; omega
            subst hj2
            simp at hf
            subst hf
            rw [hmk2.entb _ _ (by rw [← hs.len]; simp)] at hfb
            exact (List.nodup_cons.1 hndb).1 (List.mem_map.2 ⟨e', he', (Option.some.inj hfb).symm⟩)
        have hlen : E.length = E'.length + 1 := by rw [hE'.length_eq]; rfl
        rw [show ((k, q + 2) :: l).length - E.length = l.length - E'.length by simp; omega]
        rw [pt_perm a hE' m.ndd, pt, put_pt _ _ _ _ (fun e' he' heq => (List.nodup_cons.1 hndd).1 (List.mem_map.2 ⟨e', he', (Option.some.inj heq).symm⟩))]
        have := tail_read cx l s2 _ hC2 hK2 (rem.erase k) _ hB n E' (by omega) ls _ S w (a.put (some e.d) e.ptr) (mid2 E' ls _ S _ w (by rw [← hei]; exact m.lst.take hE' (by rw [hei]; exact hkl)) hEmem (List.nodup_cons.1 hndi).2 (List.nodup_cons.1 hndd).2 (List.nodup_cons.1 hndb).2 (fun e' he' h => (List.nodup_cons.1 hndi).1 (by rw [hei, ← h]; exact List.mem_map.2 ⟨e', he', rfl⟩)) fun e' he' => by
            have h1 := m.hid e' (hEmem e' he')
            exact ⟨h1.op, h1.s, hbne e' he', h1.lo⟩) hkn.2 (by rw [put_defers]; exact hdf) hkn.1 (by
            have h1 := hput (ρ ++ [⟨e.b, D.cap⟩]) a (by rw [← hs.len]; simp) (RelS_pre _ hr)
            rw [hde, ← hptr] at h1
            exact h1)
        exact this
      · have hEk : ∀ e ∈ E, e.i ∈ rem.erase k := fun e he => (List.mem_erase_of_ne (fun h => hkE (List.mem_map.2 ⟨e, he, h⟩))).2 (m.sub e he)
        have hEl3 : E.length + 1 ≤ rem.length := by
          have := nodup_len (b := rem.erase k) m.ndi fun x hx => by obtain ⟨e, he, rfl⟩ := List.mem_map.1 hx; exact hEk e he
          simp at this; omega
        rw [show ((k, q + 2) :: l).length - E.length = (l.length - E.length) + 1 by simp; omega]
        have hkc : k ∈ Region.ready .any ops lc := mem_ready.2 ⟨getD_in (by rw [m.lst.s2]; exact hkl) (m.rf k hk1).2, o', ho, fun e he hb => by rw [haft e he] at hb; cases hb⟩
        refine ⟨fun _ => hC w hs.facts, fun h1 => absurd (m.lst.own hkc hkE) (by rw [h1]; simp), fun i hi => ?_⟩
        have hrd := m.lst.ready hEk hi
        have hir : i ∈ rem := by
          rcases hrd.1 with h1 | h1
          · rw [hk2] at h1; simp at h1; rw [h1]; exact hk1
          · exact List.mem_of_mem_erase h1
        refine m.others cx hs hev hir hrd.2.1 fun e w1 he hs1 hev1 hm1 => ?_
        have := tail_read cx ((k, q + 2) :: l) s H hC h0 rem lc hB0 (n - 1) (e :: E) (by simp; omega) _ ρ S w1 a hm1 (hev.trans hev1) hdf hs1 hr
        rw [show ((k, q + 2) :: l).length - (e :: E).length = l.length - E.length by simp] at this
        exact this
termination_by l _ _ _ _ _ _ _ n => (l.length, n)
decreasing_by all_goals (simp_wf; first | omega | (right; omega) | (left; omega))
end
theorem planR_sound {P : Program} {C : World → Prop} {kn : List Nat} {ops : Array Oper} (hm : P.follows .mixedOrders = true) {id : Nat} {s : List AV} {H : List Ent} {K : Ex → List AV → List Ent → Prop} {pre : List Nat} {tl : List (Nat × Nat)} (hB : planRB P .any ops pre tl = true) (hC : ∀ w, Facts H w → C w)
    (next : execB P ops pre s fun s1 => execR P C kn ops tl s1 H K) {ρ : List Loc} {S : Nat → Prop} {w : World} {a : Act} (hs : Sat ρ S H w) (hr : RelS ρ s a.tmps.toList) :
    (Code.region id ops true).wp P (Post ρ S H w a.defers K) a w := by
  simp only [planRB, Bool.and_eq_true, decide_eq_true_eq] at hB
  obtain ⟨⟨⟨⟨⟨⟨⟨⟨⟨hsel, hlen⟩, hcov⟩, hpt⟩, hwf⟩, hnd⟩, hfl⟩, hfree⟩, hpre⟩, htl⟩ := hB
  have hcov' : ∀ j, j < ops.size → j ∈ pre ∨ j ∈ ([] : List Nat) ∨ j ∈ floats tl ∨ j ∈ wraps tl := fun j hj => by
    have := List.all_eq_true.1 hcov j (List.mem_range.2 hj)
    simp only [Bool.or_eq_true, List.contains_iff_mem] at this
    rcases this with h | h
    · exact .inl h
    · exact .inr (.inr ((tl_split tl j).1 h))
  have hpt' := disj_spec hpt
  have inW : ∀ {j}, j ∈ wraps tl → j ∈ tl.map Prod.fst := fun h => (tl_split tl _).2 (.inr h)
  have inF : ∀ {j}, j ∈ floats tl → j ∈ tl.map Prod.fst := fun h => (tl_split tl _).2 (.inl h)
  have inv0 : PInv .any ops [] (wraps tl) (Array.replicate ops.size false) :=
    ⟨by simp, fun j oj _ hl => (by rw [getD_replicate_false] at hl; cases hl), fun t _ => getD_replicate_false _ _, fun k hk => by cases hk⟩
  have hin : ∀ (l : List Nat) (ls : Array Bool), preB .any ops l ls = true → ∀ k ∈ l, k < ops.size := by
    intro l
    induction l with
    | nil => intro ls _ k hk; cases hk
    | cons x l ih =>
      intro ls h k hk
      simp only [preB, Bool.and_eq_true] at h
      cases hk with
      | head =>
        have hr : x ∈ Region.ready .any ops ls := by simpa using h.1.1
        obtain ⟨_, o, ho, _⟩ := mem_ready.1 hr
        exact (Array.getElem?_eq_some_iff.1 ho).1
      | tail _ hk => exact ih _ h.2 k hk
  have inv1 := preB_inv (pre0 := pre) pre [] _ inv0 hpre (fun k hk h => hpt' k hk (inW h)) (hin _ _ hpre)
  rw [List.nil_append] at inv1
  have hs1 : (setAll (Array.replicate ops.size false) pre).size = ops.size := by rw [setAll_size]; simp
  have un1 : ∀ j, j < ops.size → j ∉ pre → (setAll (Array.replicate ops.size false) pre).getD j false = false := fun j hj hn => by
    rw [setAll_get _ _ _ (by simpa using hj), getD_replicate_false]
    simpa using hn
  have cx : Ctx P ops pre [] [] tl := by
    refine ⟨hsel, hcov', (fun j hj h => by cases hj), fun j hj h => disj_spec hwf j h hj, (fun j hj h => by cases hj), fun j hj h => hpt' j hj (inF h), fun i hi => List.all_eq_true.1 hfl i hi, fun i hi oi hoi k ok hk hne hnp hno => ?_, .inl rfl⟩
    have hkl : k < ops.size := (Array.getElem?_eq_some_iff.1 hk).1
    exact Region.free_spec hoi (List.all_eq_true.1 hfree i hi) k ok hk hne (getD_in (by rw [hs1]; exact hkl) (un1 k hkl hnp)) hno
  refine wp_region_any hm ?_
  have hsz : ops.size = pre.length + tl.length := by omega
  rw [hsz]
  have e0 : Array.replicate (pre.length + tl.length) false = Array.replicate ops.size false := by rw [hsz]
  rw [e0]
  refine execB_sound hsel (fun c a d v w h => h.put) (dfs := a.defers) (ρ := ρ) (fun s1 a1 h1 hr1 hd1 => ?_) pre s _ a next hpre rfl hr rfl
  have hfl0 : ∀ i ∈ floats tl, i < ops.size := fun i hi => by
    obtain ⟨o, _, _, ho, _⟩ := floatB_spec (List.all_eq_true.1 hfl i hi)
    exact (Array.getElem?_eq_some_iff.1 ho).1
  have hmid : Mid P ops pre tl (floats tl) w (setAll (Array.replicate ops.size false) pre) [] (setAll (Array.replicate ops.size false) pre) ρ S H { w with drawn := w.drawn + 1 } :=
    ⟨⟨hs1, hs1, fun j => by simp⟩, inv1.pre, fun e he => absurd he (by simp), List.nodup_nil, List.nodup_nil, List.nodup_nil, fun i hi => ⟨hi, un1 i (hfl0 i hi) fun h => hpt' i h (inF hi)⟩, hnd, fun e he => absurd he (by simp)⟩
  exact AnyC.any _ _ _ _ (tail_read cx tl s1 H hC h1 _ _ htl (floats tl).length [] (by simp) _ ρ S _ a1 hmid (Ev.drew ρ S H w) hd1 (hs.heap rfl) hr1)
/-- A region by a plan: first what is blind, then the others; mode 0 is the only one that may come, mode 1 is blind or a load under C, mode 2 is made whenever the order has it. -/
theorem DrawN.planR {P : Program} {ops : Array Oper} {s : List AV} {H : List Ent} {K : Ex → List AV → List Ent → Prop} (hm : P.follows .mixedOrders = true) (C : World → Prop) (pre : List Nat) (tl : List (Nat × Nat)) (ok : planRB P .any ops pre tl = true) (now : ∀ w, Facts H w → C w)
    (next : execB P ops pre s fun s1 => execR P C [] ops tl s1 H K) : DrawN P ops s H K :=
  .sem fun _ _ _ _ _ hs hr => planR_sound hm ok now next hs hr
/-- The same; of what is made whenever, the listed ones are slices at known addresses. -/
theorem DrawN.planK {P : Program} {ops : Array Oper} {s : List AV} {H : List Ent} {K : Ex → List AV → List Ent → Prop} (hm : P.follows .mixedOrders = true) (C : World → Prop) (kn pre : List Nat) (tl : List (Nat × Nat)) (ok : planRB P .any ops pre tl = true) (now : ∀ w, Facts H w → C w)
    (next : execB P ops pre s fun s1 => execR P C kn ops tl s1 H K) : DrawN P ops s H K :=
  .sem fun _ _ _ _ _ hs hr => planR_sound hm ok now next hs hr
/-- The address of an element of a slice that is there. -/
theorem ReadC.idxA {P : Program} {C : World → Prop} {o : Oper} {s : List AV} {K : AV → Prop} {T e : TypeId} {inf : TypeInfo} {x i : Operand} {a : Option Addr} {n cap sz : Nat} {kk : IntKind} (k : Nat) (ho : o.op = .indexAddr T x i) (hu : P.underlying T = some (.slice e)) (hi : P.info? e = some inf) (hsz : inf.size = sz)
    (hx : opv s x = .c (.v (.slice a n cap))) (hy : opv s i = .c (.v (.int kk (k : Int)))) (ha : a.isSome = true) (hk : k < n) (next : K (.c (.v (.pointer (some (elemAddr a (k * sz))))))) : ∃ x, ReadC P C o s K x := by
  cases a with
  | none => cases ha
  | some p =>
    refine ⟨.pointer (some (elemAddr (some p) (k * sz))), fun cs b e => (by rw [ho] at e; cases e), by rw [ho]; show allPlain s [x, i] = true; simp [allPlain, hx, hy], fun w _ => ?_, next⟩
    have hx2 : plainEv s x = .slice (some p) n cap := by unfold plainEv; rw [hx]
    have hy2 : plainEv s i = .int kk (k : Int) := by unfold plainEv; rw [hy]
    have h := run_indexAt (P := P) hu hi w p n cap kk (k : Int) ⟨by omega, by omega⟩
    rw [Int.toNat_natCast, hsz] at h
    exact execOp_indexAddr ho (by rw [hx2, hy2]; exact h)
end Go.AX

/-
  AX, forty-fifth text: append of a slice that may be empty.
-/
namespace Go.AX

theorem setEK_self : ∀ {H : List Ent} {i : Nat} {e : Ent} {K : List Ent → Prop}, nthE H i = some e → setEK H i e K → K H
  | [], _, _, _, h, _ => by cases h
  | x :: H, 0, e, K, h, hk => by
    have : x = e := Option.some.inj h
    subst this
    exact hk
  | x :: H, i + 1, e, K, h, hk => setEK_self (H := H) (i := i) (K := fun ys => K (x :: ys)) h hk
/-- The target's cells lie in the entry i; what is appended is told by the facts. -/
theorem app_any {H : List Ent} {e : TypeId} {inf : TypeInfo} {n cap b0 m : Nat} {sa : Option Addr} {K : AV → List Ent → Prop} (i : Nat) (xs ys : List Value) (he : nthE H i = some (.app e inf.size xs (some ⟨b0, 0, none⟩) n cap)) (hn : n ≤ cap) (hsa : 0 < m → sa.isSome = true)
    (hlen : ys.length = m * inf.size) (hone : ∀ u ∈ ys, oneV u = true) (hok : ∀ w, Facts H w → ∀ j v, ys[j]? = some v → w.cell? ((sa.getD default).add j) = some v) (hroom : room n m inf.bytes ∧ inf.size ≠ 0)
    (next : ∀ b cap' : Nat, n + m ≤ cap' → setEK H i (.app e inf.size (xs ++ ys) (some ⟨b, 0, none⟩) (n + m) cap') fun H' => K (.c (.v (.slice (some ⟨b, 0, none⟩) (n + m) cap'))) H') :
    brd (Nat.beq m 0) (appendZ H (.c (.v (.slice (some ⟨b0, 0, none⟩) n cap))) (forceA (.c (.v (.slice (some ⟨b0, 0, none⟩) n cap))) fun x => K x H)) (Nd (sa.isSome = true) (ApN H (sa.getD default) m inf.size fun news => appendTo e inf H (.c (.v (.slice (some ⟨b0, 0, none⟩) n cap))) m news K)) := by
  cases m with
  | zero =>
    have h0 : ys = [] := List.eq_nil_of_length_eq_zero (by omega)
    subst h0
    have := next b0 cap (by omega)
    rw [List.append_nil, Nat.add_zero] at this
    exact ⟨hn, setEK_self he this⟩
  | succ m =>
    refine ⟨hsa (by omega), ⟨ys, hlen, hone, hok, ?_⟩⟩
    exact AppN.grow i xs ys he (plains_vs _) ⟨by omega, hroom⟩ fun b c h _ => next b c h
end Go.AX

/-
  AX, forty-fourth text: a law's slice of strings, each of which fits in the reach.
-/
namespace Go.AX
open Go.ChangeShapes Go.WideShapes Go.ChangeAt Go.RowKit
section
variable {H : Type} {enc : TypeId × Value → H} {P : Program} {w : World}

variable {fn : Func} {base : Nat} {args : Array Value} {ds : List (DataW H)} {p : List MemPlace}
end
end Go.AX

/-
  AX, thirty-ninth text: some of one's own entries are over: what they say becomes facts; the others stay.
-/
namespace Go.AX

theorem appB_get {H : List Ent} {b : Nat} (h : appB H b) : ∃ (i : Nat) (e : Ent), H[i]? = some e ∧ e.isApp = true ∧ ∀ ρ j, entB ρ j e b := by
  rcases h with ⟨T, sz, xs, a, n, cap, h1, h2⟩ | ⟨es, c, h1⟩ | ⟨B, F, h1, h2⟩
  · obtain ⟨i, hi⟩ := List.getElem?_of_mem h1
    exact ⟨i, _, hi, rfl, fun _ _ => h2⟩
  · obtain ⟨i, hi⟩ := List.getElem?_of_mem h1
    exact ⟨i, _, hi, rfl, fun _ _ => rfl⟩
  · obtain ⟨i, hi⟩ := List.getElem?_of_mem h1
    exact ⟨i, _, hi, rfl, fun _ _ => h2⟩
theorem Sat.dull {ρ : List Loc} {S : Nat → Prop} {H G : List Ent} {w : World} (h : Sat ρ S H w) (hl : G.length = H.length) (hg : ∀ (i : Nat) (e : Ent), G[i]? = some e → H[i]? = some e ∨ e = .dead) : Sat ρ S G w := by
  have hb : ∀ (i : Nat) (e : Ent) (b : Nat), G[i]? = some e → entB ρ i e b → H[i]? = some e := fun i e b he hb => by
    rcases hg i e he with h1 | rfl
    · exact h1
    · cases hb
  refine ⟨by rw [h.len, hl], fun i e he => ?_, fun i j e f b he hf h1 h2 => h.inj i j e f b (hb i e b he h1) (hb j f b hf h2) h1 h2, fun b ⟨i, e, he, h1⟩ => h.out b ⟨i, e, hb i e b he h1, h1⟩, h.low⟩
  rcases hg i e he with h1 | rfl
  · exact h.ent i e h1
  · trivial
end Go.AX

/-
  AX, forty-first text: at the end of a call two slices of the call's own change their places among the entries.
-/
namespace Go.AX

end Go.AX

/-
  AX, forty-second text: the rest of a slice of anything.
-/
namespace Go.AX
end Go.AX

/-
  AX, forty-third text: rows that are made, of one cell an element.
-/
namespace Go.AX

/-- len of a slice, in a drawing region. -/
theorem BlindW.len {P : Program} {o : Oper} {s : List AV} {K : AV → Prop} {x : Operand} {T e : TypeId} {args : Array Operand} {ts : Array TypeId} {p : Option Addr} {n c : Nat} (ho : o.op = .call { callee := .builtin .len, args := args, argTypes := ts }) (ha : args = #[x]) (ht : ts = #[T]) (hu : P.underlying T = some (.slice e))
    (hx : opv s x = .c (.v (.slice p n c))) (hk : K (.c (.v (.int .i64 (n : Int))))) : ∃ x, BlindW P o s K x := by
  subst ha ht
  refine ⟨.int .i64 (n : Int), ?_, fun w => execOp_blt ho fun consts => ?_, hk⟩
  · rw [ho]
    show allPlain s [x] = true
    simp [allPlain, hx]
  · have he : plainEv s x = .slice p n c := by unfold plainEv; rw [hx]
    simp [builtin, Builtin.len_, run_underlying hu, he, goInt]
end Go.AX

/-
  Contracts: graphs in memory; which are looked at (law).
-/
namespace Go.Core
/-- A cell, and where its names and items lie. -/
structure CellP where
  c : Cell
  na : Option Addr
  nc : Nat
  ia : Option Addr
  ic : Nat
end Go.Core
namespace Go.Proofs.YtahjbnfbilkbcaaGreatDoor
open Go.AX Go.RowKit Go.Core
set_option maxRecDepth 20000

def strC (l : List (List UInt8)) : List Value := l.map fun s => .string (bs s)
def iC (l : List Int) : List Value := l.map fun x => .int .i64 x
theorem strC_get {l : List (List UInt8)} {i : Nat} {s : List UInt8} (h : l[i]? = some s) : (strC l)[i]? = some (.string (bs s)) := by
  unfold strC; rw [List.getElem?_map, h]; rfl
theorem iC_get {l : List Int} {i : Nat} {x : Int} (h : l[i]? = some x) : (iC l)[i]? = some (.int .i64 x) := by
  unfold iC; rw [List.getElem?_map, h]; rfl
def cellC (p : CellP) : List Value := [.int .i64 p.c.kind, .int .i64 p.c.num, .string (bs p.c.text), .slice p.na p.c.names.length p.nc, .slice p.ia p.c.items.length p.ic]
def grC (l : List CellP) : List Value := l.flatMap cellC
theorem grC_get (l : List CellP) (i j : Nat) {p : CellP} (hj : j < 5) (h : l[i]? = some p) : (grC l)[i * 5 + j]? = (cellC p)[j]? := by
  unfold grC
  rw [flat_get (m := 5) (fun _ => rfl) l i j hj, h]
  rfl
/-- What is known of a cell's place. -/
structure CellOk (p : CellP) : Prop where
  na : p.na = none → p.c.names = []
  ia : p.ia = none → p.c.items = []
  nl : p.c.names.length ≤ 200000000000000
  il : p.c.items.length ≤ 200000000000000
  nw : ∀ s ∈ p.c.names, s.length ≤ 200000000000000
  tl : p.c.text.length ≤ 200000000000000
  nb : p.c.names.length ≤ p.nc
  ib : p.c.items.length ≤ p.ic
def CellF (p : CellP) (w : World) : Prop := SlAt p.na (p.c.names.length * 1) (strC p.c.names) w ∧ SlAt p.ia (p.c.items.length * 1) (iC p.c.items) w
/-- A graph lies there. -/
def GrF (a : Option Addr) (l : List CellP) (w : World) : Prop := SlAt a (l.length * 5) (grC l) w ∧ ∀ p ∈ l, CellF p w
end Go.Proofs.YtahjbnfbilkbcaaGreatDoor

/-
  AX, twenty-seventh text: arguments that are slices of structs.
-/
namespace Go.AX
open Go.ChangeShapes Go.WideShapes Go.ChangeAt Go.RowKit

theorem choose_list {α : Type} {R : Nat → α → Prop} : ∀ n, (∀ i, i < n → ∃ x, R i x) → ∃ l : List α, l.length = n ∧ ∀ i x, l[i]? = some x → R i x
  | 0, _ => ⟨[], rfl, fun i x h => by simp at h⟩
  | n + 1, h => by
    obtain ⟨l, hl, hR⟩ := choose_list n fun i hi => h i (by omega)
    obtain ⟨x, hx⟩ := h n (by omega)
    refine ⟨l ++ [x], by simp [hl], fun i y hy => ?_⟩
    by_cases hi : i < l.length
    · rw [List.getElem?_append_left hi] at hy
      exact hR i y hy
    · have hlt := (List.getElem?_eq_some_iff.1 hy).1
      simp only [List.length_append, List.length_cons, List.length_nil] at hlt
      have e : i = l.length := by omega
      subst e
      simp at hy
      subst hy
      rw [hl]; exact hx
section
variable {H : Type} {enc : TypeId × Value → H} {P : Program} {w : World}
theorem weights_all {e : TypeId} : ∀ {l : List (DataW H)} {d : DataW H}, d ∈ l → ∀ k ∈ d.weights P e, k ∈ DataW.weightsAll P e l
  | [], _, h, _, _ => by cases h
  | a :: l, d, h, k, hk => by
    rw [DataW.weightsAll, List.mem_append]
    rcases List.mem_cons.1 h with rfl | h
    · exact .inl hk
    · exact .inr (weights_all h k hk)
end
end Go.AX

/-
  AX, thirty-seventh text: slices that stand in the cells of a slice's structs.
-/
namespace Go.AX
open Go.ChangeShapes Go.WideShapes Go.ChangeAt Go.RowKit
section
variable {H : Type} {enc : TypeId × Value → H} {P : Program} {w : World}
/-- A slice in a cell, as it is read: g lays an item out, Q is what the reading says of it. -/
theorem rows_inC {α : Type} {Q : α → Prop} {m : Nat} (g : α → List Value) (hg : ∀ x, (g x).length = m) {t e : TypeId} {fuel : Nat} {cs : List Value} {y : DataW H × List MemPlace} (ht : P.underlying t = some (.slice e)) (hc : P.cellsOf e = m) (hb : 1 ≤ P.bytesOf e)
    (hread : ∀ n cs (y : DataW H × List MemPlace), DataW.trod enc P w 0 (fun _ => true) true n e cs = some y → (∀ k ∈ y.1.weights P e, k ≤ reachBytes) → ∃ x, Q x ∧ cs = g x)
    (h : DataW.trod enc P w 0 (fun _ => true) true fuel t cs = some y) (hwt : ∀ k ∈ y.1.weights P t, k ≤ reachBytes) :
    ∃ (a : Option Addr) (l : List α) (cap : Nat), cs = [.slice a l.length cap] ∧ l.length ≤ cap ∧ l.length ≤ 200000000000000 ∧ SlAt a (l.length * m) (l.flatMap g) w ∧ (a = none → l = []) ∧ ∀ x ∈ l, Q x := by
  rcases DataW.trod_slice ht h with ⟨h1, h2⟩ | ⟨a, len, cap, elems, rest, n, _, h1, h2, _, hlc, _, hlen, hel, _⟩
  · refine ⟨none, [], 0, by simpa using h1, by simp, by simp, ?_, fun _ => rfl, by simp⟩
    rw [List.length_nil, Nat.zero_mul]
    exact SlAt.nil
  · rw [h2] at hwt
    have hall : ∀ k ∈ (DataW.slice (elems.map (·.1)) (rest.map (·.1))).weights P t, k ≤ reachBytes := hwt
    have hs : (elems.length + rest.length) * P.bytesOf e ≤ reachBytes := by
      have := hall ((elems.length + rest.length) * P.bytesOf e) (by simp [DataW.weights, ht])
      exact this
    have hr : reachBytes < 200000000000000 := by decide
    have hb' : len ≤ reachBytes := by
      rw [hlen] at hs
      exact Nat.le_trans (Nat.le_trans (Nat.le_add_right _ _) (Nat.le_mul_of_pos_right _ hb)) hs
    have hx : ∀ i, i < len → ∃ x, Q x ∧ ∀ q, q < m → w.cell? (a.add (i * m + q)) = (g x)[q]? := fun i hi => by
      have hi2 := hel i hi
      rw [hc, List.getElem?_eq_getElem (by omega)] at hi2
      obtain ⟨cs, hcs, hy⟩ := Option.bind_eq_some_iff.1 hi2
      obtain ⟨x, hQ, rfl⟩ := hread n cs _ hy fun k hk => by
        refine hall k ?_
        simp only [DataW.weights, ht, List.mem_cons, List.mem_append]
        exact .inr (.inl (weights_all (List.mem_map.2 ⟨_, List.getElem_mem _, rfl⟩) k hk))
      refine ⟨x, hQ, fun q hq => ?_⟩
      obtain ⟨_, _, hcell⟩ := World.cells?_some hcs
      have := hcell q hq
      rwa [Addr.add_add] at this
    obtain ⟨l, hl, hR⟩ := choose_list len hx
    refine ⟨some a, l, cap, by rw [hl]; exact h1, by omega, by omega, ?_, (fun h => by cases h), fun x hx => ?_⟩
    · refine ⟨flat_len hg l, fun _ => rfl, fun q hq => ?_⟩
      have hm : 0 < m := Nat.pos_of_ne_zero fun e => by rw [e] at hq; simp at hq
      have hq2 : q = q / m * m + q % m := by rw [Nat.mul_comm]; exact (Nat.div_add_mod q m).symm
      have hqi : q / m < l.length := Nat.div_lt_of_lt_mul (by rw [Nat.mul_comm]; exact hq)
      have hqm := Nat.mod_lt q hm
      show w.cell? (a.add q) = _
      rw [hq2, flat_get hg l _ _ hqm, List.getElem?_eq_getElem hqi]
      exact (hR _ _ (List.getElem?_eq_getElem hqi)).2 _ hqm
    · obtain ⟨i, hi⟩ := List.getElem?_of_mem hx
      exact (hR i x hi).1
theorem rows_in {α : Type} {Q : α → Prop} {m : Nat} (g : α → List Value) (hg : ∀ x, (g x).length = m) {t e : TypeId} {fuel : Nat} {cs : List Value} {y : DataW H × List MemPlace} (ht : P.underlying t = some (.slice e)) (hc : P.cellsOf e = m) (hb : 1 ≤ P.bytesOf e)
    (hread : ∀ n cs (y : DataW H × List MemPlace), DataW.trod enc P w 0 (fun _ => true) true n e cs = some y → (∀ k ∈ y.1.weights P e, k ≤ reachBytes) → ∃ x, Q x ∧ cs = g x)
    (h : DataW.trod enc P w 0 (fun _ => true) true fuel t cs = some y) (hwt : ∀ k ∈ y.1.weights P t, k ≤ reachBytes) :
    ∃ (a : Option Addr) (l : List α) (cap : Nat), cs = [.slice a l.length cap] ∧ l.length ≤ 200000000000000 ∧ SlAt a (l.length * m) (l.flatMap g) w ∧ (a = none → l = []) ∧ ∀ x ∈ l, Q x := by
  obtain ⟨a, l, cap, h1, _, h2⟩ := rows_inC g hg ht hc hb hread h hwt
  exact ⟨a, l, cap, h1, h2⟩
end
/-- Facts of all of a list. -/
theorem Imm.all {α : Type} {S : Nat → Prop} {w : World} {l : List α} {F : α → World → Prop} (h : ∀ x ∈ l, Imm S w (F x)) : Imm S w fun w => ∀ x ∈ l, F x w :=
  ⟨fun x hx => (h x hx).1, fun w' hw x hx => (h x hx).2 w' hw⟩
end Go.AX

/-
  What is read of an argument that is a graph.
-/
namespace Go.Proofs.YtahjbnfbilkbcaaGreatDoor
open Go.ChangeShapes Go.WideShapes Go.ChangeAt Go.RowKit Go.AX Go.Core
set_option maxRecDepth 100000

theorem int_read {H : Type} {enc : TypeId × Value → H} {w : World} : ∀ n cs (y : DataW H × List MemPlace), DataW.trod enc Tryz.prog w 0 (fun _ => true) true n 3 cs = some y → (∀ k ∈ y.1.weights Tryz.prog 3, k ≤ reachBytes) → ∃ x : Int, True ∧ cs = [Value.int .i64 x] := by
  intro n cs y h _
  obtain ⟨k, e, _⟩ := DataW.trod_int Tryz.underlying3 h
  exact ⟨k, trivial, e⟩
theorem flat_int (l : List Int) : (l.flatMap fun x => [Value.int .i64 x]) = iC l := by
  induction l with
  | nil => rfl
  | cons x l ih => rw [List.flatMap_cons, ih]; rfl
end Go.Proofs.YtahjbnfbilkbcaaGreatDoor

/-
  What the rows list.
-/
namespace Go.Proofs.YtahjbnfbilkbcaaGreatDoor
open Go.ChangeShapes Go.WideShapes Go.ChangeAt Go.RowKit Go.AX Go.Core
set_option maxRecDepth 100000

/-- What the rows list. -/
def laid3 : List (String × DataW Unit) := [("math/bits.deBruijn32tab", Rows.laid_math_bits_deBruijn32tab), ("math/bits.deBruijn64tab", Rows.laid_math_bits_deBruijn64tab), ("internal/strconv.uint64pow10", Rows.laid_internal_strconv_uint64pow10)]
theorem door_met (os : Os) (args : Array Value) : laidMetH Tryz.prog laid3 ((World.laidAll Tryz.prog os laid3).forCall (fun _ _ => 0) ⟨#[], args, []⟩).memory := by
  rw [MakeChecks.laidMetH_plain _ _ _ (by kernel_rfl)]; exact laidMet_laidAll _ (by kernel_rfl) (by kernel_rfl)
end Go.Proofs.YtahjbnfbilkbcaaGreatDoor

/-
  What a struct of the law's arguments holds: Three and Two.
-/
namespace Go.Proofs.YtahjbnfbilkbcaaGreatDoor
open Go.ChangeShapes Go.WideShapes Go.ChangeAt Go.RowKit Go.AX Go.Core
set_option maxRecDepth 100000

theorem three_read {H : Type} {enc : TypeId × Value → H} {w : World} {n : Nat} {cs : List Value} {y : DataW H × List MemPlace} (h : DataW.trod enc Tryz.prog w 0 (fun _ => true) true n 45 cs = some y) (hk : ∀ k ∈ y.1.weights Tryz.prog 45, k ≤ reachBytes) :
    ∃ (a : Option Addr) (l : List Int) (c : Nat) (z1 z2 z3 : Int), cs = [.slice a l.length c, .int .i64 z1, .int .i64 z2, .int .i64 z3] ∧ (a = none → l = []) ∧ l.length ≤ 200000000000000 ∧ SlAt a (l.length * 1) (iC l) w := by
  have cT : Tryz.prog.cellsOf 3 = 1 := by kernel_rfl
  have cI : Tryz.prog.cellsOf 35 = 1 := by kernel_rfl
  have cP : Tryz.prog.cellsOf 45 = 4 := by kernel_rfl
  obtain ⟨xs, n', _, hx, hlen, hxl, hf⟩ := DataW.trod_struct Tryz.underlying45 h
  have h0 := hf 0 _ rfl
  have h1 := hf 1 _ rfl
  have h2 := hf 2 _ rfl
  have h3 := hf 3 _ rfl
  match xs, hxl with
  | [y0, y1, y2, y3], _ =>
    have hw : ∀ k, k ∈ y0.1.weights Tryz.prog 35 → k ≤ reachBytes := fun k hk2 => hk k (by
      rw [hx]
      simp only [DataW.weights, Tryz.underlying45]
      simp [DataW.weightsEach]
      exact .inl hk2)
    obtain ⟨a, l, c, e0, hl, hs, hn, _⟩ := rows_in (m := 1) (fun x : Int => [Value.int .i64 x]) (fun _ => rfl) Tryz.underlying35 (by kernel_rfl) (by decide +kernel) int_read h0 hw
    obtain ⟨z1, e1, _⟩ := DataW.trod_int Tryz.underlying3 h1
    obtain ⟨z2, e2, _⟩ := DataW.trod_int Tryz.underlying3 h2
    obtain ⟨z3, e3, _⟩ := DataW.trod_int Tryz.underlying3 h3
    rw [flat_int] at hs
    rw [cP] at hlen
    match cs, hlen with
    | [d0, d1, d2, d3], _ =>
      have f0 : List.take (Tryz.prog.cellsOf 35) (List.drop 0 [d0, d1, d2, d3]) = [.slice a l.length c] := e0
      have f1 : List.take (Tryz.prog.cellsOf 3) (List.drop 1 [d0, d1, d2, d3]) = [.int .i64 z1] := e1
      have f2 : List.take (Tryz.prog.cellsOf 3) (List.drop 2 [d0, d1, d2, d3]) = [.int .i64 z2] := e2
      have f3 : List.take (Tryz.prog.cellsOf 3) (List.drop 3 [d0, d1, d2, d3]) = [.int .i64 z3] := e3
      clear e0 e1 e2 e3
      rw [cI] at f0
      rw [cT] at f1 f2 f3
      simp at f0 f1 f2 f3
      subst f0 f1 f2 f3
      exact ⟨a, l, c, z1, z2, z3, rfl, hn, hl, hs⟩
end Go.Proofs.YtahjbnfbilkbcaaGreatDoor

/-
  Contracts: leaves; whether two cells are one key (program, document).
-/
namespace Go.Core
def oneKeyB (x y : Cell) : Bool := isLeaf x && x.kind == y.kind && x.num == y.num && x.text == y.text
end Go.Core
namespace Go.Proofs.YtahjbnfbilkbcaaGreatDoor
open Go.AX Go.RowKit Go.Core
set_option maxRecDepth 20000

theorem isLeaf_c (k : Int) : ∀ H, SpecH Tryz.prog 85 (pvs [.int .i64 k]) H (Ret (.bool (decide (k ≤ 5))) H) := by
  refine pureC hm Tryz.func85 (by kernel_rfl) rfl rfl ?_
  (first | refine wX ?_ | exact wZ)
def cellV (p : CellP) : Value := .agg #[.int .i64 p.c.kind, .int .i64 p.c.num, .string (bs p.c.text), .slice p.na p.c.names.length p.nc, .slice p.ia p.c.items.length p.ic]
theorem leaf_c (p : CellP) : ∀ H, SpecH Tryz.prog 80 (pvs [cellV p]) H (Ret (.bool (isLeaf p.c)) H) := by
  refine pureC hm Tryz.func80 (by kernel_rfl) rfl rfl ?_
  (first | refine wX ?_ | exact wZ)
  rfl
theorem txt_eq (a b : List UInt8) : ((bs a).data.toList == (bs b).data.toList) = (a == b) := by rw [bs_list, bs_list]
set_option maxHeartbeats 1000000 in
theorem oneKey_c (a : Option Addr) (c : Nat) (l : List CellP) (i j : Nat) (p q : CellP) (hp : l[i]? = some p) (hq : l[j]? = some q) (ha : a = none → l = []) (hl : l.length ≤ 200000000000000) : ∀ H, (∀ w, Facts H w → GrF a l w) → SpecH Tryz.prog 59 (pvs [.slice a l.length c, .int .i64 (i : Int), .int .i64 (j : Int)]) H (Ret (.bool (decide ((i : Int) = j) || oneKeyB p.c q.c)) H) := by
  refine factC hm Tryz.func59 (by kernel_rfl) rfl rfl ?_
  have hil := (List.getElem?_eq_some_iff.1 hp).1
  have hjl := (List.getElem?_eq_some_iff.1 hq).1
  have hsa : a.isSome = true := by
    cases a with
    | none => rw [ha rfl] at hp; cases hp
    | some b => rfl
  (first | refine wX ?_ | exact wZ)
  refine DrawN.planR hm (fun w => SlAt a (l.length * 5) (grC l) w) [0, 1, 4, 5] [(2, 1), (3, 1), (6, 1), (7, 1), (8, 2), (9, 2), (10, 0), (11, 0)] (by decide +kernel) (fun w hw => hw.1.1) ?_
  -- fun w hw => hw.1.1: why the kind holds
  ((conv => whnf); (repeat ((first | refine Nd.mk (fun w hw => hw.1.1) ?_ | refine VrN.norm (wrap_i64 (by omega)) ?_ | refine VrN.keep ?_ | refine DrawN.calm (by decide +kernel) ?_ | refine Nd.mk (by decide +kernel) ?_ | refine Nd.mk (by omega) ?_ | refine RdN.intro _ rfl (by rfl) ?_); (conv => whnf))))
  refine ReadC.idxA (e := 42) (sz := 5) i rfl Tryz.underlying22 rfl rfl rfl rfl hsa hil ?_
  -- fun w hw => hw.1.1: why the kind holds
  ((conv => whnf); (repeat ((first | refine Nd.mk (fun w hw => hw.1.1) ?_ | refine VrN.norm (wrap_i64 (by omega)) ?_ | refine VrN.keep ?_ | refine DrawN.calm (by decide +kernel) ?_ | refine Nd.mk (by decide +kernel) ?_ | refine Nd.mk (by omega) ?_ | refine RdN.intro _ rfl (by rfl) ?_); (conv => whnf))))
  refine ReadC.agg (cellC p) rfl rfl rfl (fun w hw => hw) rfl (fun k hk => grC_get l i k hk hp) ?_
  -- fun w hw => hw.1.1: why the kind holds
  ((conv => whnf); (repeat ((first | refine Nd.mk (fun w hw => hw.1.1) ?_ | refine VrN.norm (wrap_i64 (by omega)) ?_ | refine VrN.keep ?_ | refine DrawN.calm (by decide +kernel) ?_ | refine Nd.mk (by decide +kernel) ?_ | refine Nd.mk (by omega) ?_ | refine RdN.intro _ rfl (by rfl) ?_); (conv => whnf))))
  refine ReadC.idxA (e := 42) (sz := 5) j rfl Tryz.underlying22 rfl rfl rfl rfl hsa hjl ?_
  -- fun w hw => hw.1.1: why the kind holds
  ((conv => whnf); (repeat ((first | refine Nd.mk (fun w hw => hw.1.1) ?_ | refine VrN.norm (wrap_i64 (by omega)) ?_ | refine VrN.keep ?_ | refine DrawN.calm (by decide +kernel) ?_ | refine Nd.mk (by decide +kernel) ?_ | refine Nd.mk (by omega) ?_ | refine RdN.intro _ rfl (by rfl) ?_); (conv => whnf))))
  refine ReadC.agg (cellC q) rfl rfl rfl (fun w hw => hw) rfl (fun k hk => grC_get l j k hk hq) ?_
  -- fun w hw => hw.1.1: why the kind holds
  ((conv => whnf); (repeat ((first | refine Nd.mk (fun w hw => hw.1.1) ?_ | refine VrN.norm (wrap_i64 (by omega)) ?_ | refine VrN.keep ?_ | refine DrawN.calm (by decide +kernel) ?_ | refine Nd.mk (by decide +kernel) ?_ | refine Nd.mk (by omega) ?_ | refine RdN.intro _ rfl (by rfl) ?_); (conv => whnf))))
  refine brd_eq (fun hab => ?_) (fun hab => ?_)
  · (first | refine wX ?_ | exact wZ)
    exact out_bool (by simp [hab])
  · (first | refine wX ?_ | exact wZ)
    refine call1 (isLeaf_c p.c.kind _) ?_
    rw [show decide (p.c.kind ≤ 5) = isLeaf p.c from rfl]
    -- what is compared, once both cells are in slots; x: the call of leaf
    cases hl : isLeaf p.c with
    | false =>
      (first | refine wX ?_ | exact wZ)
      exact out_bool (by unfold oneKeyB; rw [hl]; simp [hab])
    | true =>
      (first | refine wX ?_ | exact wZ)
      refine brd_eq (fun h1 => ?_) (fun h1 => ?_)
      · (first | refine wX ?_ | exact wZ)
        refine brd_eq (fun h2 => ?_) (fun h2 => ?_)
        · (first | refine wX ?_ | exact wZ)
          exact out_bool (by unfold oneKeyB; rw [hl, txt_eq]; simp [hab, h1, h2])
        · (first | refine wX ?_ | exact wZ)
          exact out_bool (by unfold oneKeyB; rw [hl]; simp [hab, h1, h2])
      · (first | refine wX ?_ | exact wZ)
        exact out_bool (by unfold oneKeyB; rw [hl]; simp [hab, h1])
theorem okey_c (a : Option Addr) (c : Nat) (l : List CellP) (i j : Nat) (p q : CellP) (hp : l[i]? = some p) (hq : l[j]? = some q) (ha : a = none → l = []) (hl : l.length ≤ 200000000000000) : ∀ H, (∀ w, Facts H w → GrF a l w) → SpecH Tryz.prog 44 (pvs [.slice a l.length c, .int .i64 (i : Int), .int .i64 (j : Int)]) H (Ret (.bool (decide ((i : Int) = j) || oneKeyB p.c q.c)) H) := by
  refine factC hm Tryz.func44 (by kernel_rfl) rfl rfl ?_
  have hil := (List.getElem?_eq_some_iff.1 hp).1
  have hjl := (List.getElem?_eq_some_iff.1 hq).1
  have hsa : a.isSome = true := by
    cases a with
    | none => rw [ha rfl] at hp; cases hp
    | some b => rfl
  (first | refine wX ?_ | exact wZ)
  refine Nd.mk ⟨hsa, by omega, by omega⟩ ?_
  (first | refine wX ?_ | exact wZ)
  refine LdN.agg (cellC p) rfl (fun w hw => hw.1.1) rfl (fun k hk => by rw [Int.toNat_natCast]; exact grC_get l i k hk hp) ?_
  (first | refine wX ?_ | exact wZ)
  refine Nd.mk ⟨hsa, by omega, by omega⟩ ?_
  (first | refine wX ?_ | exact wZ)
  refine LdN.agg (cellC q) rfl (fun w hw => hw.1.1) rfl (fun k hk => by rw [Int.toNat_natCast]; exact grC_get l j k hk hq) ?_
  (first | refine wX ?_ | exact wZ)
  refine brd_eq (fun hab => ?_) (fun hab => ?_)
  · (first | refine wX ?_ | exact wZ)
    exact out_bool (by simp [hab])
  · (first | refine wX ?_ | exact wZ)
    refine call1 (leaf_c p _) ?_
    -- what is compared, once both cells are in slots; x: the call of leaf
    cases hl : isLeaf p.c with
    | false =>
      (first | refine wX ?_ | exact wZ)
      exact out_bool (by unfold oneKeyB; rw [hl]; simp [hab])
    | true =>
      (first | refine wX ?_ | exact wZ)
      refine brd_eq (fun h1 => ?_) (fun h1 => ?_)
      · (first | refine wX ?_ | exact wZ)
        refine brd_eq (fun h2 => ?_) (fun h2 => ?_)
        · (first | refine wX ?_ | exact wZ)
          exact out_bool (by unfold oneKeyB; rw [hl, txt_eq]; simp [hab, h1, h2])
        · (first | refine wX ?_ | exact wZ)
          exact out_bool (by unfold oneKeyB; rw [hl]; simp [hab, h1, h2])
      · (first | refine wX ?_ | exact wZ)
        exact out_bool (by unfold oneKeyB; rw [hl]; simp [hab, h1])
end Go.Proofs.YtahjbnfbilkbcaaGreatDoor

/-
  AX, forty-seventh text: what is known said in another way, between the rounds of a loop: own entries that nobody writes any more become facts.
-/
namespace Go.AX

/-- What is over: what does not stay as it is. -/
def restK : List Ent → List Ent → List Ent
  | [], _ => []
  | h :: H, [] => h :: restK H []
  | h :: H, .fact _ :: G => h :: restK H G
  | h :: H, .dead :: G => h :: restK H G
  | .fact F :: H, _ :: G => .fact F :: restK H G
  | _ :: H, _ :: G => .dead :: restK H G
theorem restK_len : ∀ H G : List Ent, (restK H G).length = H.length
  | [], _ => rfl
  | _ :: H, [] => by simp [restK, restK_len H []]
  | h :: H, g :: G => by cases g <;> cases h <;> simp [restK, restK_len H G]
theorem restK_get : ∀ (H G : List Ent) (i : Nat) (e : Ent), (restK H G)[i]? = some e → H[i]? = some e ∨ e = .dead
  | [], _, _, _, h => by cases h
  | h :: H, [], 0, e, he => .inl he
  | h :: H, [], i + 1, e, he => restK_get H [] i e he
  | h :: H, g :: G, 0, e, he => by cases g <;> cases h <;> first | exact .inl he | exact .inr (Option.some.inj he).symm
  | h :: H, g :: G, i + 1, e, he => restK_get H G i e (by cases g <;> cases h <;> exact he)
/-- Where an entry stays that may be written, nothing is over. -/
theorem restK_stay : ∀ (H G : List Ent) (i : Nat) (e f : Ent) (ρ : List Loc) (b : Nat), entB ρ i e b → f.isApp = true → G[i]? = some e → (restK H G)[i]? = some f → False
  | [], _, _, _, _, _, _, _, _, _, h => by cases h
  | h :: H, [], _, _, _, _, _, _, _, h1, _ => by cases h1
  | h :: H, g :: G, 0, e, f, ρ, b, he, hf, h1, h2 => by
    obtain rfl := Option.some.inj h1
    cases g <;> first | (cases he; done) | (cases h <;> (obtain rfl := Option.some.inj h2; cases hf))
  | h :: H, g :: G, i + 1, e, f, ρ, b, he, hf, h1, h2 => restK_stay H G i e f (ρ.drop 1) b (by
      revert he
      cases e <;> simp [entB]) hf h1 (by cases g <;> cases h <;> exact h2)
def SealE (R : World → Prop) (h g : Ent) : Prop := g = .dead ∨ g = h ∨ ∃ Γ, g = .fact Γ ∧ ∀ w, R w → Γ w
def SealR (R : World → Prop) : List Ent → List Ent → Prop
  | [], [] => True
  | h :: H, g :: G => SealE R h g ∧ SealR R H G
  | _, _ => False
theorem SealR.get {R : World → Prop} : ∀ {H G : List Ent}, SealR R H G → G.length = H.length ∧ ∀ (i : Nat) (g : Ent), G[i]? = some g → ∃ h, H[i]? = some h ∧ SealE R h g
  | [], [], _ => ⟨rfl, fun _ _ h => by cases h⟩
  | h :: H, g :: G, hs => by
    obtain ⟨h1, h2⟩ := SealR.get hs.2
    refine ⟨by simp [h1], fun i e he => ?_⟩
    cases i with
    | zero => obtain rfl := Option.some.inj he; exact ⟨h, rfl, hs.1⟩
    | succ i => exact h2 i e he
  | [], _ :: _, h => h.elim
  | _ :: _, [], h => h.elim
theorem turnS {H G : List Ent} (h : SealR (Facts (restK H G)) H G) : TurnS H G := by
  obtain ⟨hl, hg⟩ := h.get
  refine ⟨hl, fun ρ S w hs => ?_⟩
  have h1 := hs.dull (restK_len H G) (restK_get H G)
  have hno : ∀ (i : Nat) (e : Ent) (b : Nat), G[i]? = some e → entB ρ i e b → H[i]? = some e := fun i e b he hb => by
    obtain ⟨f, hf, h2⟩ := hg i e he
    rcases h2 with rfl | rfl | ⟨Γ, rfl, _⟩
    · cases hb
    · exact hf
    · cases hb
  have hmb : ∀ b, mb ρ G b → mb ρ H b := fun b ⟨i, e, he, hb⟩ => ⟨i, e, hno i e b he hb, hb⟩
  refine ⟨fun b => S b ∨ appB (restK H G) b, ⟨by rw [hs.len, hl], fun i e he => ?_, fun i j e f b he hf hb hc => hs.inj i j e f b (hno i e b he hb) (hno j f b hf hc) hb hc, fun b ⟨i, e, he, hb⟩ hS => ?_, fun b hb => ?_⟩, ⟨[], by simp⟩, rfl, rfl, rfl, Nat.le_refl _, fun _ _ _ => rfl, fun b hb => ?_, fun b hb => .inl (hmb b hb)⟩
  · obtain ⟨f, hf, h2⟩ := hg i e he
    rcases h2 with rfl | rfl | ⟨Γ, rfl, hΓ⟩
    · trivial
    · exact (hs.ent i _ hf).grow fun b hb => .inl hb
    · exact h1.imm.mono hΓ
  · have a1 := hno i e b he hb
    rcases hS with hS | hS
    · exact hs.out b ⟨i, _, a1, hb⟩ hS
    · obtain ⟨j, f, hf, hfa, hfb⟩ := appB_get hS
      rcases restK_get H G j f hf with hH | rfl
      · obtain rfl := hs.inj i j _ f b a1 hH hb (hfb ρ j)
        exact restK_stay H G i e f ρ b hb hfa he hf
      · cases hfa
  · rcases hb with hb | hb
    · exact hs.low b hb
    · obtain ⟨i, e, he, heb⟩ := appB_mb (ρ := ρ) hb
      exact h1.blk_lt he heb
  · rcases hb with hb | hb
    · exact .inl hb
    · obtain ⟨j, f, hf, hfa, hfb⟩ := appB_get hb
      rcases restK_get H G j f hf with hH | rfl
      · exact .inr (.inl ⟨j, f, hH, hfb _ _⟩)
      · cases hfa
theorem turn_refl (H : List Ent) : TurnS H H := ⟨rfl, fun ρ S w hs => ⟨S, hs, Ev.refl _ _ _ _⟩⟩
end Go.AX

/-
  Contracts: a graph for the specification, and back (law).
-/
namespace Go.Proofs.YtahjbnfbilkbcaaGreatDoor
open Go.AX Go.RowKit Go.Core
set_option maxRecDepth 20000

/-- A graph that is looked at. -/
def Small (l : List CellP) : Prop := l.length ≤ 2000 ∧ ∀ p ∈ l, p.c.names.length ≤ 2000 ∧ p.c.items.length ≤ 2000
/-- A graph that was handed back. -/
def GrR (l : List Cell) (v : Value) (G : World → Prop) : Prop := ∃ (oa : Option Addr) (oc : Nat) (m : List CellP), v = .slice oa m.length oc ∧ (oa = none → m = []) ∧ m.map (·.c) = l ∧ (∀ p ∈ m, CellOk p) ∧ ∀ w, G w → GrF oa m w
structure DSt where
  i : Nat
  oa : Option Addr
  oc : Nat
  m : List CellP
def DInv (l : List CellP) : DSt → Prop := fun ⟨i, oa, oc, m⟩ => i ≤ l.length ∧ m.map (·.c) = (l.take i).map (·.c) ∧ (∀ p ∈ m, CellOk p) ∧ (oa = none → m = []) ∧ m.length ≤ oc
theorem DInv.len {l : List CellP} {i oc : Nat} {oa : Option Addr} {m : List CellP} (h : DInv l ⟨i, oa, oc, m⟩) : m.length = i := by
  have h1 := congrArg List.length h.2.1
  simp only [List.length_map, List.length_take] at h1
  have := h.1
  omega
theorem grC_len (l : List CellP) : (grC l).length = l.length * 5 := by
  unfold grC
  induction l with
  | nil => rfl
  | cons p l ih => rw [List.flatMap_cons, List.length_append, ih, List.length_cons]; show 5 + _ = _; omega
theorem grC_snoc (l : List CellP) (p : CellP) : grC (l ++ [p]) = grC l ++ cellC p := by unfold grC; rw [List.flatMap_append]; simp
set_option maxHeartbeats 4000000 in
theorem as_c (a : Option Addr) (ca : Nat) (l : List CellP) (ha : a = none → l = []) (hs : Small l) (hok : ∀ p ∈ l, CellOk p) : SpecF Tryz.prog 16 [.slice a l.length ca] (GrF a l) (GrR (l.map (·.c))) := by
  obtain ⟨hl, hsm⟩ := hs
  refine specF hm Tryz.func16 (by kernel_rfl) rfl rfl ?_
  (first | refine wX ?_ | exact wZ)
  refine LoopN.introS DSt (DInv l) (fun ⟨i, oa, oc, m⟩ => mkS 35 0 [(0, .c (.v (.slice a l.length ca))), (3, .c (.v (.slice oa m.length oc))), (4, .c (.v (.int .i64 (i : Int))))]) (fun ⟨i, oa, oc, m⟩ => [.fact (GrF a l), .app 73 5 (grC m) oa m.length oc, .fact (fun w => ∀ p ∈ m, CellF p w)]) (fun ⟨i, _, _, _⟩ => l.length - i) [.app 73 5 [] none 0 0, .dead] rfl (fun _ => rfl) (fun _ => rfl) (fun _ _ => ⟨trivial, trivial, trivial, trivial⟩) ?_ ?_
  · refine ⟨⟨0, none, 0, []⟩, ⟨Nat.zero_le _, rfl, (fun p h => by cases h), (fun _ => rfl), Nat.le_refl _⟩, ?_, [.fact (GrF a l), .app 73 5 [] none 0 0, .fact (fun w => ∀ p ∈ [], CellF p w)], turnS ?_, ?_⟩
    · (repeat' (first | exact trivial | refine And.intro (by with_reducible rfl) ?_ | (with_reducible exact wkC_refl _) | (with_reducible exact wkCs_refl _) | refine And.intro ?_ ?_))
      all_goals rfl
    · exact ⟨.inr (.inl rfl), .inr (.inl rfl), .inr (.inr ⟨_, rfl, fun w _ p hp => by cases hp⟩), trivial⟩
    · exact wkH_refl _
  rintro ⟨i, oa, oc, m⟩ hinv
  have hml := hinv.len
  obtain ⟨hi, hmc, hmo, hoa, hoc⟩ := hinv
  (first | refine wX ?_ | exact wZ)
  refine brd_dec (fun h1 => ?_) (fun h1 => ?_)
  · obtain ⟨p, hp⟩ : ∃ p, l[i]? = some p := ⟨_, List.getElem?_eq_getElem (by omega)⟩
    have hpm := List.mem_of_getElem? hp
    have hpo := hok p hpm
    obtain ⟨hnl, hil⟩ := hsm p hpm
    have hsa : a.isSome = true := by
      cases a with
      | none => rw [ha rfl] at hp; cases hp
      | some b => rfl
    (first | refine wX ?_ | exact wZ)
    refine Nd.mk ⟨hsa, by omega, by omega⟩ ?_
    (first | refine wX ?_ | exact wZ)
    refine LdN.agg (cellC p) rfl (fun w hw => hw.1.1) rfl (fun k hk => by rw [Int.toNat_natCast]; exact grC_get l i k hk hp) ?_
    (first | refine wXB ?_ | exact wZB)
    refine BoxN.known [.int .i64 0, .int .i64 0, .string { data := #[] }, .slice none 0 0, .slice none 0 0] rfl fun cb => ?_
    (first | refine wXB ?_ | exact wZB)
    refine EffW.appTo (i := 3) (q := 0) (ys := cellC p) (cellC p) 5 rfl rfl rfl rfl rfl rfl rfl (Nat.le_of_ble_eq_true rfl) rfl rfl ?_
    (first | refine wXB ?_ | exact wZB)
    refine DrawN.planK hm (fun w => SlAt (some ⟨cb, 0, none⟩) 5 (cellC p) w) [7, 11] [0, 1, 3, 5, 8, 12] [(9, 1), (2, 1), (4, 1), (6, 1), (13, 1), (7, 2), (10, 0), (11, 2), (14, 0), (15, 0), (16, 0), (17, 0), (18, 0)] (by decide +kernel) (fun w hw => hw.2.2.2.1) ?_
    -- fun w hw => hw.2.2.2.1: why the kind holds
    ((conv => whnf); (repeat ((first | refine Nd.mk (fun w hw => hw.2.2.2.1) ?_ | refine VrN.norm (wrap_i64 (by omega)) ?_ | refine VrN.keep ?_ | refine Nd.mk (by decide +kernel) ?_ | refine Nd.mk (by omega) ?_ | refine RdN.intro _ rfl (by rfl) ?_); (conv => whnf))))
    refine ReadC.one (a := some ⟨cb, 0, none⟩) (q := 3) (.slice p.na p.c.names.length p.nc) rfl rfl rfl (fun w hw => hw) rfl ?_
    -- fun w hw => hw.2.2.2.1: why the kind holds
    ((conv => whnf); (repeat ((first | refine Nd.mk (fun w hw => hw.2.2.2.1) ?_ | refine VrN.norm (wrap_i64 (by omega)) ?_ | refine VrN.keep ?_ | refine Nd.mk (by decide +kernel) ?_ | refine Nd.mk (by omega) ?_ | refine RdN.intro _ rfl (by rfl) ?_); (conv => whnf))))
    -- 0: the field of the cell, .int .i64 p.c.kind: the value
    refine ReadC.one (a := some ⟨cb, 0, none⟩) (q := 0) (.int .i64 p.c.kind) rfl rfl rfl (fun w hw => hw) rfl ?_
    -- fun w hw => hw.2.2.2.1: why the kind holds
    ((conv => whnf); (repeat ((first | refine Nd.mk (fun w hw => hw.2.2.2.1) ?_ | refine VrN.norm (wrap_i64 (by omega)) ?_ | refine VrN.keep ?_ | refine Nd.mk (by decide +kernel) ?_ | refine Nd.mk (by omega) ?_ | refine RdN.intro _ rfl (by rfl) ?_); (conv => whnf))))
    -- 1: the field of the cell, .int .i64 p.c.num: the value
    refine ReadC.one (a := some ⟨cb, 0, none⟩) (q := 1) (.int .i64 p.c.num) rfl rfl rfl (fun w hw => hw) rfl ?_
    -- fun w hw => hw.2.2.2.1: why the kind holds
    ((conv => whnf); (repeat ((first | refine Nd.mk (fun w hw => hw.2.2.2.1) ?_ | refine VrN.norm (wrap_i64 (by omega)) ?_ | refine VrN.keep ?_ | refine Nd.mk (by decide +kernel) ?_ | refine Nd.mk (by omega) ?_ | refine RdN.intro _ rfl (by rfl) ?_); (conv => whnf))))
    -- 2: the field of the cell, .string (bs p.c.text): the value
    refine ReadC.one (a := some ⟨cb, 0, none⟩) (q := 2) (.string (bs p.c.text)) rfl rfl rfl (fun w hw => hw) rfl ?_
    -- fun w hw => hw.2.2.2.1: why the kind holds
    ((conv => whnf); (repeat ((first | refine Nd.mk (fun w hw => hw.2.2.2.1) ?_ | refine VrN.norm (wrap_i64 (by omega)) ?_ | refine VrN.keep ?_ | refine Nd.mk (by decide +kernel) ?_ | refine Nd.mk (by omega) ?_ | refine RdN.intro _ rfl (by rfl) ?_); (conv => whnf))))
    -- 4: the field of the cell, .slice p.ia p.c.items.length p.ic: the value
    refine ReadC.one (a := some ⟨cb, 0, none⟩) (q := 4) (.slice p.ia p.c.items.length p.ic) rfl rfl rfl (fun w hw => hw) rfl ?_
    -- fun w hw => hw.2.2.2.1: why the kind holds
    ((conv => whnf); (repeat ((first | refine Nd.mk (fun w hw => hw.2.2.2.1) ?_ | refine VrN.norm (wrap_i64 (by omega)) ?_ | refine VrN.keep ?_ | refine Nd.mk (by decide +kernel) ?_ | refine Nd.mk (by omega) ?_ | refine RdN.intro _ rfl (by rfl) ?_); (conv => whnf))))
    intro nb
    -- fun w hw => hw.2.2.2.1: why the kind holds
    ((conv => whnf); (repeat ((first | refine Nd.mk (fun w hw => hw.2.2.2.1) ?_ | refine VrN.norm (wrap_i64 (by omega)) ?_ | refine VrN.keep ?_ | refine Nd.mk (by decide +kernel) ?_ | refine Nd.mk (by omega) ?_ | refine RdN.intro _ rfl (by rfl) ?_); (conv => whnf))))
    refine app_any 4 [] (strC p.c.names) rfl (Nat.le_refl _) (fun h => by cases hq : p.na with | none => rw [hpo.na hq] at h; cases h | some b => rfl) (by show (strC p.c.names).length = p.c.names.length * 1; simp [strC]) (fun u hu => by obtain ⟨x, _, rfl⟩ := List.mem_map.1 hu; rfl) (fun w hw j v hv => (hw.1.2 p hpm).1.cell hv) ⟨⟨by show (0 + p.c.names.length) * 16 ≤ _; omega, by omega⟩, Nat.one_ne_zero⟩ fun nb2 nc2 hnc2 => ?_
    rw [Nat.zero_add, List.nil_append]
    -- fun w hw => hw.2.2.2.1: why the kind holds
    ((conv => whnf); (repeat ((first | refine Nd.mk (fun w hw => hw.2.2.2.1) ?_ | refine VrN.norm (wrap_i64 (by omega)) ?_ | refine VrN.keep ?_ | refine Nd.mk (by decide +kernel) ?_ | refine Nd.mk (by omega) ?_ | refine RdN.intro _ rfl (by rfl) ?_); (conv => whnf))))
    intro ib
    -- fun w hw => hw.2.2.2.1: why the kind holds
    ((conv => whnf); (repeat ((first | refine Nd.mk (fun w hw => hw.2.2.2.1) ?_ | refine VrN.norm (wrap_i64 (by omega)) ?_ | refine VrN.keep ?_ | refine Nd.mk (by decide +kernel) ?_ | refine Nd.mk (by omega) ?_ | refine RdN.intro _ rfl (by rfl) ?_); (conv => whnf))))
    refine app_any 5 [] (iC p.c.items) rfl (Nat.le_refl _) (fun h => by cases hq : p.ia with | none => rw [hpo.ia hq] at h; cases h | some b => rfl) (by show (iC p.c.items).length = p.c.items.length * 1; simp [iC]) (fun u hu => by obtain ⟨x, _, rfl⟩ := List.mem_map.1 hu; rfl) (fun w hw j v hv => (hw.1.2 p hpm).2.cell hv) ⟨⟨by show (0 + p.c.items.length) * 8 ≤ _; omega, by omega⟩, Nat.one_ne_zero⟩ fun ib2 ic2 hic2 => ?_
    rw [Nat.zero_add, List.nil_append]
    -- fun w hw => hw.2.2.2.1: why the kind holds
    ((conv => whnf); (repeat ((first | refine Nd.mk (fun w hw => hw.2.2.2.1) ?_ | refine VrN.norm (wrap_i64 (by omega)) ?_ | refine VrN.keep ?_ | refine Nd.mk (by decide +kernel) ?_ | refine Nd.mk (by omega) ?_ | refine RdN.intro _ rfl (by rfl) ?_); (conv => whnf))))
    refine RwN.own ?_
    -- fun w hw => hw.2.2.2.1: why the kind holds
    ((conv => whnf); (repeat ((first | refine Nd.mk (fun w hw => hw.2.2.2.1) ?_ | refine VrN.norm (wrap_i64 (by omega)) ?_ | refine VrN.keep ?_ | refine Nd.mk (by decide +kernel) ?_ | refine Nd.mk (by omega) ?_ | refine RdN.intro _ rfl (by rfl) ?_); (conv => whnf))))
    refine Nd.mk ⟨Nat.le_refl 1, rfl, rfl⟩ ?_
    (conv => whnf)
    refine AppN.grow 1 (grC m) (cellC ⟨p.c, some ⟨nb2, 0, none⟩, nc2, some ⟨ib2, 0, none⟩, ic2⟩) rfl rfl ⟨Nat.le_refl 1, ⟨by show (m.length + 1) * 80 ≤ _; omega, by omega⟩, by decide⟩ fun ob2 oc2 hoc2 _ => ?_
    -- fun w hw => hw.2.2.2.1: why the kind holds
    ((conv => whnf); (repeat ((first | refine Nd.mk (fun w hw => hw.2.2.2.1) ?_ | refine VrN.norm (wrap_i64 (by omega)) ?_ | refine VrN.keep ?_ | refine Nd.mk (by decide +kernel) ?_ | refine Nd.mk (by omega) ?_ | refine RdN.intro _ rfl (by rfl) ?_); (conv => whnf))))
    have hm2 : m.length + 1 = (m ++ [(⟨p.c, some ⟨nb2, 0, none⟩, nc2, some ⟨ib2, 0, none⟩, ic2⟩ : CellP)]).length := by simp
    have hg2 := grC_snoc m ⟨p.c, some ⟨nb2, 0, none⟩, nc2, some ⟨ib2, 0, none⟩, ic2⟩
    refine ⟨⟨i + 1, some ⟨ob2, 0, none⟩, oc2, m ++ [⟨p.c, some ⟨nb2, 0, none⟩, nc2, some ⟨ib2, 0, none⟩, ic2⟩]⟩, ⟨by omega, ?_, ?_, (fun h => by cases h), by omega⟩, by show l.length - (i + 1) < l.length - i; omega, ?_, [.fact (GrF a l), .app 73 5 (grC m ++ cellC ⟨p.c, some ⟨nb2, 0, none⟩, nc2, some ⟨ib2, 0, none⟩, ic2⟩) (some ⟨ob2, 0, none⟩) (m.length + 1) oc2, .fact (fun w => ∀ q ∈ m ++ [⟨p.c, some ⟨nb2, 0, none⟩, nc2, some ⟨ib2, 0, none⟩, ic2⟩], CellF q w), .dead, .dead, .dead, .dead], turnS ?_, ?_⟩
    · rw [List.take_add_one, hp, List.map_append, List.map_append, hmc]
      rfl
    · intro q hq
      rcases List.mem_append.1 hq with hq | hq
      · exact hmo q hq
      · rw [List.mem_singleton.1 hq]
        exact ⟨(fun h => by cases h), (fun h => by cases h), hpo.nl, hpo.il, hpo.nw, hpo.tl, by show p.c.names.length ≤ nc2; omega, by show p.c.items.length ≤ ic2; omega⟩
    · (repeat' (first | exact trivial | refine And.intro (by with_reducible rfl) ?_ | (with_reducible exact wkC_refl _) | (with_reducible exact wkCs_refl _) | refine And.intro ?_ ?_))
      all_goals first | rfl | exact av_int (by omega) | (rw [hm2])
    · refine ⟨.inr (.inl rfl), .inr (.inl rfl), .inr (.inr ⟨_, rfl, fun w hw q hq => ?_⟩), .inl rfl, .inl rfl, .inl rfl, .inl rfl, trivial⟩
      rcases List.mem_append.1 hq with hq | hq
      · exact hw.2.1 q hq
      · rw [List.mem_singleton.1 hq]
        exact ⟨hw.2.2.2.1, hw.2.2.2.2.1⟩
    · show wkH _ [Ent.fact (GrF a l), .app 73 5 (grC (m ++ [_])) _ (m ++ [_]).length _, _]
      rw [← hm2, hg2]
      exact ⟨wkE_refl _, wkE_refl _, wkE_refl _, trivial⟩
  · have hil : i = l.length := by omega
    subst hil
    rw [List.take_length] at hmc
    (first | refine wX ?_ | exact wZ)
    refine fin_p (GrF oa m) ⟨oa, oc, m, rfl, hoa, hmc, hmo, fun w hw => hw⟩ fun w hw => ⟨hw.2.1, hw.2.2.1⟩
end Go.Proofs.YtahjbnfbilkbcaaGreatDoor

/-
  AX, fifty-second text: ahead of a call, what is known said in another way.
-/
namespace Go.AX
theorem SpecH.turn {P : Program} {f : FuncId} {args : List AV} {H : List Ent} {K : Out → List Ent → Prop} (G : List Ent) (t : SealR (Facts (restK H G)) H G) (h : SpecH P f args G K) : SpecH P f args H K := by
  refine ⟨h.ok, fun ρ S w vs hs hr => ?_⟩
  obtain ⟨S', hs', hev⟩ := (turnS t).2 ρ S w hs
  exact (h.run ρ S' w vs hs' hr).mono fun e w' ⟨ρ2, S2, H2, out, a1, a2, a3, a4⟩ => ⟨ρ2, S2, H2, out, a1, hev.trans a2, a3, a4⟩
end Go.AX

/-
  AX, fifty-fourth text: families of rows of the call's own (.fam), rows put in and taken out; calls that see facts and hand back own entries.
-/
namespace Go.AX

/-- A row of a family. -/
structure RowD where
  T : TypeId
  sz : Nat
  n : Nat
  xs : List Value
  b : Nat
  cap : Nat
def RowD.ok (r : RowD) (w : World) : Prop := RowF r.T r.sz r.n r.xs r.b r.cap w
def RowD.app (r : RowD) : Ent := .app r.T r.sz r.xs (some ⟨r.b, 0, none⟩) r.n r.cap
def famB (l : List RowD) (b : Nat) : Prop := ∃ r ∈ l, r.b = b
def famF (l : List RowD) (w : World) : Prop := (l.map RowD.b).Nodup ∧ ∀ r ∈ l, r.ok w
def famE (l : List RowD) : Ent := .fam (famB l) (famF l)
theorem famF.imm {l : List RowD} {w : World} (h : famF l w) : Imm (famB l) w (famF l) :=
  ⟨h, fun _ hw => ⟨h.1, fun r hr => (h.2 r hr).move (hw r.b ⟨r, hr, rfl⟩)⟩⟩
theorem rowF_lt {T : TypeId} {sz n : Nat} {xs : List Value} {b cap : Nat} {w : World} (h : RowF T sz n xs b cap w) : b < w.heap.size := by
  obtain ⟨arr, fr, ⟨h1, _⟩, _⟩ := h
  exact (Array.getElem?_eq_some_iff.1 h1).1
theorem famE_ok {ρ : List Loc} {S : Nat → Prop} {w : World} {i : Nat} {l : List RowD} (h : famF l w) : EntOk ρ S w i (famE l) :=
  ⟨h.imm, fun _ ⟨r, hr, hb⟩ => hb ▸ rowF_lt (h.2 r hr)⟩
theorem famF_nil (w : World) : famF [] w := ⟨List.nodup_nil, fun r h => by cases h⟩
/-- What is known is said in another way: the world stays, and what nobody writes. -/
def TurnE (H G : List Ent) : Prop := G.length = H.length ∧ ∀ (ρ : List Loc) (S : Nat → Prop) (w : World), Sat ρ S H w → Sat ρ S G w ∧ Ev ρ S H w ρ S G w
theorem TurnE.s {H G : List Ent} (h : TurnE H G) : TurnS H G := ⟨h.1, fun ρ S w hs => ⟨S, h.2 ρ S w hs⟩⟩
theorem TurnE.refl (H : List Ent) : TurnE H H := ⟨rfl, fun _ _ _ hs => ⟨hs, Ev.refl _ _ _ _⟩⟩
theorem TurnE.trans {H G J : List Ent} (h : TurnE H G) (k : TurnE G J) : TurnE H J :=
  ⟨k.1.trans h.1, fun ρ S w hs => by
    obtain ⟨h1, e1⟩ := h.2 ρ S w hs
    obtain ⟨h2, e2⟩ := k.2 ρ S w h1
    exact ⟨h2, e1.trans e2⟩⟩
theorem TurnS.trans {H G J : List Ent} (h : TurnS H G) (k : TurnS G J) : TurnS H J :=
  ⟨k.1.trans h.1, fun ρ S w hs => by
    obtain ⟨S1, h1, e1⟩ := h.2 ρ S w hs
    obtain ⟨S2, h2, e2⟩ := k.2 ρ S1 w h1
    exact ⟨S2, h2, e1.trans e2⟩⟩
/-- Two entries get two others' places; their blocks together are the same. -/
theorem Sat.two {ρ : List Loc} {S : Nat → Prop} {H : List Ent} {w : World} (h : Sat ρ S H w) {i j : Nat} {e f e' f' : Ent} (hi : H[i]? = some e) (hj : H[j]? = some f) (hne : i ≠ j)
    (hb : ∀ b, entB ρ i e' b ∨ entB ρ j f' b → entB ρ i e b ∨ entB ρ j f b) (hx : ∀ b, entB ρ i e' b → ¬ entB ρ j f' b) (ke : EntOk ρ S w i e') (kf : EntOk ρ S w j f') :
    Sat ρ S ((H.set i e').set j f') w ∧ Ev ρ S H w ρ S ((H.set i e').set j f') w := by
  have hil := (List.getElem?_eq_some_iff.1 hi).1
  have hjl := (List.getElem?_eq_some_iff.1 hj).1
  have hcase : ∀ (k : Nat) (g : Ent), ((H.set i e').set j f')[k]? = some g → (k = i ∧ g = e') ∨ (k = j ∧ g = f') ∨ (k ≠ i ∧ k ≠ j ∧ H[k]? = some g) := fun k g hk => by
    by_cases h2 : k = j
    · subst h2
      rw [List.getElem?_set_self (by rw [List.length_set]; exact hjl)] at hk
      exact .inr (.inl ⟨rfl, (Option.some.inj hk).symm⟩)
    · rw [List.getElem?_set_ne (fun e => h2 e.symm)] at hk
      by_cases h1 : k = i
      · subst h1
        rw [List.getElem?_set_self hil] at hk
        exact .inl ⟨rfl, (Option.some.inj hk).symm⟩
      · rw [List.getElem?_set_ne (fun e => h1 e.symm)] at hk
        exact .inr (.inr ⟨h1, h2, hk⟩)
  have hown : ∀ (k : Nat) (g : Ent) (b : Nat), ((H.set i e').set j f')[k]? = some g → entB ρ k g b → (k = i ∨ k = j) ∧ (entB ρ i e b ∨ entB ρ j f b) ∨ (k ≠ i ∧ k ≠ j ∧ H[k]? = some g) := fun k g b hk hg => by
    rcases hcase k g hk with ⟨rfl, rfl⟩ | ⟨rfl, rfl⟩ | h3
    · exact .inl ⟨.inl rfl, hb b (.inl hg)⟩
    · exact .inl ⟨.inr rfl, hb b (.inr hg)⟩
    · exact .inr h3
  have hno : ∀ (k : Nat) (g : Ent) (b : Nat), k ≠ i → k ≠ j → H[k]? = some g → entB ρ k g b → ¬ (entB ρ i e b ∨ entB ρ j f b) := fun k g b h1 h2 hk hg hh => by
    rcases hh with hh | hh
    · exact h1 (h.inj k i g e b hk hi hg hh)
    · exact h2 (h.inj k j g f b hk hj hg hh)
  have hmb : ∀ b, mb ρ ((H.set i e').set j f') b → mb ρ H b := fun b ⟨k, g, hk, hg⟩ => by
    rcases hown k g b hk hg with ⟨_, h1 | h1⟩ | ⟨_, _, h1⟩
    · exact ⟨i, e, hi, h1⟩
    · exact ⟨j, f, hj, h1⟩
    · exact ⟨k, g, h1, hg⟩
  refine ⟨⟨by rw [List.length_set, List.length_set]; exact h.len, fun k g hk => ?_, fun k l g g2 b hk hl hg hg2 => ?_, fun b hb => h.out b (hmb b hb), h.low⟩, ⟨⟨[], by simp⟩, rfl, rfl, rfl, Nat.le_refl _, fun _ _ _ => rfl, fun _ h => .inl h, fun b hb => .inl (hmb b hb)⟩⟩
  · rcases hcase k g hk with ⟨rfl, rfl⟩ | ⟨rfl, rfl⟩ | ⟨_, _, h3⟩
    · exact ke
    · exact kf
    · exact h.ent k g h3
  · rcases hcase k g hk with ⟨rfl, rfl⟩ | ⟨rfl, rfl⟩ | ⟨k1, k2, h3⟩ <;> rcases hcase l g2 hl with ⟨rfl, rfl⟩ | ⟨rfl, rfl⟩ | ⟨l1, l2, h4⟩
    · rfl
    · exact absurd hg2 (hx b hg)
    · exact absurd (hb b (.inl hg)) (hno l g2 b l1 l2 h4 hg2)
    · exact absurd hg (hx b hg2)
    · rfl
    · exact absurd (hb b (.inr hg)) (hno l g2 b l1 l2 h4 hg2)
    · exact absurd (hb b (.inl hg2)) (hno k g b k1 k2 h3 hg)
    · exact absurd (hb b (.inr hg2)) (hno k g b k1 k2 h3 hg)
    · exact h.inj k l g g2 b h3 h4 hg hg2
/-- A row is taken out of a family. -/
theorem famTake {H : List Ent} (i j : Nat) {l l' : List RowD} (r : RowD) (hi : nthE H i = some (famE l)) (hj : nthE H j = some .dead) (hne : Nat.beq i j = false) (hp : l.Perm (r :: l')) : TurnE H ((H.set i (famE l')).set j r.app) := by
  rw [nthE_eq] at hi hj
  refine ⟨by rw [List.length_set, List.length_set], fun ρ S w hs => ?_⟩
  have hF : famF l w := (hs.ent i _ hi).1.1
  have hn : (r.b :: l'.map RowD.b).Nodup := (hp.map RowD.b).nodup_iff.1 hF.1
  have hn2 := List.nodup_cons.1 hn
  refine hs.two hi hj (Nat.ne_of_beq_eq_false hne) (fun b hb => .inl ?_) (fun b ⟨q, hq, hqb⟩ hb => ?_) (famE_ok ⟨hn2.2, fun q hq => hF.2 q (hp.mem_iff.2 (by simp [hq]))⟩) (.inr ⟨r.b, rfl, hF.2 r (hp.mem_iff.2 (by simp))⟩)
  · rcases hb with ⟨q, hq, hqb⟩ | hb
    · exact ⟨q, hp.mem_iff.2 (by simp [hq]), hqb⟩
    · exact ⟨r, hp.mem_iff.2 (by simp), Option.some.inj hb⟩
  · have : r.b = b := Option.some.inj hb
    exact hn2.1 (List.mem_map.2 ⟨q, hq, by rw [hqb, this]⟩)
/-- A row is put into a family. -/
theorem famPut {H : List Ent} (i j : Nat) {l l' : List RowD} {T : TypeId} {sz n b cap : Nat} {xs : List Value} (hi : nthE H i = some (famE l)) (hj : nthE H j = some (.app T sz xs (some ⟨b, 0, none⟩) n cap)) (hne : Nat.beq i j = false) (hp : (⟨T, sz, n, xs, b, cap⟩ :: l).Perm l') : TurnE H ((H.set i (famE l')).set j .dead) := by
  rw [nthE_eq] at hi hj
  refine ⟨by rw [List.length_set, List.length_set], fun ρ S w hs => ?_⟩
  have hF : famF l w := (hs.ent i _ hi).1.1
  have hij := Nat.ne_of_beq_eq_false hne
  rcases hs.ent j _ hj with ⟨h0, _⟩ | ⟨b', hb', hrow⟩
  · cases h0
  cases hb'
  have hnb : b ∉ l.map RowD.b := fun hm => by
    obtain ⟨r, hr, hrb⟩ := List.mem_map.1 hm
    exact hij (hs.inj i j _ _ b hi hj ⟨r, hr, hrb⟩ rfl)
  have hF' : famF l' w := ⟨(hp.map RowD.b).nodup_iff.1 (List.nodup_cons.2 ⟨hnb, hF.1⟩), fun q hq => by
    rcases List.mem_cons.1 (hp.mem_iff.2 hq) with rfl | hq
    · exact hrow
    · exact hF.2 q hq⟩
  refine hs.two hi hj hij (fun c hc => ?_) (fun _ _ hb => hb) (famE_ok hF') trivial
  rcases hc with ⟨q, hq, hqb⟩ | hc
  · rcases List.mem_cons.1 (hp.mem_iff.2 hq) with rfl | hq
    · exact .inr (congrArg some hqb)
    · exact .inl ⟨q, hq, hqb⟩
  · exact hc.elim
/-- A family of no rows. -/
theorem famNew {H : List Ent} (i : Nat) (hi : nthE H i = some .dead) : TurnE H (H.set i (famE [])) := by
  rw [nthE_eq] at hi
  refine ⟨by rw [List.length_set], fun ρ S w hs => ?_⟩
  have hget : ∀ (j : Nat) (f : Ent), (H.set i (famE []))[j]? = some f → f = famE [] ∨ H[j]? = some f := fun j f hf => by
    by_cases hj : i = j
    · subst hj
      rw [List.getElem?_set_self (List.getElem?_eq_some_iff.1 hi).1] at hf
      exact .inl (Option.some.inj hf).symm
    · rw [List.getElem?_set_ne hj] at hf
      exact .inr hf
  have hb : ∀ (j : Nat) (f : Ent) (b : Nat), (H.set i (famE []))[j]? = some f → entB ρ j f b → H[j]? = some f := fun j f b hf hfb => by
    rcases hget j f hf with rfl | h1
    · obtain ⟨r, hr, _⟩ := hfb; cases hr
    · exact h1
  have hmb : ∀ b, mb ρ (H.set i (famE [])) b → mb ρ H b := fun b ⟨j, f, hf, hfb⟩ => ⟨j, f, hb j f b hf hfb, hfb⟩
  exact ⟨⟨by simp [hs.len], fun j f hf => by
      rcases hget j f hf with rfl | h1
      · exact famE_ok (famF_nil w)
      · exact hs.ent j f h1,
    fun j k f g b hf hg hfb hgb => hs.inj j k f g b (hb j f b hf hfb) (hb k g b hg hgb) hfb hgb, fun b hbb => hs.out b (hmb b hbb), hs.low⟩,
    ⟨⟨[], by simp⟩, rfl, rfl, rfl, Nat.le_refl _, fun _ _ _ => rfl, fun _ h => .inl h, fun b hbb => .inl (hmb b hbb)⟩⟩

/-- What is known said in another way, ahead of a store (or another operation that writes). -/
theorem EffW.turn {P : Program} {o : Oper} {s : List AV} {H : List Ent} {K : AV → List Ent → Prop} (pad : List Ent) (hp : padB pad = true) {G : List Ent} (ht : TurnE (H ++ pad) G) (h : EffW P o s G K) : EffW P o s H K := by
  intro ρ S w a hs hr
  obtain ⟨t, hs1, hev1⟩ := hs.pad pad hp
  obtain ⟨hs2, hev2⟩ := ht.2 _ _ _ hs1
  obtain ⟨av, H', hK, r, v, ρ', w', e1, e2, e3, e4, e5⟩ := h (ρ ++ t) S w a hs2 (RelS_pre t hr)
  exact ⟨av, H', hK, r, v, ρ', w', e1, e2, e3, (hev1.trans hev2).trans e4, e5⟩
/-- .. ahead of a call. -/
theorem SpecH.turnS {P : Program} {f : FuncId} {args : List AV} {H : List Ent} {K : Out → List Ent → Prop} {G : List Ent} (t : TurnS H G) (h : SpecH P f args G K) : SpecH P f args H K := by
  refine ⟨h.ok, fun ρ S w vs hs hr => ?_⟩
  obtain ⟨S', hs', hev⟩ := t.2 ρ S w hs
  exact (h.run ρ S' w vs hs' hr).mono fun e w' ⟨ρ2, S2, H2, out, a1, a2, a3, a4⟩ => ⟨ρ2, S2, H2, out, a1, hev.trans a2, a3, a4⟩

/-- Entries that hang on no places and no facts. -/
def Ent.bare : Ent → Bool
  | .app .. => true
  | .mp .. => true
  | .fam .. => true
  | .dead => true
  | _ => false
theorem EntOk.bare {ρ ρ' : List Loc} {S S' : Nat → Prop} {w : World} {i j : Nat} {e : Ent} (he : e.bare = true) (h : EntOk ρ S w i e) : EntOk ρ' S' w j e := by
  cases e <;> first | (cases he; done) | exact h
theorem entB_bare {ρ ρ' : List Loc} {i j b : Nat} {e : Ent} (he : e.bare = true) (h : entB ρ i e b) : entB ρ' j e b := by
  cases e <;> first | (cases he; done) | exact h
def appsK : List Ent → List Ent → (List Ent → Prop) → Prop
  | H, [], K => K H
  | H, e :: N, K => snocK H e 0 fun H' _ => appsK H' N K
theorem appsK_eq : ∀ (N H : List Ent) (K : List Ent → Prop), appsK H N K = K (H ++ N)
  | [], H, K => by simp [appsK]
  | e :: N, H, K => by
    unfold appsK
    rw [snocK_eq, appsK_eq N]
    simp
/-- A call that sees facts and hands back entries of its own. -/
theorem factG {P : Program} {f : FuncId} {xs : List Value} {F : World → Prop} {ι : Type} {inv : ι → Prop} {val : ι → Value} {N : ι → List Ent} (hN : ∀ i, (N i).all Ent.bare = true)
    (h : SpecH P f (pvs xs) [.fact F] (RetG inv val fun i => .dead :: N i)) {H : List Ent} (hF : ∀ w, Facts H w → F w) {K : Out → List Ent → Prop} (hk : ∀ i, inv i → appsK H (N i) fun G => K (.val (.c (.v (val i)))) G) : SpecH P f (pvs xs) H K := by
  refine ⟨h.ok, fun ρ S w vs hs hr => ?_⟩
  have h0 : Sat [⟨0, 0⟩] (fun b => S b ∨ appB H b) [.fact F] w := by
    refine ⟨rfl, fun i e he => ?_, fun i j e f b he hf heo => ?_, fun b hb => ?_, fun b hb => ?_⟩
    · match i, he with
      | 0, he => simp at he; subst he; exact hs.imm.mono hF
    · match i, he with
      | 0, he => simp at he; subst he; exact heo.elim
    · obtain ⟨i, e, he, ho⟩ := hb
      match i, he with
      | 0, he => simp at he; subst he; exact ho.elim
    · rcases hb with hb | hb
      · exact hs.low b hb
      · obtain ⟨i, e, he, heb⟩ := appB_mb (ρ := ρ) hb
        exact hs.blk_lt he heb
  have nomb : ∀ b, ¬ mb [⟨0, 0⟩] [Ent.fact F] b := by
    rintro b ⟨i, e, he, ho⟩
    match i, he with
    | 0, he => simp at he; subst he; exact ho.elim
  obtain rfl := RelS_pvs hr
  refine (h.run _ _ w vs h0 (pvs_rel _ vs)).mono fun e w' ⟨ρ', S', H', out, hs', hev, hout, i, hi, ho, hH⟩ => ?_
  subst ho
  subst hH
  have hk := hk i hi
  rw [appsK_eq] at hk
  have hnew : ∀ (k : Nat) (g : Ent) (b : Nat), (N i)[k]? = some g → entB ρ' (k + 1) g b → w.heap.size ≤ b := fun k g b hg hb => (hev.own b ⟨k + 1, g, by simpa using hg, hb⟩).resolve_left (nomb b)
  have hbr : ∀ (k : Nat) (g : Ent), (N i)[k]? = some g → g.bare = true := fun k g hg => List.all_eq_true.1 (hN i) g (List.mem_of_getElem? hg)
  have hbel : ∀ b, b < w.heap.size → w'.heap[b]? = w.heap[b]? := fun b hb => hev.keep b hb (nomb b)
  have hcase : ∀ (k : Nat) (g : Ent), (H ++ N i)[k]? = some g → (k < H.length ∧ H[k]? = some g) ∨ (H.length ≤ k ∧ (N i)[k - H.length]? = some g) := fun k g hg => by
    by_cases hk : k < H.length
    · rw [List.getElem?_append_left hk] at hg; exact .inl ⟨hk, hg⟩
    · rw [List.getElem?_append_right (by omega)] at hg
      exact .inr ⟨by omega, hg⟩
  have hown : ∀ (k : Nat) (g : Ent) (b : Nat), (H ++ N i)[k]? = some g → entB (ρ ++ List.replicate (N i).length ⟨0, 0⟩) k g b → (k < H.length ∧ H[k]? = some g ∧ entB ρ k g b ∧ b < w.heap.size) ∨ (H.length ≤ k ∧ (N i)[k - H.length]? = some g ∧ entB ρ' (k - H.length + 1) g b ∧ w.heap.size ≤ b) := fun k g b hg hb => by
    rcases hcase k g hg with ⟨h1, h2⟩ | ⟨h1, h2⟩
    · rw [entB_pre _ (by rw [hs.len]; exact h1)] at hb
      exact .inl ⟨h1, h2, hb, hs.blk_lt h2 hb⟩
    · have h3 : entB ρ' (k - H.length + 1) g b := entB_bare (hbr _ g h2) hb
      exact .inr ⟨h1, h2, h3, hnew _ g b h2 h3⟩
  have hmb : ∀ b, mb (ρ ++ List.replicate (N i).length ⟨0, 0⟩) (H ++ N i) b → mb ρ H b ∨ w.heap.size ≤ b := fun b ⟨k, g, hg, hb⟩ => by
    rcases hown k g b hg hb with ⟨_, h2, h3, _⟩ | ⟨_, _, _, h4⟩
    · exact .inl ⟨k, g, h2, h3⟩
    · exact .inr h4
  refine ⟨ρ ++ List.replicate (N i).length ⟨0, 0⟩, S, H ++ N i, .val (.c (.v (val i))), ⟨by simp [hs.len], fun k g hg => ?_, fun k l g g2 b hg hg2 hb hb2 => ?_, fun b hb hS => ?_, fun b hb => Nat.lt_of_lt_of_le (hs.low b hb) hev.size⟩, ⟨⟨_, rfl⟩, hev.os, hev.tape, hev.output, hev.size, fun b hb _ => hbel b hb, fun b hb => .inl hb, hmb⟩, hout, hk⟩
  · rcases hcase k g hg with ⟨h1, h2⟩ | ⟨h1, h2⟩
    · exact (hs.ent k g h2).move _ (fun b hb => hbel b (hs.blk_lt h2 hb)) fun b hb => hbel b (hs.low b hb)
    · exact EntOk.bare (hbr _ g h2) (hs'.ent (k - H.length + 1) g (by simpa using h2))
  · rcases hown k g b hg hb with ⟨_, h2, h3, h4⟩ | ⟨h1, h2, h3, h4⟩ <;> rcases hown l g2 b hg2 hb2 with ⟨_, k2, k3, k4⟩ | ⟨k1, k2, k3, k4⟩
    · exact hs.inj k l g g2 b h2 k2 h3 k3
    · omega
    · omega
    · have := hs'.inj (k - H.length + 1) (l - H.length + 1) g g2 b (by simpa using h2) (by simpa using k2) h3 k3
      omega
  · rcases hmb b hb with h1 | h1
    · exact hs.out b h1 hS
    · have := hs.low b hS; omega
end Go.AX

/-
  Contracts: a graph for the specification, and back (law), with memory that the caller may write.
-/
namespace Go.Proofs.YtahjbnfbilkbcaaGreatDoor
open Go.AX Go.RowKit Go.Core
set_option maxRecDepth 20000

/-- The rows of a cell. -/
def rowsP (p : CellP) : List RowD :=
  (match p.na with | some ad => [⟨9, 1, p.c.names.length, strC p.c.names, ad.block, p.nc⟩] | none => []) ++ (match p.ia with | some ad => [⟨3, 1, p.c.items.length, iC p.c.items, ad.block, p.ic⟩] | none => [])
def rowsG (m : List CellP) : List RowD := m.flatMap rowsP
theorem rowsG_snoc (m : List CellP) (p : CellP) : rowsG (m ++ [p]) = rowsG m ++ rowsP p := by unfold rowsG; rw [List.flatMap_append]; simp
/-- A cell's rows begin where their blocks do. -/
structure OwnP (p : CellP) : Prop where
  na : ∀ ad, p.na = some ad → ad = ⟨ad.block, 0, none⟩
  ia : ∀ ad, p.ia = some ad → ad = ⟨ad.block, 0, none⟩
theorem rowF_sl {T : TypeId} {sz n : Nat} {xs : List Value} {b cap : Nat} {w : World} (h : RowF T sz n xs b cap w) : SlAt (some ⟨b, 0, none⟩) (n * sz) xs w := h.sl
theorem cellF_rows {p : CellP} (ho : CellOk p) (hw : OwnP p) {w : World} (h : ∀ r ∈ rowsP p, r.ok w) : CellF p w := by
  refine ⟨?_, ?_⟩
  · cases hn : p.na with
    | none => rw [ho.na hn]; exact SlAt.nil
    | some ad =>
      rw [hw.na ad hn]
      exact rowF_sl (h ⟨9, 1, p.c.names.length, strC p.c.names, ad.block, p.nc⟩ (by unfold rowsP; rw [hn]; simp))
  · cases hn : p.ia with
    | none => rw [ho.ia hn]; exact SlAt.nil
    | some ad =>
      rw [hw.ia ad hn]
      exact rowF_sl (h ⟨3, 1, p.c.items.length, iC p.c.items, ad.block, p.ic⟩ (by unfold rowsP; rw [hn]; simp))
theorem grF_rows {m : List CellP} (ho : ∀ p ∈ m, CellOk p) (hw : ∀ p ∈ m, OwnP p) {w : World} (h : famF (rowsG m) w) : ∀ p ∈ m, CellF p w := fun p hp =>
  cellF_rows (ho p hp) (hw p hp) fun r hr => h.2 r (List.mem_flatMap.2 ⟨p, hp, hr⟩)
/-- What the entries of such a graph are. -/
def ownN (T : TypeId) (st : DSt) : List Ent := [.app T 5 (grC st.m) st.oa st.m.length st.oc, famE (rowsG st.m)]
/-- What is known of such a graph. -/
structure OInv (l : List CellP) (st : DSt) : Prop where
  oa : st.oa = none → st.m = []
  c : st.m.map (·.c) = l.map (·.c)
  ok : ∀ p ∈ st.m, CellOk p
  own : ∀ p ∈ st.m, OwnP p
  cap : st.m.length ≤ st.oc
theorem OInv.gr {l : List CellP} {st : DSt} (h : OInv l st) {w : World} (h1 : SlAt st.oa (st.m.length * 5) (grC st.m) w) (h2 : famF (rowsG st.m) w) : GrF st.oa st.m w := ⟨h1, grF_rows h.ok h.own h2⟩
-- cabochon/cabochonlaw21.as: the function's name, core.Cell: the type of what is read, cabochonref21.Cell: of what is made, as_o: the theorem
set_option maxHeartbeats 4000000 in
theorem as_o (a : Option Addr) (ca : Nat) (l : List CellP) (ha : a = none → l = []) (hs : Small l) (hok : ∀ p ∈ l, CellOk p) : SpecH Tryz.prog 16 (pvs [.slice a l.length ca]) [.fact (GrF a l)] (RetG (OInv l) (fun st => .slice st.oa st.m.length st.oc) (fun st => .dead :: ownN 73 st)) := by
  obtain ⟨hl, hsm⟩ := hs
  refine ownC hm Tryz.func16 (by kernel_rfl) rfl rfl (fun _ _ => okHB_eq rfl) (fun _ _ => by show 1 ≤ 3; decide) ?_
  (first | refine wX ?_ | exact wZ)
  refine LoopN.introS DSt (fun st => DInv l st ∧ ∀ p ∈ st.m, OwnP p) (fun ⟨i, oa, oc, m⟩ => mkS 35 0 [(0, .c (.v (.slice a l.length ca))), (3, .c (.v (.slice oa m.length oc))), (4, .c (.v (.int .i64 (i : Int))))]) (fun ⟨i, oa, oc, m⟩ => [.fact (GrF a l), .app 73 5 (grC m) oa m.length oc, famE (rowsG m)]) (fun ⟨i, _, _, _⟩ => l.length - i) [.app 73 5 [] none 0 0, .dead] rfl (fun _ => rfl) (fun _ => rfl) (fun _ _ => ⟨trivial, trivial, trivial, trivial⟩) ?_ ?_
  · refine ⟨⟨0, none, 0, []⟩, ⟨⟨Nat.zero_le _, rfl, (fun p h => by cases h), (fun _ => rfl), Nat.le_refl _⟩, fun p h => by cases h⟩, ?_, _, (famNew 2 rfl).s, ?_⟩
    · (repeat' (first | exact trivial | refine And.intro (by with_reducible rfl) ?_ | (with_reducible exact wkC_refl _) | (with_reducible exact wkCs_refl _) | refine And.intro ?_ ?_))
      all_goals rfl
    · exact ⟨wkE_refl _, wkE_refl _, wkE_refl _, trivial⟩
  rintro ⟨i, oa, oc, m⟩ ⟨hinv, hom⟩
  have hml := hinv.len
  obtain ⟨hi, hmc, hmo, hoa, hoc⟩ := hinv
  (first | refine wX ?_ | exact wZ)
  refine brd_dec (fun h1 => ?_) (fun h1 => ?_)
  · obtain ⟨p, hp⟩ : ∃ p, l[i]? = some p := ⟨_, List.getElem?_eq_getElem (by omega)⟩
    have hpm := List.mem_of_getElem? hp
    have hpo := hok p hpm
    obtain ⟨hnl, hil⟩ := hsm p hpm
    have hsa : a.isSome = true := by
      cases a with
      | none => rw [ha rfl] at hp; cases hp
      | some b => rfl
    (first | refine wX ?_ | exact wZ)
    refine Nd.mk ⟨hsa, by omega, by omega⟩ ?_
    (first | refine wX ?_ | exact wZ)
    refine LdN.agg (cellC p) rfl (fun w hw => hw.1.1) rfl (fun k hk => by rw [Int.toNat_natCast]; exact grC_get l i k hk hp) ?_
    (first | refine wXB ?_ | exact wZB)
    refine BoxN.known [.int .i64 0, .int .i64 0, .string { data := #[] }, .slice none 0 0, .slice none 0 0] rfl fun cb => ?_
    (first | refine wXB ?_ | exact wZB)
    refine EffW.appTo (i := 3) (q := 0) (ys := cellC p) (cellC p) 5 rfl rfl rfl rfl rfl rfl rfl (Nat.le_of_ble_eq_true rfl) rfl rfl ?_
    (first | refine wXB ?_ | exact wZB)
    refine DrawN.planK hm (fun w => SlAt (some ⟨cb, 0, none⟩) 5 (cellC p) w) [7, 11] [0, 1, 3, 5, 8, 12] [(9, 1), (2, 1), (4, 1), (6, 1), (13, 1), (7, 2), (10, 0), (11, 2), (14, 0), (15, 0), (16, 0), (17, 0), (18, 0)] (by decide +kernel) (fun w hw => hw.2.2.2.1) ?_
    -- fun w hw => hw.2.2.2.1: why the kind holds
    ((conv => whnf); (repeat ((first | refine Nd.mk (fun w hw => hw.2.2.2.1) ?_ | refine VrN.norm (wrap_i64 (by omega)) ?_ | refine VrN.keep ?_ | refine Nd.mk (by decide +kernel) ?_ | refine Nd.mk (by omega) ?_ | refine RdN.intro _ rfl (by rfl) ?_); (conv => whnf))))
    refine ReadC.one (a := some ⟨cb, 0, none⟩) (q := 3) (.slice p.na p.c.names.length p.nc) rfl rfl rfl (fun w hw => hw) rfl ?_
    -- fun w hw => hw.2.2.2.1: why the kind holds
    ((conv => whnf); (repeat ((first | refine Nd.mk (fun w hw => hw.2.2.2.1) ?_ | refine VrN.norm (wrap_i64 (by omega)) ?_ | refine VrN.keep ?_ | refine Nd.mk (by decide +kernel) ?_ | refine Nd.mk (by omega) ?_ | refine RdN.intro _ rfl (by rfl) ?_); (conv => whnf))))
    -- 0: the field of the cell, .int .i64 p.c.kind: the value
    refine ReadC.one (a := some ⟨cb, 0, none⟩) (q := 0) (.int .i64 p.c.kind) rfl rfl rfl (fun w hw => hw) rfl ?_
    -- fun w hw => hw.2.2.2.1: why the kind holds
    ((conv => whnf); (repeat ((first | refine Nd.mk (fun w hw => hw.2.2.2.1) ?_ | refine VrN.norm (wrap_i64 (by omega)) ?_ | refine VrN.keep ?_ | refine Nd.mk (by decide +kernel) ?_ | refine Nd.mk (by omega) ?_ | refine RdN.intro _ rfl (by rfl) ?_); (conv => whnf))))
    -- 1: the field of the cell, .int .i64 p.c.num: the value
    refine ReadC.one (a := some ⟨cb, 0, none⟩) (q := 1) (.int .i64 p.c.num) rfl rfl rfl (fun w hw => hw) rfl ?_
    -- fun w hw => hw.2.2.2.1: why the kind holds
    ((conv => whnf); (repeat ((first | refine Nd.mk (fun w hw => hw.2.2.2.1) ?_ | refine VrN.norm (wrap_i64 (by omega)) ?_ | refine VrN.keep ?_ | refine Nd.mk (by decide +kernel) ?_ | refine Nd.mk (by omega) ?_ | refine RdN.intro _ rfl (by rfl) ?_); (conv => whnf))))
    -- 2: the field of the cell, .string (bs p.c.text): the value
    refine ReadC.one (a := some ⟨cb, 0, none⟩) (q := 2) (.string (bs p.c.text)) rfl rfl rfl (fun w hw => hw) rfl ?_
    -- fun w hw => hw.2.2.2.1: why the kind holds
    ((conv => whnf); (repeat ((first | refine Nd.mk (fun w hw => hw.2.2.2.1) ?_ | refine VrN.norm (wrap_i64 (by omega)) ?_ | refine VrN.keep ?_ | refine Nd.mk (by decide +kernel) ?_ | refine Nd.mk (by omega) ?_ | refine RdN.intro _ rfl (by rfl) ?_); (conv => whnf))))
    -- 4: the field of the cell, .slice p.ia p.c.items.length p.ic: the value
    refine ReadC.one (a := some ⟨cb, 0, none⟩) (q := 4) (.slice p.ia p.c.items.length p.ic) rfl rfl rfl (fun w hw => hw) rfl ?_
    -- fun w hw => hw.2.2.2.1: why the kind holds
    ((conv => whnf); (repeat ((first | refine Nd.mk (fun w hw => hw.2.2.2.1) ?_ | refine VrN.norm (wrap_i64 (by omega)) ?_ | refine VrN.keep ?_ | refine Nd.mk (by decide +kernel) ?_ | refine Nd.mk (by omega) ?_ | refine RdN.intro _ rfl (by rfl) ?_); (conv => whnf))))
    intro nb
    -- fun w hw => hw.2.2.2.1: why the kind holds
    ((conv => whnf); (repeat ((first | refine Nd.mk (fun w hw => hw.2.2.2.1) ?_ | refine VrN.norm (wrap_i64 (by omega)) ?_ | refine VrN.keep ?_ | refine Nd.mk (by decide +kernel) ?_ | refine Nd.mk (by omega) ?_ | refine RdN.intro _ rfl (by rfl) ?_); (conv => whnf))))
    refine app_any 4 [] (strC p.c.names) rfl (Nat.le_refl _) (fun h => by cases hq : p.na with | none => rw [hpo.na hq] at h; cases h | some b => rfl) (by show (strC p.c.names).length = p.c.names.length * 1; simp [strC]) (fun u hu => by obtain ⟨x, _, rfl⟩ := List.mem_map.1 hu; rfl) (fun w hw j v hv => (hw.1.2 p hpm).1.cell hv) ⟨⟨by show (0 + p.c.names.length) * 16 ≤ _; omega, by omega⟩, Nat.one_ne_zero⟩ fun nb2 nc2 hnc2 => ?_
    rw [Nat.zero_add, List.nil_append]
    -- fun w hw => hw.2.2.2.1: why the kind holds
    ((conv => whnf); (repeat ((first | refine Nd.mk (fun w hw => hw.2.2.2.1) ?_ | refine VrN.norm (wrap_i64 (by omega)) ?_ | refine VrN.keep ?_ | refine Nd.mk (by decide +kernel) ?_ | refine Nd.mk (by omega) ?_ | refine RdN.intro _ rfl (by rfl) ?_); (conv => whnf))))
    intro ib
    -- fun w hw => hw.2.2.2.1: why the kind holds
    ((conv => whnf); (repeat ((first | refine Nd.mk (fun w hw => hw.2.2.2.1) ?_ | refine VrN.norm (wrap_i64 (by omega)) ?_ | refine VrN.keep ?_ | refine Nd.mk (by decide +kernel) ?_ | refine Nd.mk (by omega) ?_ | refine RdN.intro _ rfl (by rfl) ?_); (conv => whnf))))
    refine app_any 5 [] (iC p.c.items) rfl (Nat.le_refl _) (fun h => by cases hq : p.ia with | none => rw [hpo.ia hq] at h; cases h | some b => rfl) (by show (iC p.c.items).length = p.c.items.length * 1; simp [iC]) (fun u hu => by obtain ⟨x, _, rfl⟩ := List.mem_map.1 hu; rfl) (fun w hw j v hv => (hw.1.2 p hpm).2.cell hv) ⟨⟨by show (0 + p.c.items.length) * 8 ≤ _; omega, by omega⟩, Nat.one_ne_zero⟩ fun ib2 ic2 hic2 => ?_
    rw [Nat.zero_add, List.nil_append]
    -- fun w hw => hw.2.2.2.1: why the kind holds
    ((conv => whnf); (repeat ((first | refine Nd.mk (fun w hw => hw.2.2.2.1) ?_ | refine VrN.norm (wrap_i64 (by omega)) ?_ | refine VrN.keep ?_ | refine Nd.mk (by decide +kernel) ?_ | refine Nd.mk (by omega) ?_ | refine RdN.intro _ rfl (by rfl) ?_); (conv => whnf))))
    refine RwN.own ?_
    -- fun w hw => hw.2.2.2.1: why the kind holds
    ((conv => whnf); (repeat ((first | refine Nd.mk (fun w hw => hw.2.2.2.1) ?_ | refine VrN.norm (wrap_i64 (by omega)) ?_ | refine VrN.keep ?_ | refine Nd.mk (by decide +kernel) ?_ | refine Nd.mk (by omega) ?_ | refine RdN.intro _ rfl (by rfl) ?_); (conv => whnf))))
    refine Nd.mk ⟨Nat.le_refl 1, rfl, rfl⟩ ?_
    (conv => whnf)
    refine AppN.grow 1 (grC m) (cellC ⟨p.c, some ⟨nb2, 0, none⟩, nc2, some ⟨ib2, 0, none⟩, ic2⟩) rfl rfl ⟨Nat.le_refl 1, ⟨by show (m.length + 1) * 80 ≤ _; omega, by omega⟩, by decide⟩ fun ob2 oc2 hoc2 _ => ?_
    -- fun w hw => hw.2.2.2.1: why the kind holds
    ((conv => whnf); (repeat ((first | refine Nd.mk (fun w hw => hw.2.2.2.1) ?_ | refine VrN.norm (wrap_i64 (by omega)) ?_ | refine VrN.keep ?_ | refine Nd.mk (by decide +kernel) ?_ | refine Nd.mk (by omega) ?_ | refine RdN.intro _ rfl (by rfl) ?_); (conv => whnf))))
    have hm2 : m.length + 1 = (m ++ [(⟨p.c, some ⟨nb2, 0, none⟩, nc2, some ⟨ib2, 0, none⟩, ic2⟩ : CellP)]).length := by simp
    have hg2 := grC_snoc m ⟨p.c, some ⟨nb2, 0, none⟩, nc2, some ⟨ib2, 0, none⟩, ic2⟩
    have hrw := rowsG_snoc m ⟨p.c, some ⟨nb2, 0, none⟩, nc2, some ⟨ib2, 0, none⟩, ic2⟩
    refine ⟨⟨i + 1, some ⟨ob2, 0, none⟩, oc2, m ++ [⟨p.c, some ⟨nb2, 0, none⟩, nc2, some ⟨ib2, 0, none⟩, ic2⟩]⟩, ⟨⟨by omega, ?_, ?_, (fun h => by cases h), by omega⟩, ?_⟩, by show l.length - (i + 1) < l.length - i; omega, ?_, _, ((famPut 2 4 rfl rfl rfl (List.perm_append_singleton _ _).symm).trans (famPut 2 5 rfl rfl rfl (List.perm_append_singleton _ _).symm)).s, ?_⟩
    · rw [List.take_add_one, hp, List.map_append, List.map_append, hmc]
      rfl
    · intro q hq
      rcases List.mem_append.1 hq with hq | hq
      · exact hmo q hq
      · rw [List.mem_singleton.1 hq]
        exact ⟨(fun h => by cases h), (fun h => by cases h), hpo.nl, hpo.il, hpo.nw, hpo.tl, by show p.c.names.length ≤ nc2; omega, by show p.c.items.length ≤ ic2; omega⟩
    · intro q hq
      rcases List.mem_append.1 hq with hq | hq
      · exact hom q hq
      · rw [List.mem_singleton.1 hq]
        exact ⟨fun ad h => by cases h; rfl, fun ad h => by cases h; rfl⟩
    · (repeat' (first | exact trivial | refine And.intro (by with_reducible rfl) ?_ | (with_reducible exact wkC_refl _) | (with_reducible exact wkCs_refl _) | refine And.intro ?_ ?_))
      all_goals first | rfl | exact av_int (by omega) | (rw [hm2])
    · show wkH _ [Ent.fact (GrF a l), .app 73 5 (grC (m ++ [_])) _ (m ++ [_]).length _, famE (rowsG (m ++ [_]))]
      rw [← hm2, hg2, hrw]
      refine ⟨wkE_refl _, wkE_refl _, ?_, trivial⟩
      rw [show rowsP (⟨p.c, some ⟨nb2, 0, none⟩, nc2, some ⟨ib2, 0, none⟩, ic2⟩ : CellP) = [⟨9, 1, p.c.names.length, strC p.c.names, nb2, nc2⟩] ++ [⟨3, 1, p.c.items.length, iC p.c.items, ib2, ic2⟩] from rfl, ← List.append_assoc]
      exact wkE_refl _
  · have hil : i = l.length := by omega
    subst hil
    rw [List.take_length] at hmc
    (first | refine wX ?_ | exact wZ)
    exact ⟨⟨l.length, oa, oc, m⟩, ⟨hoa, hmc, hmo, hom, hoc⟩, rfl, trivial, wkE_refl _, wkE_refl _, trivial⟩
-- cabochon/cabochonlaw21.back: the function's name, cabochonref21.Cell: the type of what is read, core.Cell: of what is made, back_o: the theorem
set_option maxHeartbeats 4000000 in
theorem back_o (a : Option Addr) (ca : Nat) (l : List CellP) (ha : a = none → l = []) (hs : Small l) (hok : ∀ p ∈ l, CellOk p) : SpecH Tryz.prog 25 (pvs [.slice a l.length ca]) [.fact (GrF a l)] (RetG (OInv l) (fun st => .slice st.oa st.m.length st.oc) (fun st => .dead :: ownN 42 st)) := by
  obtain ⟨hl, hsm⟩ := hs
  refine ownC hm Tryz.func25 (by kernel_rfl) rfl rfl (fun _ _ => okHB_eq rfl) (fun _ _ => by show 1 ≤ 3; decide) ?_
  (first | refine wX ?_ | exact wZ)
  refine LoopN.introS DSt (fun st => DInv l st ∧ ∀ p ∈ st.m, OwnP p) (fun ⟨i, oa, oc, m⟩ => mkS 35 0 [(0, .c (.v (.slice a l.length ca))), (3, .c (.v (.slice oa m.length oc))), (4, .c (.v (.int .i64 (i : Int))))]) (fun ⟨i, oa, oc, m⟩ => [.fact (GrF a l), .app 42 5 (grC m) oa m.length oc, famE (rowsG m)]) (fun ⟨i, _, _, _⟩ => l.length - i) [.app 42 5 [] none 0 0, .dead] rfl (fun _ => rfl) (fun _ => rfl) (fun _ _ => ⟨trivial, trivial, trivial, trivial⟩) ?_ ?_
  · refine ⟨⟨0, none, 0, []⟩, ⟨⟨Nat.zero_le _, rfl, (fun p h => by cases h), (fun _ => rfl), Nat.le_refl _⟩, fun p h => by cases h⟩, ?_, _, (famNew 2 rfl).s, ?_⟩
    · (repeat' (first | exact trivial | refine And.intro (by with_reducible rfl) ?_ | (with_reducible exact wkC_refl _) | (with_reducible exact wkCs_refl _) | refine And.intro ?_ ?_))
      all_goals rfl
    · exact ⟨wkE_refl _, wkE_refl _, wkE_refl _, trivial⟩
  rintro ⟨i, oa, oc, m⟩ ⟨hinv, hom⟩
  have hml := hinv.len
  obtain ⟨hi, hmc, hmo, hoa, hoc⟩ := hinv
  (first | refine wX ?_ | exact wZ)
  refine brd_dec (fun h1 => ?_) (fun h1 => ?_)
  · obtain ⟨p, hp⟩ : ∃ p, l[i]? = some p := ⟨_, List.getElem?_eq_getElem (by omega)⟩
    have hpm := List.mem_of_getElem? hp
    have hpo := hok p hpm
    obtain ⟨hnl, hil⟩ := hsm p hpm
    have hsa : a.isSome = true := by
      cases a with
      | none => rw [ha rfl] at hp; cases hp
      | some b => rfl
    (first | refine wX ?_ | exact wZ)
    refine Nd.mk ⟨hsa, by omega, by omega⟩ ?_
    (first | refine wX ?_ | exact wZ)
    refine LdN.agg (cellC p) rfl (fun w hw => hw.1.1) rfl (fun k hk => by rw [Int.toNat_natCast]; exact grC_get l i k hk hp) ?_
    (first | refine wXB ?_ | exact wZB)
    refine BoxN.known [.int .i64 0, .int .i64 0, .string { data := #[] }, .slice none 0 0, .slice none 0 0] rfl fun cb => ?_
    (first | refine wXB ?_ | exact wZB)
    refine EffW.appTo (i := 3) (q := 0) (ys := cellC p) (cellC p) 5 rfl rfl rfl rfl rfl rfl rfl (Nat.le_of_ble_eq_true rfl) rfl rfl ?_
    (first | refine wXB ?_ | exact wZB)
    refine DrawN.planK hm (fun w => SlAt (some ⟨cb, 0, none⟩) 5 (cellC p) w) [7, 11] [0, 1, 3, 5, 8, 12] [(9, 1), (2, 1), (4, 1), (6, 1), (13, 1), (7, 2), (10, 0), (11, 2), (14, 0), (15, 0), (16, 0), (17, 0), (18, 0)] (by decide +kernel) (fun w hw => hw.2.2.2.1) ?_
    -- fun w hw => hw.2.2.2.1: why the kind holds
    ((conv => whnf); (repeat ((first | refine Nd.mk (fun w hw => hw.2.2.2.1) ?_ | refine VrN.norm (wrap_i64 (by omega)) ?_ | refine VrN.keep ?_ | refine Nd.mk (by decide +kernel) ?_ | refine Nd.mk (by omega) ?_ | refine RdN.intro _ rfl (by rfl) ?_); (conv => whnf))))
    refine ReadC.one (a := some ⟨cb, 0, none⟩) (q := 3) (.slice p.na p.c.names.length p.nc) rfl rfl rfl (fun w hw => hw) rfl ?_
    -- fun w hw => hw.2.2.2.1: why the kind holds
    ((conv => whnf); (repeat ((first | refine Nd.mk (fun w hw => hw.2.2.2.1) ?_ | refine VrN.norm (wrap_i64 (by omega)) ?_ | refine VrN.keep ?_ | refine Nd.mk (by decide +kernel) ?_ | refine Nd.mk (by omega) ?_ | refine RdN.intro _ rfl (by rfl) ?_); (conv => whnf))))
    -- 0: the field of the cell, .int .i64 p.c.kind: the value
    refine ReadC.one (a := some ⟨cb, 0, none⟩) (q := 0) (.int .i64 p.c.kind) rfl rfl rfl (fun w hw => hw) rfl ?_
    -- fun w hw => hw.2.2.2.1: why the kind holds
    ((conv => whnf); (repeat ((first | refine Nd.mk (fun w hw => hw.2.2.2.1) ?_ | refine VrN.norm (wrap_i64 (by omega)) ?_ | refine VrN.keep ?_ | refine Nd.mk (by decide +kernel) ?_ | refine Nd.mk (by omega) ?_ | refine RdN.intro _ rfl (by rfl) ?_); (conv => whnf))))
    -- 1: the field of the cell, .int .i64 p.c.num: the value
    refine ReadC.one (a := some ⟨cb, 0, none⟩) (q := 1) (.int .i64 p.c.num) rfl rfl rfl (fun w hw => hw) rfl ?_
    -- fun w hw => hw.2.2.2.1: why the kind holds
    ((conv => whnf); (repeat ((first | refine Nd.mk (fun w hw => hw.2.2.2.1) ?_ | refine VrN.norm (wrap_i64 (by omega)) ?_ | refine VrN.keep ?_ | refine Nd.mk (by decide +kernel) ?_ | refine Nd.mk (by omega) ?_ | refine RdN.intro _ rfl (by rfl) ?_); (conv => whnf))))
    -- 2: the field of the cell, .string (bs p.c.text): the value
    refine ReadC.one (a := some ⟨cb, 0, none⟩) (q := 2) (.string (bs p.c.text)) rfl rfl rfl (fun w hw => hw) rfl ?_
    -- fun w hw => hw.2.2.2.1: why the kind holds
    ((conv => whnf); (repeat ((first | refine Nd.mk (fun w hw => hw.2.2.2.1) ?_ | refine VrN.norm (wrap_i64 (by omega)) ?_ | refine VrN.keep ?_ | refine Nd.mk (by decide +kernel) ?_ | refine Nd.mk (by omega) ?_ | refine RdN.intro _ rfl (by rfl) ?_); (conv => whnf))))
    -- 4: the field of the cell, .slice p.ia p.c.items.length p.ic: the value
    refine ReadC.one (a := some ⟨cb, 0, none⟩) (q := 4) (.slice p.ia p.c.items.length p.ic) rfl rfl rfl (fun w hw => hw) rfl ?_
    -- fun w hw => hw.2.2.2.1: why the kind holds
    ((conv => whnf); (repeat ((first | refine Nd.mk (fun w hw => hw.2.2.2.1) ?_ | refine VrN.norm (wrap_i64 (by omega)) ?_ | refine VrN.keep ?_ | refine Nd.mk (by decide +kernel) ?_ | refine Nd.mk (by omega) ?_ | refine RdN.intro _ rfl (by rfl) ?_); (conv => whnf))))
    intro nb
    -- fun w hw => hw.2.2.2.1: why the kind holds
    ((conv => whnf); (repeat ((first | refine Nd.mk (fun w hw => hw.2.2.2.1) ?_ | refine VrN.norm (wrap_i64 (by omega)) ?_ | refine VrN.keep ?_ | refine Nd.mk (by decide +kernel) ?_ | refine Nd.mk (by omega) ?_ | refine RdN.intro _ rfl (by rfl) ?_); (conv => whnf))))
    refine app_any 4 [] (strC p.c.names) rfl (Nat.le_refl _) (fun h => by cases hq : p.na with | none => rw [hpo.na hq] at h; cases h | some b => rfl) (by show (strC p.c.names).length = p.c.names.length * 1; simp [strC]) (fun u hu => by obtain ⟨x, _, rfl⟩ := List.mem_map.1 hu; rfl) (fun w hw j v hv => (hw.1.2 p hpm).1.cell hv) ⟨⟨by show (0 + p.c.names.length) * 16 ≤ _; omega, by omega⟩, Nat.one_ne_zero⟩ fun nb2 nc2 hnc2 => ?_
    rw [Nat.zero_add, List.nil_append]
    -- fun w hw => hw.2.2.2.1: why the kind holds
    ((conv => whnf); (repeat ((first | refine Nd.mk (fun w hw => hw.2.2.2.1) ?_ | refine VrN.norm (wrap_i64 (by omega)) ?_ | refine VrN.keep ?_ | refine Nd.mk (by decide +kernel) ?_ | refine Nd.mk (by omega) ?_ | refine RdN.intro _ rfl (by rfl) ?_); (conv => whnf))))
    intro ib
    -- fun w hw => hw.2.2.2.1: why the kind holds
    ((conv => whnf); (repeat ((first | refine Nd.mk (fun w hw => hw.2.2.2.1) ?_ | refine VrN.norm (wrap_i64 (by omega)) ?_ | refine VrN.keep ?_ | refine Nd.mk (by decide +kernel) ?_ | refine Nd.mk (by omega) ?_ | refine RdN.intro _ rfl (by rfl) ?_); (conv => whnf))))
    refine app_any 5 [] (iC p.c.items) rfl (Nat.le_refl _) (fun h => by cases hq : p.ia with | none => rw [hpo.ia hq] at h; cases h | some b => rfl) (by show (iC p.c.items).length = p.c.items.length * 1; simp [iC]) (fun u hu => by obtain ⟨x, _, rfl⟩ := List.mem_map.1 hu; rfl) (fun w hw j v hv => (hw.1.2 p hpm).2.cell hv) ⟨⟨by show (0 + p.c.items.length) * 8 ≤ _; omega, by omega⟩, Nat.one_ne_zero⟩ fun ib2 ic2 hic2 => ?_
    rw [Nat.zero_add, List.nil_append]
    -- fun w hw => hw.2.2.2.1: why the kind holds
    ((conv => whnf); (repeat ((first | refine Nd.mk (fun w hw => hw.2.2.2.1) ?_ | refine VrN.norm (wrap_i64 (by omega)) ?_ | refine VrN.keep ?_ | refine Nd.mk (by decide +kernel) ?_ | refine Nd.mk (by omega) ?_ | refine RdN.intro _ rfl (by rfl) ?_); (conv => whnf))))
    refine RwN.own ?_
    -- fun w hw => hw.2.2.2.1: why the kind holds
    ((conv => whnf); (repeat ((first | refine Nd.mk (fun w hw => hw.2.2.2.1) ?_ | refine VrN.norm (wrap_i64 (by omega)) ?_ | refine VrN.keep ?_ | refine Nd.mk (by decide +kernel) ?_ | refine Nd.mk (by omega) ?_ | refine RdN.intro _ rfl (by rfl) ?_); (conv => whnf))))
    refine Nd.mk ⟨Nat.le_refl 1, rfl, rfl⟩ ?_
    (conv => whnf)
    refine AppN.grow 1 (grC m) (cellC ⟨p.c, some ⟨nb2, 0, none⟩, nc2, some ⟨ib2, 0, none⟩, ic2⟩) rfl rfl ⟨Nat.le_refl 1, ⟨by show (m.length + 1) * 80 ≤ _; omega, by omega⟩, by decide⟩ fun ob2 oc2 hoc2 _ => ?_
    -- fun w hw => hw.2.2.2.1: why the kind holds
    ((conv => whnf); (repeat ((first | refine Nd.mk (fun w hw => hw.2.2.2.1) ?_ | refine VrN.norm (wrap_i64 (by omega)) ?_ | refine VrN.keep ?_ | refine Nd.mk (by decide +kernel) ?_ | refine Nd.mk (by omega) ?_ | refine RdN.intro _ rfl (by rfl) ?_); (conv => whnf))))
    have hm2 : m.length + 1 = (m ++ [(⟨p.c, some ⟨nb2, 0, none⟩, nc2, some ⟨ib2, 0, none⟩, ic2⟩ : CellP)]).length := by simp
    have hg2 := grC_snoc m ⟨p.c, some ⟨nb2, 0, none⟩, nc2, some ⟨ib2, 0, none⟩, ic2⟩
    have hrw := rowsG_snoc m ⟨p.c, some ⟨nb2, 0, none⟩, nc2, some ⟨ib2, 0, none⟩, ic2⟩
    refine ⟨⟨i + 1, some ⟨ob2, 0, none⟩, oc2, m ++ [⟨p.c, some ⟨nb2, 0, none⟩, nc2, some ⟨ib2, 0, none⟩, ic2⟩]⟩, ⟨⟨by omega, ?_, ?_, (fun h => by cases h), by omega⟩, ?_⟩, by show l.length - (i + 1) < l.length - i; omega, ?_, _, ((famPut 2 4 rfl rfl rfl (List.perm_append_singleton _ _).symm).trans (famPut 2 5 rfl rfl rfl (List.perm_append_singleton _ _).symm)).s, ?_⟩
    · rw [List.take_add_one, hp, List.map_append, List.map_append, hmc]
      rfl
    · intro q hq
      rcases List.mem_append.1 hq with hq | hq
      · exact hmo q hq
      · rw [List.mem_singleton.1 hq]
        exact ⟨(fun h => by cases h), (fun h => by cases h), hpo.nl, hpo.il, hpo.nw, hpo.tl, by show p.c.names.length ≤ nc2; omega, by show p.c.items.length ≤ ic2; omega⟩
    · intro q hq
      rcases List.mem_append.1 hq with hq | hq
      · exact hom q hq
      · rw [List.mem_singleton.1 hq]
        exact ⟨fun ad h => by cases h; rfl, fun ad h => by cases h; rfl⟩
    · (repeat' (first | exact trivial | refine And.intro (by with_reducible rfl) ?_ | (with_reducible exact wkC_refl _) | (with_reducible exact wkCs_refl _) | refine And.intro ?_ ?_))
      all_goals first | rfl | exact av_int (by omega) | (rw [hm2])
    · show wkH _ [Ent.fact (GrF a l), .app 42 5 (grC (m ++ [_])) _ (m ++ [_]).length _, famE (rowsG (m ++ [_]))]
      rw [← hm2, hg2, hrw]
      refine ⟨wkE_refl _, wkE_refl _, ?_, trivial⟩
      rw [show rowsP (⟨p.c, some ⟨nb2, 0, none⟩, nc2, some ⟨ib2, 0, none⟩, ic2⟩ : CellP) = [⟨9, 1, p.c.names.length, strC p.c.names, nb2, nc2⟩] ++ [⟨3, 1, p.c.items.length, iC p.c.items, ib2, ic2⟩] from rfl, ← List.append_assoc]
      exact wkE_refl _
  · have hil : i = l.length := by omega
    subst hil
    rw [List.take_length] at hmc
    (first | refine wX ?_ | exact wZ)
    exact ⟨⟨l.length, oa, oc, m⟩, ⟨hoa, hmc, hmo, hom, hoc⟩, rfl, trivial, wkE_refl _, wkE_refl _, trivial⟩
end Go.Proofs.YtahjbnfbilkbcaaGreatDoor

/-
  Contracts: cells that do not differ themselves (document).
-/
namespace Go.Proofs.YtahjbnfbilkbcaaGreatDoor
open Go.AX Go.RowKit Go.Core
set_option maxRecDepth 20000

theorem names_at {l m : List (List UInt8)} {i : Nat} (h : l.take i = m.take i) {s t : List UInt8} (hs : l[i]? = some s) (ht : m[i]? = some t) (e : s = t) : l.take (i + 1) = m.take (i + 1) := by
  rw [List.take_add_one, List.take_add_one, h, hs, ht, e]
end Go.Proofs.YtahjbnfbilkbcaaGreatDoor

/-
  Contracts: graphs with the same cells are found to be so (document).
-/
namespace Go.Proofs.YtahjbnfbilkbcaaGreatDoor
open Go.AX Go.RowKit Go.Core
set_option maxRecDepth 20000

end Go.Proofs.YtahjbnfbilkbcaaGreatDoor

/-
  Contracts: names of constants and variables (program; as in chapter 14's N3, as far as chapter 21 asks).
-/
namespace Go.Proofs.YtahjbnfbilkbcaaGreatDoor
open Go.AX Go.RowKit Go.Scan
set_option maxRecDepth 20000

theorem isWords_c (s : List UInt8) (hs : s.length ≤ 200000000000000) : ∀ H, SpecH Tryz.prog 110 (pvs [.string (bs s)]) H (Ret (.bool (iwB s)) H) := by
  refine pureC hm Tryz.func110 (by kernel_rfl) rfl rfl ?_
  have hz := bs_size s
  (first | refine wX ?_ | exact wZ)
  rw [hz]
  refine loopS Nat (fun i => i ≤ s.length ∧ (s.take i).all wrd = true) (fun i => mkS Tryz.f110.ntmps 0 [(0, .c (.v (.string (bs s)))), (5, .c (.v (.int .i64 (s.length : Int)))), (6, .c (.v (.int .i64 (i : Int))))]) (fun i => s.length - i) rfl (fun _ => rfl) 0 ⟨Nat.zero_le _, rfl⟩ ?_ ?_
  · (repeat' (first | exact trivial | refine And.intro (by with_reducible rfl) ?_ | (with_reducible exact wkC_refl _) | (with_reducible exact wkCs_refl _) | refine And.intro ?_ ?_))
    all_goals rfl
  intro i ⟨hi, hall⟩
  (first | refine wX ?_ | exact wZ)
  refine brd_dec (fun h1 => ?_) (fun h1 => ?_)
  · obtain ⟨c, hc⟩ : ∃ c, s[i]? = some c := ⟨_, List.getElem?_eq_getElem (by omega)⟩
    (first | refine wX ?_ | exact wZ)
    try refine Nd.mk ⟨by omega, by rw [hz]; exact h1⟩ ?_
    (first | refine wX ?_ | exact wZ)
    rw [Int.toNat_natCast, byteAt_get hc]
    refine call1 (wrd_c c _) ?_
    cases hw : wrd c with
    | true =>
      (first | refine wX ?_ | exact wZ)
      refine ⟨i + 1, ⟨by omega, ?_⟩, by omega, ?_, by (repeat' (first | exact trivial | exact wkE_refl _ | refine And.intro ?_ ?_))⟩
      · rw [List.take_add_one, hc, List.all_append, hall]
        simp [hw]
      · (repeat' (first | exact trivial | refine And.intro (by with_reducible rfl) ?_ | (with_reducible exact wkC_refl _) | (with_reducible exact wkCs_refl _) | refine And.intro ?_ ?_))
        all_goals first | rfl | exact av_int (by rw [wrap_i64 (by omega)]; omega)
    | false =>
      (first | refine wX ?_ | exact wZ)
      refine ret_b ?_
      have : s.all wrd = false := by
        rw [Bool.eq_false_iff]
        intro h
        have := List.all_eq_true.1 h c (List.mem_of_getElem? hc)
        rw [hw] at this
        cases this
      simp [iwB, this]
  · have hie : i = s.length := by omega
    subst hie
    rw [List.take_length] at hall
    cases s with
    | nil =>
      (first | refine wX ?_ | exact wZ)
      exact ret_b (by simp [iwB])
    | cons c r =>
      have hz2 : (bs (c :: r)).size = (c :: r).length := hz
      (first | refine wX ?_ | exact wZ)
      rw [hz2]
      refine brd_dec (fun h2 => ?_) (fun h2 => ?_)
      · have hl2 : (c :: r).length ≤ 40 := by omega
        (first | refine wX ?_ | exact wZ)
        try refine Nd.mk ⟨by omega, by rw [hz2, List.length_cons]; omega⟩ ?_
        (first | refine wX ?_ | exact wZ)
        rw [show byteAt (bs (c :: r)) (Int.toNat 0) = (c.toNat : Int) from byteAt_get (l := c :: r) (i := 0) rfl]
        refine call1 (dig_c c _) ?_
        (first | refine wX ?_ | exact wZ)
        refine ret_b ?_
        simp only [iwB, hall, hd, List.headD_cons, List.isEmpty_cons, decide_eq_true hl2]
        simp
      · have hl2 : ¬ (c :: r).length ≤ 40 := by omega
        (first | refine wX ?_ | exact wZ)
        refine ret_b ?_
        simp only [iwB, decide_eq_false hl2]
        simp
theorem iw_cons {b : List UInt8} (h : iwB b = true) : ∃ y q, b = y :: q := by
  cases b with
  | nil => simp [iwB] at h
  | cons y q => exact ⟨y, q, rfl⟩
theorem IsConst_c (s : List UInt8) (hs : s.length ≤ 200000000000000) : ∀ H, SpecH Tryz.prog 84 (pvs [.string (bs s)]) H (Ret (.bool (icB s)) H) := by
  refine pureC hm Tryz.func84 (by kernel_rfl) rfl rfl ?_
  (first | refine wX ?_ | exact wZ)
  refine call1 (isWords_c s hs _) ?_
  cases hi : iwB s with
  | false =>
    (first | refine wX ?_ | exact wZ)
    exact ret_b (by simp [icB, hi])
  | true =>
    obtain ⟨y, q, rfl⟩ := iw_cons hi
    have hyl : (bs (y :: q)).size = q.length + 1 := by rw [bs_size]; rfl
    (first | refine wX ?_ | exact wZ)
    try refine Nd.mk ⟨by omega, by rw [hyl]; omega⟩ ?_
    (first | refine wX ?_ | exact wZ)
    rw [show byteAt (bs (y :: q)) (Int.toNat 0) = (y.toNat : Int) from byteAt_get (l := y :: q) (i := 0) rfl]
    refine call1 (sml_c y _) ?_
    (first | refine wX ?_ | exact wZ)
    exact ret_b (by simp [icB, hi, hd])
theorem IsIvar_c (s : List UInt8) (hs : s.length ≤ 200000000000000) : ∀ H, SpecH Tryz.prog 91 (pvs [.string (bs s)]) H (Ret (.bool (iiB s)) H) := by
  refine pureC hm Tryz.func91 (by kernel_rfl) rfl rfl ?_
  have hz := bs_size s
  (first | refine wX ?_ | exact wZ)
  rw [hz]
  refine brd_dec (fun h1 => ?_) (fun h1 => ?_)
  · match s, hs, hz, h1 with
    | [], _, _, h1 => exact absurd h1 (by decide)
    | [_], _, _, h1 => exact absurd h1 (by simp)
    | c :: d :: r, hs, hz, h1 =>
      have h64 : ((c.toNat : Int) == 64) = (c == 64) := u8_eq (n := 64) (by decide)
      have hl : (c :: d :: r).length = r.length + 2 := rfl
      (first | refine wX ?_ | exact wZ)
      try refine Nd.mk ⟨by omega, by rw [hz]; omega⟩ ?_
      (first | refine wX ?_ | exact wZ)
      rw [show byteAt (bs (c :: d :: r)) (Int.toNat 0) = (c.toNat : Int) from byteAt_get (l := c :: d :: r) (i := 0) rfl, h64]
      cases e64 : c == 64 with
      | false =>
        (first | refine wX ?_ | exact wZ)
        exact ret_b (by simp only [iiB, hd, List.headD_cons, e64]; simp)
      | true =>
        (first | refine wX ?_ | exact wZ)
        refine ReadW.sl_l 1 rfl Tryz.underlying9 rfl rfl ⟨rfl, by omega⟩ ?_
        (first | refine wX ?_ | exact wZ)
        refine call1 (isWords_c (d :: r) (by simp at hs ⊢; omega) _) ?_
        cases hi : iwB (d :: r) with
        | false =>
          (first | refine wX ?_ | exact wZ)
          exact ret_b (by simp only [iiB, List.tail_cons, hi]; simp)
        | true =>
          (first | refine wX ?_ | exact wZ)
          try refine Nd.mk ⟨by omega, by rw [hz]; omega⟩ ?_
          (first | refine wX ?_ | exact wZ)
          rw [show byteAt (bs (c :: d :: r)) (Int.toNat 1) = (d.toNat : Int) from byteAt_get (l := c :: d :: r) (i := 1) rfl]
          refine call1 (sml_c d _) ?_
          cases hs2 : sml d with
          | false =>
            (first | refine wX ?_ | exact wZ)
            exact ret_b (by simp only [iiB, List.tail_cons, hd, List.headD_cons, hs2]; simp)
          | true =>
            (first | refine wX ?_ | exact wZ)
            rw [hz]
            refine ret_b ?_
            have hdec : decide (1 < (c :: d :: r).length) = true := by simp
            simp only [iiB, hdec, List.tail_cons, hd, List.headD_cons, hs2, e64, hi]
            simp
            omega
  · have hdec : decide (1 < s.length) = false := decide_eq_false (by omega)
    (first | refine wX ?_ | exact wZ)
    exact ret_b (by simp only [iiB, hdec]; simp)
end Go.Proofs.YtahjbnfbilkbcaaGreatDoor

/-
  Contracts: words of the document (constants, variables).
-/
namespace Go.Proofs.YtahjbnfbilkbcaaGreatDoor
open Go.AX Go.RowKit Go.Core Go.Scan
set_option maxRecDepth 20000

theorem letter_c (c : UInt8) : ∀ H, SpecH Tryz.prog 124 (pvs [.int .u8 (c.toNat : Int)]) H (Ret (.bool (ltr c)) H) := by
  refine pureC hm Tryz.func124 (by kernel_rfl) rfl rfl ?_
  (first | refine wX ?_ | exact wZ)
  (repeat' (first | (refine brd_dec (fun _ => ?_) (fun _ => ?_)) | (refine brd_eq (fun _ => ?_) (fun _ => ?_))))
  all_goals (first | refine wX ?_ | exact wZ)
  (repeat' (first | (refine brd_dec (fun _ => ?_) (fun _ => ?_)) | (refine brd_eq (fun _ => ?_) (fun _ => ?_))))
  all_goals (first | refine wX ?_ | exact wZ)
  (repeat' (first | (refine brd_dec (fun _ => ?_) (fun _ => ?_)) | (refine brd_eq (fun _ => ?_) (fun _ => ?_))))
  all_goals (first | refine wX ?_ | exact wZ)
  (repeat' (first | (refine brd_dec (fun _ => ?_) (fun _ => ?_)) | (refine brd_eq (fun _ => ?_) (fun _ => ?_))))
  all_goals (first | refine wX ?_ | exact wZ)
  (repeat' (first | (refine brd_dec (fun _ => ?_) (fun _ => ?_)) | (refine brd_eq (fun _ => ?_) (fun _ => ?_))))
  all_goals (first | refine wX ?_ | exact wZ)
  all_goals
    refine ret_b ?_
    simp [ltr, sml, grt]
    try omega
set_option maxHeartbeats 1000000 in
theorem dword_c (s : List UInt8) (great : Bool) (hs : s.length ≤ 200000000000000) : ∀ H, SpecH Tryz.prog 109 (pvs [.string (bs s), .bool great]) H (Ret (.bool (wordD s great)) H) := by
  refine pureC hm Tryz.func109 (by kernel_rfl) rfl rfl ?_
  cases s with
  | nil =>
    (first | refine wX ?_ | exact wZ)
    exact ret_b (by simp [wordD])
  | cons c r =>
    have hz : (bs (c :: r)).size = r.length + 1 := bs_size (c :: r)
    have h0 : byteAt (bs (c :: r)) (Int.toNat 0) = (c.toNat : Int) := byteAt_get (l := c :: r) (i := 0) rfl
    (first | refine wX ?_ | exact wZ)
    rw [hz]
    refine brd_dec (fun h1 => ?_) (fun h1 => ?_)
    · (first | refine wX ?_ | exact wZ)
      exact ret_b (by unfold wordD; rw [show decide ((c :: r).length ≤ 40) = false from decide_eq_false (by simp only [List.length_cons]; omega)]; simp)
    have hl : decide ((c :: r).length ≤ 40) = true := decide_eq_true (by simp only [List.length_cons]; omega)
    (first | refine wX ?_ | exact wZ)
    try refine Nd.mk ⟨by omega, by rw [hz]; omega⟩ ?_
    (first | refine wX ?_ | exact wZ)
    rw [h0]
    refine call1 (letter_c c _) ?_
    cases hlt : ltr c with
    | false =>
      (first | refine wX ?_ | exact wZ)
      exact ret_b (by unfold wordD; rw [hl]; simp [hd, hlt])
    | true =>
      (first | refine wX ?_ | exact wZ)
      have hgr : ∀ b : Bool, b = grt c → (b != great) = !(grt c == great) := fun b hb => by rw [hb]; rfl
      refine brd_dec (fun h2 => ?_) (fun h2 => ?_)
      · (first | refine wX ?_ | exact wZ)
        try refine Nd.mk ⟨by omega, by rw [hz]; omega⟩ ?_
        (first | refine wX ?_ | exact wZ)
        rw [h0, show (decide ((c.toNat : Int) ≤ 90) == great) = (grt c == great) by rw [show grt c = decide ((c.toNat : Int) ≤ 90) by unfold grt; rw [decide_eq_true (show 65 ≤ c.toNat by omega), Bool.true_and]; exact decide_eq_decide.2 (by omega)]]
        cases hgg : grt c == great with
        | false =>
          (first | refine wX ?_ | exact wZ)
          exact ret_b (by unfold wordD; rw [hl]; simp [hd, hlt, hgg])
        | true =>
          (first | refine wX ?_ | exact wZ)
          refine loopS Nat (fun i => i ≤ r.length ∧ (r.take i).all wrd = true) (fun i => mkS Tryz.f109.ntmps 0 [(0, .c (.v (.string (bs (c :: r))))), (5, .c (.v (.int .i64 ((i + 1 : Nat) : Int))))]) (fun i => r.length - i) rfl (fun _ => rfl) 0 ⟨Nat.zero_le _, rfl⟩ ?_ ?_
          · (repeat' (first | exact trivial | refine And.intro (by with_reducible rfl) ?_ | (with_reducible exact wkC_refl _) | (with_reducible exact wkCs_refl _) | refine And.intro ?_ ?_))
            all_goals rfl
          intro i ⟨hi, hall⟩
          (first | refine wX ?_ | exact wZ)
          rw [hz]
          refine brd_dec (fun h3 => ?_) (fun h3 => ?_)
          · obtain ⟨d, hd1⟩ : ∃ d, r[i]? = some d := ⟨_, List.getElem?_eq_getElem (by omega)⟩
            have h5 : byteAt (bs (c :: r)) (i + 1) = (d.toNat : Int) := byteAt_get (l := c :: r) (i := i + 1) (by simpa using hd1)
            have hwd : wrd d = (ltr d || dig d) := rfl
            (first | refine wX ?_ | exact wZ)
            try refine Nd.mk ⟨by omega, by rw [hz]; omega⟩ ?_
            (first | refine wX ?_ | exact wZ)
            rw [Int.toNat_natCast, h5]
            refine call1 (letter_c d _) ?_
            have hbad : wrd d = false → wordD (c :: r) great = false := fun h => by
              have hra : r.all wrd = false := by
                rw [Bool.eq_false_iff]
                intro h6
                have := List.all_eq_true.1 h6 d (List.mem_of_getElem? hd1)
                rw [h] at this
                cases this
              have hra2 : (r.all fun c => ltr c || dig c) = false := hra
              unfold wordD
              rw [List.tail_cons, hra2, Bool.and_false]
            cases hld : ltr d with
            | true =>
              (first | refine wX ?_ | exact wZ)
              refine ⟨i + 1, ⟨by omega, ?_⟩, by omega, ?_, by (repeat' (first | exact trivial | exact wkE_refl _ | refine And.intro ?_ ?_))⟩
              · rw [List.take_add_one, hd1, List.all_append, hall]
                simp [hwd, hld]
              · (repeat' (first | exact trivial | refine And.intro (by with_reducible rfl) ?_ | (with_reducible exact wkC_refl _) | (with_reducible exact wkCs_refl _) | refine And.intro ?_ ?_))
                all_goals first | rfl | exact av_int (by rw [wrap_i64 (by omega)]; omega)
            | false =>
              (first | refine wX ?_ | exact wZ)
              try refine Nd.mk ⟨by omega, by rw [hz]; omega⟩ ?_
              (first | refine wX ?_ | exact wZ)
              rw [Int.toNat_natCast, h5]
              refine brd_dec (fun h6 => ?_) (fun h6 => ?_)
              · (first | refine wX ?_ | exact wZ)
                exact ret_b (by rw [hbad (by rw [hwd, hld]; unfold dig; rw [decide_eq_false (show ¬ 48 ≤ d.toNat by omega)]; rfl)])
              · (first | refine wX ?_ | exact wZ)
                try refine Nd.mk ⟨by omega, by rw [hz]; omega⟩ ?_
                (first | refine wX ?_ | exact wZ)
                rw [Int.toNat_natCast, h5]
                refine brd_dec (fun h7 => ?_) (fun h7 => ?_)
                · (first | refine wX ?_ | exact wZ)
                  exact ret_b (by rw [hbad (by rw [hwd, hld]; unfold dig; rw [decide_eq_false (show ¬ d.toNat ≤ 57 by omega), Bool.and_false]; rfl)])
                · (first | refine wX ?_ | exact wZ)
                  refine ⟨i + 1, ⟨by omega, ?_⟩, by omega, ?_, by (repeat' (first | exact trivial | exact wkE_refl _ | refine And.intro ?_ ?_))⟩
                  · rw [List.take_add_one, hd1, List.all_append, hall]
                    simp [hwd, hld, dig]
                    omega
                  · (repeat' (first | exact trivial | refine And.intro (by with_reducible rfl) ?_ | (with_reducible exact wkC_refl _) | (with_reducible exact wkCs_refl _) | refine And.intro ?_ ?_))
                    all_goals first | rfl | exact av_int (by rw [wrap_i64 (by omega)]; omega)
          · have hin : i = r.length := by omega
            subst hin
            rw [List.take_length] at hall
            (first | refine wX ?_ | exact wZ)
            exact ret_b (by unfold wordD; rw [hl]; simp only [List.isEmpty_cons, Bool.not_false, Bool.true_and, hd, List.headD_cons, hlt, hgg, List.tail_cons]; exact ⟨fun _ => hall, fun _ => trivial⟩)
      · (first | refine wX ?_ | exact wZ)
        rw [show (false == great) = (grt c == great) by rw [show grt c = false by unfold grt; rw [decide_eq_false (show ¬ 65 ≤ c.toNat by omega), Bool.false_and]]]
        cases hgg : grt c == great with
        | false =>
          (first | refine wX ?_ | exact wZ)
          exact ret_b (by unfold wordD; rw [hl]; simp [hd, hlt, hgg])
        | true =>
          (first | refine wX ?_ | exact wZ)
          refine loopS Nat (fun i => i ≤ r.length ∧ (r.take i).all wrd = true) (fun i => mkS Tryz.f109.ntmps 0 [(0, .c (.v (.string (bs (c :: r))))), (5, .c (.v (.int .i64 ((i + 1 : Nat) : Int))))]) (fun i => r.length - i) rfl (fun _ => rfl) 0 ⟨Nat.zero_le _, rfl⟩ ?_ ?_
          · (repeat' (first | exact trivial | refine And.intro (by with_reducible rfl) ?_ | (with_reducible exact wkC_refl _) | (with_reducible exact wkCs_refl _) | refine And.intro ?_ ?_))
            all_goals rfl
          intro i ⟨hi, hall⟩
          (first | refine wX ?_ | exact wZ)
          rw [hz]
          refine brd_dec (fun h3 => ?_) (fun h3 => ?_)
          · obtain ⟨d, hd1⟩ : ∃ d, r[i]? = some d := ⟨_, List.getElem?_eq_getElem (by omega)⟩
            have h5 : byteAt (bs (c :: r)) (i + 1) = (d.toNat : Int) := byteAt_get (l := c :: r) (i := i + 1) (by simpa using hd1)
            have hwd : wrd d = (ltr d || dig d) := rfl
            (first | refine wX ?_ | exact wZ)
            try refine Nd.mk ⟨by omega, by rw [hz]; omega⟩ ?_
            (first | refine wX ?_ | exact wZ)
            rw [Int.toNat_natCast, h5]
            refine call1 (letter_c d _) ?_
            have hbad : wrd d = false → wordD (c :: r) great = false := fun h => by
              have hra : r.all wrd = false := by
                rw [Bool.eq_false_iff]
                intro h6
                have := List.all_eq_true.1 h6 d (List.mem_of_getElem? hd1)
                rw [h] at this
                cases this
              have hra2 : (r.all fun c => ltr c || dig c) = false := hra
              unfold wordD
              rw [List.tail_cons, hra2, Bool.and_false]
            cases hld : ltr d with
            | true =>
              (first | refine wX ?_ | exact wZ)
              refine ⟨i + 1, ⟨by omega, ?_⟩, by omega, ?_, by (repeat' (first | exact trivial | exact wkE_refl _ | refine And.intro ?_ ?_))⟩
              · rw [List.take_add_one, hd1, List.all_append, hall]
                simp [hwd, hld]
              · (repeat' (first | exact trivial | refine And.intro (by with_reducible rfl) ?_ | (with_reducible exact wkC_refl _) | (with_reducible exact wkCs_refl _) | refine And.intro ?_ ?_))
                all_goals first | rfl | exact av_int (by rw [wrap_i64 (by omega)]; omega)
            | false =>
              (first | refine wX ?_ | exact wZ)
              try refine Nd.mk ⟨by omega, by rw [hz]; omega⟩ ?_
              (first | refine wX ?_ | exact wZ)
              rw [Int.toNat_natCast, h5]
              refine brd_dec (fun h6 => ?_) (fun h6 => ?_)
              · (first | refine wX ?_ | exact wZ)
                exact ret_b (by rw [hbad (by rw [hwd, hld]; unfold dig; rw [decide_eq_false (show ¬ 48 ≤ d.toNat by omega)]; rfl)])
              · (first | refine wX ?_ | exact wZ)
                try refine Nd.mk ⟨by omega, by rw [hz]; omega⟩ ?_
                (first | refine wX ?_ | exact wZ)
                rw [Int.toNat_natCast, h5]
                refine brd_dec (fun h7 => ?_) (fun h7 => ?_)
                · (first | refine wX ?_ | exact wZ)
                  exact ret_b (by rw [hbad (by rw [hwd, hld]; unfold dig; rw [decide_eq_false (show ¬ d.toNat ≤ 57 by omega), Bool.and_false]; rfl)])
                · (first | refine wX ?_ | exact wZ)
                  refine ⟨i + 1, ⟨by omega, ?_⟩, by omega, ?_, by (repeat' (first | exact trivial | exact wkE_refl _ | refine And.intro ?_ ?_))⟩
                  · rw [List.take_add_one, hd1, List.all_append, hall]
                    simp [hwd, hld, dig]
                    omega
                  · (repeat' (first | exact trivial | refine And.intro (by with_reducible rfl) ?_ | (with_reducible exact wkC_refl _) | (with_reducible exact wkCs_refl _) | refine And.intro ?_ ?_))
                    all_goals first | rfl | exact av_int (by rw [wrap_i64 (by omega)]; omega)
          · have hin : i = r.length := by omega
            subst hin
            rw [List.take_length] at hall
            (first | refine wX ?_ | exact wZ)
            exact ret_b (by unfold wordD; rw [hl]; simp only [List.isEmpty_cons, Bool.not_false, Bool.true_and, hd, List.headD_cons, hlt, hgg, List.tail_cons]; exact ⟨fun _ => hall, fun _ => trivial⟩)
end Go.Proofs.YtahjbnfbilkbcaaGreatDoor

/-
  Contracts: constants, variables, what a list has (document).
-/
namespace Go.Proofs.YtahjbnfbilkbcaaGreatDoor
open Go.AX Go.RowKit Go.Core Go.Scan
set_option maxRecDepth 20000

theorem dConst_c (s : List UInt8) (hs : s.length ≤ 200000000000000) : ∀ H, SpecH Tryz.prog 81 (pvs [.string (bs s)]) H (Ret (.bool (constD s)) H) := by
  refine pureC hm Tryz.func81 (by kernel_rfl) rfl rfl ?_
  (first | refine wX ?_ | exact wZ)
  refine call1 (dword_c s true hs _) ?_
  (first | refine wX ?_ | exact wZ)
  rfl
theorem dIvar_c (s : List UInt8) (hs : s.length ≤ 200000000000000) : ∀ H, SpecH Tryz.prog 82 (pvs [.string (bs s)]) H (Ret (.bool (ivarD s)) H) := by
  refine pureC hm Tryz.func82 (by kernel_rfl) rfl rfl ?_
  have hz := bs_size s
  (first | refine wX ?_ | exact wZ)
  rw [hz]
  refine brd_dec (fun h1 => ?_) (fun h1 => ?_)
  · (first | refine wX ?_ | exact wZ)
    rw [hz]
    refine brd_dec (fun h2 => ?_) (fun h2 => ?_)
    · cases s with
      | nil => exact absurd h2 (by decide)
      | cons c r =>
        have hz2 : (bs (c :: r)).size = r.length + 1 := hz
        have h64 : ((c.toNat : Int) == 64) = (c == 64) := u8_eq (n := 64) (by decide)
        have e1 : decide ((c :: r).length ≤ 40) = true := decide_eq_true (by omega)
        have e2 : decide (1 < (c :: r).length) = true := decide_eq_true (by omega)
        (first | refine wX ?_ | exact wZ)
        try refine Nd.mk ⟨by omega, by rw [hz2]; omega⟩ ?_
        (first | refine wX ?_ | exact wZ)
        rw [show byteAt (bs (c :: r)) (Int.toNat 0) = (c.toNat : Int) from byteAt_get (l := c :: r) (i := 0) rfl, h64]
        cases e64 : c == 64 with
        | false =>
          (first | refine wX ?_ | exact wZ)
          exact ret_b (by unfold ivarD; rw [e1, e2]; simp only [hd, List.headD_cons, e64]; simp)
        | true =>
          (first | refine wX ?_ | exact wZ)
          refine ReadW.sl_l 1 rfl Tryz.underlying9 rfl rfl ⟨rfl, by omega⟩ ?_
          (first | refine wX ?_ | exact wZ)
          refine call1 (dword_c r false (by simp at hs; omega) _) ?_
          (first | refine wX ?_ | exact wZ)
          exact ret_b (by unfold ivarD; rw [e1, e2]; simp only [hd, List.headD_cons, e64, List.tail_cons, Bool.true_and])
    · (first | refine wX ?_ | exact wZ)
      exact ret_b (by unfold ivarD; rw [decide_eq_false (show ¬ 1 < s.length by omega)]; simp)
  · (first | refine wX ?_ | exact wZ)
    exact ret_b (by unfold ivarD; rw [decide_eq_false (show ¬ s.length ≤ 40 by omega)]; simp)
theorem dHas_c (a : Option Addr) (c : Nat) (l : List (List UInt8)) (x : List UInt8) (ha : a = none → l = []) (hl : l.length ≤ 200000000000000) : ∀ H, (∀ w, Facts H w → SlAt a (l.length * 1) (strC l) w) → SpecH Tryz.prog 83 (pvs [.slice a l.length c, .string (bs x)]) H (Ret (.bool (decide (x ∈ l))) H) := by
  refine factC hm Tryz.func83 (by kernel_rfl) rfl rfl ?_
  (first | refine wX ?_ | exact wZ)
  refine loopS Nat (fun i => i ≤ l.length ∧ x ∉ l.take i) (fun i => mkS Tryz.f83.ntmps 0 [(0, .c (.v (.slice a l.length c))), (1, .c (.v (.string (bs x)))), (5, .c (.v (.int .i64 (i : Int))))]) (fun i => l.length - i) rfl (fun _ => rfl) 0 ⟨Nat.zero_le _, by simp⟩ ?_ ?_
  · (repeat' (first | exact trivial | refine And.intro (by with_reducible rfl) ?_ | (with_reducible exact wkC_refl _) | (with_reducible exact wkCs_refl _) | refine And.intro ?_ ?_))
    all_goals rfl
  intro i ⟨hi, hno⟩
  (first | refine wX ?_ | exact wZ)
  refine brd_dec (fun h1 => ?_) (fun h1 => ?_)
  · obtain ⟨s, hs⟩ : ∃ s, l[i]? = some s := ⟨_, List.getElem?_eq_getElem (by omega)⟩
    have hsa : a.isSome = true := by
      cases a with
      | none => rw [ha rfl] at hs; cases hs
      | some b => rfl
    (first | refine wX ?_ | exact wZ)
    refine Nd.mk ⟨hsa, by omega, by omega⟩ ?_
    (first | refine wX ?_ | exact wZ)
    refine LdN.one (.string (bs s)) rfl (fun w hw => hw.1) (by rw [Int.toNat_natCast]; show (strC l)[i * 1]? = _; rw [Nat.mul_one]; exact strC_get hs) ?_
    (first | refine wX ?_ | exact wZ)
    rw [txt_eq]
    cases hsx : s == x with
    | true =>
      (first | refine wX ?_ | exact wZ)
      exact out_bool (decide_eq_true (eq_of_beq hsx ▸ List.mem_of_getElem? hs)).symm
    | false =>
      (first | refine wX ?_ | exact wZ)
      refine ⟨i + 1, ⟨by omega, ?_⟩, by omega, ?_, by (repeat' (first | exact trivial | exact wkE_refl _ | refine And.intro ?_ ?_))⟩
      · rw [List.take_add_one, hs]
        intro h
        rcases List.mem_append.1 h with h | h
        · exact hno h
        · rw [List.mem_singleton.1 (show x ∈ [s] from h)] at hsx
          simp at hsx
      · (repeat' (first | exact trivial | refine And.intro (by with_reducible rfl) ?_ | (with_reducible exact wkC_refl _) | (with_reducible exact wkCs_refl _) | refine And.intro ?_ ?_))
        all_goals first | rfl | exact av_int (by rw [wrap_i64 (by omega)]; omega)
  · have hin : i = l.length := by omega
    subst hin
    rw [List.take_length] at hno
    (first | refine wX ?_ | exact wZ)
    exact out_bool (decide_eq_false hno).symm
end Go.Proofs.YtahjbnfbilkbcaaGreatDoor

/-
  AX, forty-eighth text: maps with numbers as keys that are asked for a key that may not be there, or written over.
-/
namespace Go.AX

/-- v, ok := m[k] -/
theorem ReadW.askMap {P : Program} {o : Oper} {s : List AV} {H : List Ent} {K : AV → Prop} {t kt et : TypeId} {m k : Operand} {b c : Nat} {es : Array MapEntry} {κ : IntKind} {n : Int} {inf : TypeInfo} {z : Value} (r : Option (Nat × Value)) (ho : o.op = .lookup t m k true) (ht : P.underlying t = some (.map kt et)) (hkt : P.underlying kt = some (.int κ)) (hi : P.info? et = some inf) (hz : inf.zero = some z)
    (hm : opv s m = .c (.v (.map (some b)))) (hk : opv s k = .c (.v (.int κ n))) (hF : ∀ w, Facts H w → w.heap[b]? = some (.map es c)) (hf : Instr.findNow (.int κ) (.int κ n) es.toList 0 = some r) (h : K (.c (.v (.tuple #[(r.map Prod.snd).getD z, .bool r.isSome])))) : ReadW P o s H K :=
  ReadW.val (.tuple #[(r.map Prod.snd).getD z, .bool r.isSome]) (fun cs b e => by rw [ho] at e; cases e) (by rw [ho]; show allPlain s [m, k] = true; simp [allPlain, hm, hk]) (fun w hw => by
    have hb := hF w hw
    have hc : (Instr.checkKey es.isEmpty 10000 kt (.int κ n)).run P w = .ok () w := MapKept.run_checkKey (k := .int κ n) hkt (by simp [MapKept.IsKey]) es.isEmpty 9999
    have hrun : (Instr.lookup t (.map (some b)) (.int κ n) true).run P w = .ok (.tuple #[(r.map Prod.snd).getD z, .bool r.isSome]) w := by
      cases r with
      | none => simp [Instr.lookup, run_underlying ht, MapKept.run_getObj_map hb, hc, MapKept.run_findKey hkt hf, Result.andThen, run_zeroValue hi hz]
      | some q => simp [Instr.lookup, run_underlying ht, MapKept.run_getObj_map hb, hc, MapKept.run_findKey hkt hf, Result.andThen]
    unfold execOp
    simp only [ho, plainEv_v hm, plainEv_v hk, Sem.run_bind, hrun, Result.andThen_ok, Sem.run_pure]) h
/-- The beginning of a slice of anything. -/
theorem ReadW.slc_hi {P : Program} {o : Oper} {s : List AV} {H : List Ent} {K : AV → Prop} {t : TypeId} {x z : Operand} {a : Option Addr} {n cap : Nat} {k : IntKind} {j : Int} (ho : o.op = .slice t x none (some z) none) (hu : slcB P t = true)
    (hx : opv s x = .c (.v (.slice a n cap))) (hz : opv s z = .c (.v (.int k j))) (hj : 0 ≤ j ∧ j ≤ (cap : Int)) (h : K (.c (.v (.slice a j.toNat cap)))) : ReadW P o s H K := by
  obtain ⟨e, inf, hu, hi⟩ := slcB_spec hu
  refine ReadW.val _ (fun cs b => by rw [ho]; simp) (by rw [ho]; simp [Op.operands, allPlain, hx, hz]) (fun w _ => ?_) h
  have e1 := plainEv_v hx
  have e2 := plainEv_v hz
  have : (Instr.sliceAt t (.slice a n cap) none (some (.int k j)) none).run P w = .ok (.slice a j.toNat cap) w := by
    have ha : a.map (·.add 0) = a := by
      cases a with
      | none => rfl
      | some b => rfl
    simp [Instr.sliceAt, Instr.slice, run_underlying hu, Instr.sliceBounds, Instr.sliceBound, asIntOf, hj, sizeOf, typeInfo, hi, ha]
  refine run_op_slice ho ?_
  rw [e1]
  simpa [e2] using this
/-- What a map with whole-number keys holds. -/
def MapIs (κ : IntKind) (es : Array MapEntry) (R : Int → Option Value) : Prop := ∀ k : Int, ∃ i, Instr.findNow (.int κ) (.int κ k) es.toList 0 = some ((R k).map fun v => (i, v))
theorem find_snoc {κ : IntKind} {k k' : Int} {v : Value} {born : Nat} : ∀ (l : List MapEntry) (i : Nat), (∀ q, Instr.findNow (.int κ) (.int κ k) l i = some (some q) → Instr.findNow (.int κ) (.int κ k) (l ++ [{ key := .int κ k', val := v, born := born }]) i = some (some q)) ∧
    (Instr.findNow (.int κ) (.int κ k) l i = some none → Instr.findNow (.int κ) (.int κ k) (l ++ [{ key := .int κ k', val := v, born := born }]) i = some (if k = k' then some (i + l.length, v) else none))
  | [], i => by
    refine ⟨(fun q h => by cases h), fun _ => ?_⟩
    by_cases h : k = k'
    · subst h
      simp [Instr.findNow, Instr.sameNow]
    · have hb : (k == k') = false := by simp [h]
      simp [Instr.findNow, Instr.sameNow, hb, h]
  | e :: l, i => by
    obtain ⟨h1, h2⟩ := find_snoc (κ := κ) (k := k) (k' := k') (v := v) (born := born) l (i + 1)
    simp only [List.cons_append, Instr.findNow]
    cases hs : Instr.sameNow (.int κ) (.int κ k) e.key with
    | none => exact ⟨(fun q h => by cases h), (fun h => by cases h)⟩
    | some b =>
      cases b with
      | true => exact ⟨(fun q h => h), (fun h => by cases h)⟩
      | false =>
        refine ⟨fun q h => h1 q h, fun h => ?_⟩
        rw [h2 h]
        simp only [List.length_cons]
        rw [show i + 1 + l.length = i + (l.length + 1) by omega]
theorem MapIs.nil {κ : IntKind} : MapIs κ #[] fun _ => none := fun _ => ⟨0, rfl⟩
theorem MapIs.put {κ : IntKind} {es : Array MapEntry} {R : Int → Option Value} (h : MapIs κ es R) {k' : Int} (hk : R k' = none) (v : Value) (born : Nat) : MapIs κ (es.push { key := .int κ k', val := v, born := born }) fun k => if k = k' then some v else R k := by
  intro k
  obtain ⟨i, hi⟩ := h k
  have hs := find_snoc (κ := κ) (k := k) (k' := k') (v := v) (born := born) es.toList 0
  rw [Array.toList_push]
  by_cases he : k = k'
  · subst he
    rw [hk] at hi
    refine ⟨0 + es.toList.length, ?_⟩
    rw [hs.2 hi]
    simp
  · show ∃ i, _ = some (Option.map (fun v => (i, v)) (if k = k' then some v else R k))
    rw [if_neg he]
    cases hr : R k with
    | none =>
      rw [hr] at hi
      exact ⟨0, by rw [hs.2 hi, if_neg he]; rfl⟩
    | some x =>
      rw [hr] at hi
      exact ⟨i, by rw [hs.1 _ hi]; rfl⟩
theorem MapIs.congr {κ : IntKind} {es : Array MapEntry} {R R' : Int → Option Value} (h : MapIs κ es R) (e : ∀ k, R k = R' k) : MapIs κ es R' := fun k => by rw [← e k]; exact h k
theorem MapIs.none {κ : IntKind} {es : Array MapEntry} {R : Int → Option Value} (h : MapIs κ es R) {k : Int} (hk : R k = .none) : Instr.findNow (.int κ) (.int κ k) es.toList 0 = some .none := by
  obtain ⟨i, hi⟩ := h k
  rw [hi, hk]
  rfl
end Go.AX
