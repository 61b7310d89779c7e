/-
  Lemmas (Ax33 Ax35 Ax36 S1 S2 N2 P9 Ax40 Ax46 Ax45 Ax44 Ax39 Ax41 Ax42 Ax43 C1 Ax27 Ax37 A1 MR1 C10 C2 C3 C4 N3 C5 C6 Ax48 C8 C7 C9 Ax49).
-/
import Derived.Recover
import Derived.Lay
import Derived.Lib.LaidU8
import Derived.PinnedBridge
import Derived.Test.YtgogonnnojcioaaGreatDoorMde4
set_option linter.unusedVariables false
set_option linter.unusedSimpArgs false
namespace Go.AX
theorem ReadC.load {P : Program} {C : World -> Prop} {o : Oper} {s : List AV} {K : AV -> Prop} {T : TypeId} {x : Operand} {p : Addr} (v : Value) (ho : o.op = .load T x) (hx : opv s x = .c (.v (.pointer (some p)))) (hF : ∀ w, C w -> (loadVar T p).run P w = .ok v w) (hk : K (.c (.v v))) : ∃ x, ReadC P C o s K x :=
 ⟨v, fun cs b e => (by rw [ho] at e; cases e), by rw [ho]; show Qar s [x] = true; simp [Qar, hx], fun w hw => by
  have hx2 : Qat s x = .pointer (some p) := by unfold Qat; rw [hx]
  unfold execOp
  simp [ho, hx2, Instr.loadAt, Instr.sureAddr, hF w hw], hk⟩
theorem ReadC.one {P : Program} {C : World -> Prop} {o : Oper} {s : List AV} {K : AV -> Prop} {T : TypeId} {x : Operand} {a : Option Addr} {q k : Nat} {xs : List Value} (v : Value) (ho : o.op = .load T x) (hx : opv s x = .c (.v (.pointer (some (Qb8 a q))))) (hT : Qep P T = some none)
  (hF : ∀ w, C w -> SlAt a k xs w) (hv : xs[q]? = some v) (hk : K (.c (.v v))) : ∃ x, ReadC P C o s K x :=
 ReadC.load v ho hx (fun w hw => Qe7 hT ((hF w hw).cell hv)) hk
theorem ReadC.agg {P : Program} {C : World -> Prop} {o : Oper} {s : List AV} {K : AV -> Prop} {T : TypeId} {x : Operand} {a : Option Addr} {q n k : Nat} {xs : List Value} (ys : List Value) (ho : o.op = .load T x) (hx : opv s x = .c (.v (.pointer (some (Qb8 a q))))) (hT : Qep P T = some (some n))
  (hF : ∀ w, C w -> SlAt a k xs w) (hl : ys.length = n) (hv : ∀ j, j < n -> xs[q + j]? = ys[j]?) (hk : K (.c (.v (.agg ys.toArray)))) : ∃ x, ReadC P C o s K x :=
 ReadC.load (.agg ys.toArray) ho hx (fun w hw => Qib hT hl fun j v hj => by
  have hjn : j < n := by rw [<- hl]; exact (Zfz.1 hj).1
  rw [Qb8, Addr.add_add]
  exact (hF w hw).cell ((hv j hjn).trans hj)) hk
theorem ReadC.nil {P : Program} {C : World -> Prop} {o : Oper} {s : List AV} {K : AV -> Prop} {x : Operand} {p : Addr} (ho : o.op = .nilCheck x) (hx : opv s x = .c (.v (.pointer (some p)))) (hk : K (.c (.v (.pointer (some p))))) : ∃ x, ReadC P C o s K x :=
 ⟨.pointer (some p), fun cs b e => (by rw [ho] at e; cases e), by rw [ho]; show Qar s [x] = true; simp [Qar, hx], fun w _ => by
  have hx2 : Qat s x = .pointer (some p) := by unfold Qat; rw [hx]
  unfold execOp
  simp [ho, hx2], hk⟩
def QBm {ι : Type} (inv : ι -> Prop) (sl : ι -> List AV) (hp : ι -> List Ent) (K : Ex -> List AV -> List Ent -> Prop) (e : Ex) (s' : List AV) (H' : List Ent) : Prop :=
 match e with
 | .normal => ∃ i, inv i /\ wkS s' (sl i) /\ wkH H' (hp i)
 | .exit n => K (.exit n) s' H'
 | .ret => K .ret s' H'
 | .pan c => K (.pan c) s' H'
inductive SeqN (ia ib : List AV -> List Ent -> (Ex -> List AV -> List Ent -> Prop) -> Prop) (s : List AV) (H : List Ent) (K : Ex -> List AV -> List Ent -> Prop) : Prop where
 | plain (h : ia s H (seqK ib K))
 | join (ι : Type) (inv : ι -> Prop) (sl : ι -> List AV) (hp : ι -> List Ent) (len : ∀ i, inv i -> H.length <= (hp i).length) (oks : ∀ i, inv i -> okSB (hp i).length (sl i) = true) (okh : ∀ i, inv i -> okH (hp i).length (hp i))
   (h : ia s H (QBm inv sl hp K)) (next : ∀ i, inv i -> Qlc (sl i) fun s => Qmj (hp i) fun H => ib s H K)
def Qi5 (P : Program) (c : Code) : List AV -> List Ent -> (Ex -> List AV -> List Ent -> Prop) -> Prop :=
 Code.rec (motive := fun _ => List AV -> List Ent -> (Ex -> List AV -> List Ent -> Prop) -> Prop)
  (fun s H K => K .normal s H)
  (fun _ ops draw s H K => Qfv P ops draw s H K)
  (fun _ _ ia ib s H K => SeqN ia ib s H K)
  (fun c _ _ ia ib s H K => Qpr c s (fun s => ia s H K) (fun s => ib s H K))
  (fun id _ ib s H K => ib s H (Qgb id K))
  (fun _ ib s H K => LoopN ib s H K)
  (fun _ _ _ _ _ _ _ _ _ => False)
  (fun id s H K => K (.exit id) s H)
  (fun _ _ _ _ _ => False)
  (fun _ s H K => K .normal s H)
  (fun _ _ _ _ => False)
  (fun s H K => K .ret s H)
  (fun _ _ _ _ => False)
  c
theorem Qqv {P : Program} (hm : P.follows .mixedOrders = true) : ∀ (c : Code) (s : List AV) (H : List Ent) (K : Ex -> List AV -> List Ent -> Prop), Qi5 P c s H K ->
  ∀ (ρ : List Loc) (S : Nat -> Prop) (w : World) (a : Act), Sat ρ S H w -> RelS ρ s a.tmps.toList -> c.wp P (Post ρ S H w a.defers K) a w := by
 intro c
 induction c with
 | skip => intro s H K h ρ S w a hs hr; exact wp_skip ⟨ρ, S, s, H, .normal, hs, Ev.refl _ _ _ _, hr, rfl, trivial, h⟩
 | label l => intro s H K h ρ S w a hs hr; exact wp_label ⟨ρ, S, s, H, .normal, hs, Ev.refl _ _ _ _, hr, rfl, trivial, h⟩
 | exit id => intro s H K h ρ S w a hs hr; exact wp_exit ⟨ρ, S, s, H, .exit id, hs, Ev.refl _ _ _ _, hr, rfl, rfl, h⟩
 | ret => intro s H K h ρ S w a hs hr; exact wp_ret ⟨ρ, S, s, H, .ret, hs, Ev.refl _ _ _ _, hr, rfl, trivial, h⟩
 | goto l => intro s H K h; exact h.elim
 | refuse y => intro s H K h; exact h.elim
 | scope b ih => intro s H K h; exact h.elim
 | rangeFunc f ps _ b _ _ => intro s H K h; exact h.elim
 | region id ops draw =>
  intro s H K h0 ρ S w a hs hr
  have h : Qfv P ops draw s H K := h0
  clear h0
  unfold Qfv at h
  split at h
  ·exact wp_region_list (Qdy _ _ _ h ρ S w a hs hr)
  ·have h0 : Cls ρ S H w { w with drawn := w.drawn + 1 } := ⟨S, hs.heap rfl, Ev.drew _ _ _ _⟩
   rcases h with ⟨hB, h⟩ | ⟨pre, hd, tl, hB, h⟩ | ⟨pre, hd, tl, hB, h⟩ | ⟨C, pre, hd, tl, hB, hC, h⟩ | ⟨pre, t, n, hB, h⟩ | h
   ·refine wp_region_quiet (C := Cls ρ S H w) hm hB h0 ?_
    have hq := Qe1 ⟨_, h0⟩ _ _ h a hr
    refine exec_sound.wpQuiet_mono (fun a' ⟨s', hK, hr', hd⟩ w' ⟨S', hs', hev⟩ => ?_) _ _ hq
    exact ⟨ρ, S', s', H, .normal, hs', hev, hr', hd, trivial, hK⟩
   ·exact Qiy hm hB h hs hr
   ·exact Qhm hm hB h hs hr
   ·exact Qhn hm hB hC h hs hr
   ·exact Qiu hm hB h hs hr
   ·exact h _ ρ S w a hs hr
 | seq x y ihx ihy =>
  intro s H K h0 ρ S w a hs hr
  have h : SeqN (Qi5 P x) (Qi5 P y) s H K := h0
  have key : ∀ K2 : Ex -> List AV -> List Ent -> Prop, Qi5 P x s H K2 -> (∀ (e : Ex) (s1 : List AV) (H1 : List Ent) (ρ1 : List Loc) (S1 : Nat -> Prop) (w1 : World) (a1 : Act), K2 e s1 H1 -> Sat ρ1 S1 H1 w1 -> Ev ρ S H w ρ1 S1 H1 w1 -> relX e ρ1 s1 a1.tmps.toList -> ∃ s2 H2 ρ2 S2, Sat ρ2 S2 H2 w1 /\ Ev ρ S H w ρ2 S2 H2 w1 /\ relX e ρ2 s2 a1.tmps.toList /\ seqK (Qi5 P y) K e s2 H2) -> (Code.seq x y).wp P (Post ρ S H w a.defers K) a w := by
   intro K2 h2 hk
   refine wp_seq (wp_mono (ihx s H K2 h2 ρ S w a hs hr) fun e a' w' hp => ?_)
   obtain ⟨ρ0, S0, s0, H0, ex, hs0, hev0, hr0, hd, hex, hK0⟩ := hp
   obtain ⟨s1, H1, ρ1, S1, hs1, hev, hr1, hK⟩ := hk ex s0 H0 ρ0 S0 w' a' hK0 hs0 hev0 hr0
   cases ex with
   | normal =>
    cases e <;> first | exact hex.elim | skip
    refine wp_mono (ihy s1 H1 K hK ρ1 S1 w' a' hs1 hr1) fun e2 a2 w2 hp2 => ?_
    rw [hd] at hp2
    exact hp2.from hev
   | exit n => cases e <;> first | exact hex.elim | exact ⟨ρ1, S1, s1, H1, .exit n, hs1, hev, hr1, hd, hex, hK⟩
   | ret => cases e <;> first | exact hex.elim | exact ⟨ρ1, S1, s1, H1, .ret, hs1, hev, hr1, hd, hex, hK⟩
   | pan n => cases e <;> first | exact hex.elim | exact ⟨ρ1, S1, s1, H1, .pan n, hs1, hev, hr1, hd, hex, hK⟩
  rcases h with h | ⟨ι, inv, sl, hp, hlen, hoks, hokh, h, hnext⟩
  ·exact key _ h fun e s1 H1 ρ1 S1 w1 a1 hK hs1 hev hr1 => ⟨s1, H1, ρ1, S1, hs1, hev, hr1, hK⟩
  ·simp only [Qcv, Qc9] at hnext
   refine key _ h fun e s1 H1 ρ1 S1 w1 a1 hK hs1 hev hr1 => ?_
   cases e with
   | normal =>
    obtain ⟨j, hij, hws, hwh⟩ := hK
    have hw := hs1.weak hwh (hokh j hij)
    refine ⟨sl j, hp j, ρ1.take (hp j).length, S1, hw.1, ⟨?_, hev.os, hev.tape, hev.output, hev.size, hev.keep, hev.imm, fun b hb => hev.own b (hw.2 b hb)⟩, Qdc hws (hoks j hij) hr1, hnext j hij⟩
    obtain ⟨t, ht⟩ := hev.pre
    refine ⟨t.take ((hp j).length - ρ.length), ?_⟩
    rw [ht, List.take_append, Zpz (by rw [hs.len]; exact hlen j hij)]
   | exit n => exact ⟨s1, H1, ρ1, S1, hs1, hev, hr1, hK⟩
   | ret => exact ⟨s1, H1, ρ1, S1, hs1, hev, hr1, hK⟩
   | pan n => exact ⟨s1, H1, ρ1, S1, hs1, hev, hr1, hK⟩
 | cond c x y ihx ihy =>
  intro s H K h0 ρ S w a hs hr
  have h : Qpr c s (fun s => Qi5 P x s H K) (fun s => Qi5 P y s H K) := h0
  obtain ⟨b, hb, hc⟩ := Qi7 h hr
  refine wp_cond hb ?_
  rcases hc with ⟨rfl, s', hK, hr'⟩ | ⟨rfl, s', hK, hr'⟩
  ·exact ihx s' H K hK ρ S w a hs hr'
  ·exact ihy s' H K hK ρ S w a hs hr'
 | block id b ih =>
  intro s H K h ρ S w a hs hr
  refine wp_block (wp_mono (ih s H (Qgb id K) h ρ S w a hs hr) fun e a' w' hp => ?_)
  obtain ⟨ρ1, S1, s1, H1, ex, hs1, hev, hr1, hd, hex, hK⟩ := hp
  cases ex with
  | normal => cases e <;> first | exact hex.elim | exact ⟨ρ1, S1, s1, H1, .normal, hs1, hev, hr1, hd, trivial, hK⟩
  | ret => cases e <;> first | exact hex.elim | exact ⟨ρ1, S1, s1, H1, .ret, hs1, hev, hr1, hd, trivial, hK⟩
  | pan n => cases e <;> first | exact hex.elim | exact ⟨ρ1, S1, s1, H1, .pan n, hs1, hev, hr1, hd, hex, hK⟩
  | exit n =>
   cases e <;> first | exact hex.elim | skip
   rename_i m
   have hnm : n = m := hex
   subst hnm
   by_cases hid : n = id
   ·subst hid
    simp only [Exit.inBlock, if_true]
    have hK' : K .normal s1 H1 := by simpa [Qgb] using hK
    exact ⟨ρ1, S1, s1, H1, .normal, hs1, hev, hr1, hd, trivial, hK'⟩
   ·simp only [Exit.inBlock, if_neg hid]
    have hbq : Nat.beq n id = false := by cases hq : Nat.beq n id with | false => rfl | true => exact absurd (Nat.eq_of_beq_eq_true hq) hid
    have hK' : K (.exit n) s1 H1 := by simpa [Qgb, hbq] using hK
    exact ⟨ρ1, S1, s1, H1, .exit n, hs1, hev, hr1, hd, rfl, hK'⟩
 | loop b ih =>
  intro s H K h0 ρ S w a hs hr
  have h : LoopN (Qi5 P b) s H K := h0
  rcases h with ⟨ι, inv, sl, hp, μ, pad, hpad, hlen, hoks, hokh, ⟨i0, hi0, hst, hsh⟩, hround⟩ | ⟨n, hU⟩ | ⟨ι, inv, sl, hp, μ, pad, hpad, hlen, hoks, hokh, ⟨i0, hi0, hst, hsh⟩, hround⟩
  ·obtain ⟨t0, hs0, hev0⟩ := Sat.pad pad hpad hs
   have hr0 := Qb5 t0 hr
   refine wp_mono (P := P) (c := .loop b) (Q := Post (ρ ++ t0) S (H ++ pad) w a.defers K) ?_ fun e a' w' hp => hp.from hev0
   clear hs hr h0
   have hs := hs0
   have hr := hr0
   clear hs0 hr0
   generalize ρ ++ t0 = ρ at *
   generalize H ++ pad = H at *
   simp only [Qcv, Qc9] at hround
   refine Qcy (fun n a' w' => ∃ i ρ' S', inv i /\ μ i = n /\ Sat ρ' S' (hp i) w' /\ Ev ρ S H w ρ' S' (hp i) w' /\ RelS ρ' (sl i) a'.tmps.toList /\ a'.defers = a.defers) ?_ (μ i0) a w ?_
   ·rintro n a' w' ⟨i, ρ', S', hinv, rfl, hs', hev, hr', hd⟩
    refine wp_mono (ih (sl i) (hp i) _ (hround i hinv) ρ' S' w' a' hs' hr') fun e a2 w2 hq => ?_
    obtain ⟨ρ2, S2, s2, H2, ex, hs2, hev2, hr2, hd2, hex, hK⟩ := hq
    cases ex with
    | normal =>
     cases e <;> first | exact hex.elim | skip
     obtain ⟨j, hij, hj, hws, hwh⟩ := hK
     have hw := hs2.weak hwh (by rw [hlen]; exact hokh j hij)
     refine ⟨μ j, hj, j, ρ2.take (hp j).length, S2, hij, rfl, hw.1, ?_, ?_, hd2.trans hd⟩
     ·have h12 := hev.trans hev2
      refine ⟨?_, h12.os, h12.tape, h12.output, h12.size, h12.keep, h12.imm, fun b hb => h12.own b (hw.2 b hb)⟩
      obtain ⟨t, ht⟩ := h12.pre
      refine ⟨t.take ((hp j).length - ρ.length), ?_⟩
      rw [ht, List.take_append, Zpz (by rw [hs.len, hlen]; omega)]
     ·rw [hlen]; exact Qdc hws (hoks j) hr2
    | exit n => cases e <;> first | exact hex.elim | exact ⟨ρ2, S2, s2, H2, .exit n, hs2, hev.trans hev2, hr2, hd2.trans hd, hex, hK⟩
    | ret => cases e <;> first | exact hex.elim | exact ⟨ρ2, S2, s2, H2, .ret, hs2, hev.trans hev2, hr2, hd2.trans hd, trivial, hK⟩
    | pan n => cases e <;> first | exact hex.elim | exact ⟨ρ2, S2, s2, H2, .pan n, hs2, hev.trans hev2, hr2, hd2.trans hd, hex, hK⟩
   ·have hw := hs.weak hsh (by rw [hlen]; exact hokh i0 hi0)
    have hρ : ρ.take (hp i0).length = ρ := Zpz (by rw [hs.len, hlen]; omega)
    rw [hρ] at hw
    refine ⟨i0, ρ, S, hi0, rfl, hw.1, ⟨⟨[], by simp⟩, rfl, rfl, rfl, Zcz _, fun _ _ _ => rfl, fun b hb => .inl hb, fun b hb => .inl (hw.2 b hb)⟩, ?_, rfl⟩
    have := Qdc hst (hoks i0) hr
    rw [<- hlen i0, hρ] at this
    exact this
  ·refine Qcy (fun n a' w' => ∃ s' H' ρ' S', Qxl (Qi5 P b) K n s' H' /\ Sat ρ' S' H' w' /\ Ev ρ S H w ρ' S' H' w' /\ RelS ρ' s' a'.tmps.toList /\ a'.defers = a.defers) ?_ n a w ⟨s, H, ρ, S, hU, hs, Ev.refl _ _ _ _, hr, rfl⟩
   rintro n a' w' ⟨s', H', ρ', S', hU, hs', hev, hr', hd⟩
   cases n with
   | zero => exact hU.elim
   | succ n =>
    refine wp_mono (ih s' H' _ hU ρ' S' w' a' hs' hr') fun e a2 w2 hq => ?_
    obtain ⟨ρ2, S2, s2, H2, ex, hs2, hev2, hr2, hd2, hex, hK⟩ := hq
    cases ex with
    | normal =>
     cases e <;> first | exact hex.elim | skip
     exact ⟨n, Nat.lt_succ_self n, s2, H2, ρ2, S2, hK, hs2, hev.trans hev2, hr2, hd2.trans hd⟩
    | exit n => cases e <;> first | exact hex.elim | exact ⟨ρ2, S2, s2, H2, .exit n, hs2, hev.trans hev2, hr2, hd2.trans hd, hex, hK⟩
    | ret => cases e <;> first | exact hex.elim | exact ⟨ρ2, S2, s2, H2, .ret, hs2, hev.trans hev2, hr2, hd2.trans hd, trivial, hK⟩
    | pan n => cases e <;> first | exact hex.elim | exact ⟨ρ2, S2, s2, H2, .pan n, hs2, hev.trans hev2, hr2, hd2.trans hd, hex, hK⟩
  ·obtain ⟨t0, hs0, hev0⟩ := Sat.pad pad hpad hs
   have hr0 := Qb5 t0 hr
   refine wp_mono (P := P) (c := .loop b) (Q := Post (ρ ++ t0) S (H ++ pad) w a.defers K) ?_ fun e a' w' hp => hp.from hev0
   clear hs hr h0
   have hs := hs0
   have hr := hr0
   clear hs0 hr0
   generalize ρ ++ t0 = ρ at *
   generalize H ++ pad = H at *
   simp only [Qcv, Qc9] at hround
   refine Qcy (fun n a' w' => ∃ i ρ' S', inv i /\ μ i = n /\ Sat ρ' S' (hp i) w' /\ Ev ρ S H w ρ' S' (hp i) w' /\ RelS ρ' (sl i) a'.tmps.toList /\ a'.defers = a.defers) ?_ (μ i0) a w ?_
   ·rintro n a' w' ⟨i, ρ', S', hinv, rfl, hs', hev, hr', hd⟩
    refine wp_mono (ih (sl i) (hp i) _ (hround i hinv) ρ' S' w' a' hs' hr') fun e a2 w2 hq => ?_
    obtain ⟨ρ2, S2, s2, H2, ex, hs2, hev2, hr2, hd2, hex, hK⟩ := hq
    cases ex with
    | normal =>
     cases e <;> first | exact hex.elim | skip
     obtain ⟨j, hij, hj, hws, G, hT, hwh⟩ := hK
     obtain ⟨S3, hs3, hev3⟩ := hT.2 _ _ _ hs2
     have hw := hs3.weak hwh (by rw [hlen]; exact hokh j hij)
     refine ⟨μ j, hj, j, ρ2.take (hp j).length, S3, hij, rfl, hw.1, ?_, ?_, hd2.trans hd⟩
     ·have h12 := (hev.trans hev2).trans hev3
      refine ⟨?_, h12.os, h12.tape, h12.output, h12.size, h12.keep, h12.imm, fun b hb => h12.own b (hw.2 b hb)⟩
      obtain ⟨t, ht⟩ := h12.pre
      refine ⟨t.take ((hp j).length - ρ.length), ?_⟩
      rw [ht, List.take_append, Zpz (by rw [hs.len, hlen]; omega)]
     ·rw [hlen]; exact Qdc hws (hoks j) hr2
    | exit n => cases e <;> first | exact hex.elim | exact ⟨ρ2, S2, s2, H2, .exit n, hs2, hev.trans hev2, hr2, hd2.trans hd, hex, hK⟩
    | ret => cases e <;> first | exact hex.elim | exact ⟨ρ2, S2, s2, H2, .ret, hs2, hev.trans hev2, hr2, hd2.trans hd, trivial, hK⟩
    | pan n => cases e <;> first | exact hex.elim | exact ⟨ρ2, S2, s2, H2, .pan n, hs2, hev.trans hev2, hr2, hd2.trans hd, hex, hK⟩
   ·obtain ⟨G, hT, hsh⟩ := hsh
    obtain ⟨S3, hs3, hev3⟩ := hT.2 _ _ _ hs
    have hw := hs3.weak hsh (by rw [hlen]; exact hokh i0 hi0)
    have hρ : ρ.take (hp i0).length = ρ := Zpz (by rw [hs.len, hlen]; omega)
    rw [hρ] at hw
    refine ⟨i0, ρ, S3, hi0, rfl, hw.1, ⟨⟨[], by simp⟩, hev3.os, hev3.tape, hev3.output, hev3.size, hev3.keep, hev3.imm, fun b hb => hev3.own b (hw.2 b hb)⟩, ?_, rfl⟩
    have := Qdc hst (hoks i0) hr
    rw [<- hlen i0, hρ] at this
    exact this
theorem Qfr {P : Program} (hm : P.follows .mixedOrders = true) {f : FuncId} {fn : Func} {c : Code} (hf : P.funcs[f]? = some fn) (hn : (fn.name == "runtime.NumGoroutine") = false) (hb : fn.body = some c)
  {args : List AV} (hl : Nat.ble args.length fn.ntmps = true) {H : List Ent} {K : Out -> List Ent -> Prop} (h : Qhq fn.ntmps args fun s => Qi5 P c s H (endK P fn.results.toList K)) : SpecH P f args H K := by
 refine ⟨⟨fn, hf, hn, by rw [hb]; rfl⟩, fun ρ S w vs hs hr => ?_⟩
 have hvl := Qit hr
 obtain ⟨s0, h, hs0⟩ := Qgo h (Zaz hl)
 have hinit : RelS ρ s0 (vs.toArray ++ Array.replicate (fn.ntmps - vs.toArray.size) undef).toList := by
  have := hs0 ρ vs hr
  simpa [hvl] using this
 refine calls_of_wp hf hb (wp_mono (Qqv hm c _ H _ h ρ S w ⟨_, []⟩ hs hinit) ?_)
 ·intro e a w' hp
  obtain ⟨ρ1, S1, s1, H1, ex, hs1, hev, hr1, hd, hex, hK⟩ := hp
  have fin : RelS ρ1 s1 a.tmps.toList -> ∀ {K' : Out -> Prop}, resK P fn.results.toList s1 H1 K' -> (∀ out, K' out -> K out H1) -> ∃ v, (results fn a.tmps).run P w' = .ok v w' /\
    ∃ ρ' S' H' out, Sat ρ' S' H' w' /\ Ev ρ S H w ρ' S' H' w' /\ Qth ρ' out (.returned v) /\ K out H' := fun hr2 {_} hK1 hK2 => by
   obtain ⟨out, hK3, hres⟩ := Qix hK1
   obtain ⟨v, hrun, hv⟩ := hres ρ1 S1 w' a.tmps hs1 hr2
   exact ⟨v, hrun, ρ1, S1, H1, out, hs1, hev, hv, hK2 out hK3⟩
  cases ex with
  | normal =>
   cases e <;> first | exact hex.elim | skip
   obtain ⟨v, hrun, hR⟩ := fin hr1 (K' := fun out => K out H1) hK fun _ h => h
   exact ⟨hd, v, hrun, hR⟩
  | ret =>
   cases e <;> first | exact hex.elim | skip
   obtain ⟨v, hrun, hR⟩ := fin hr1 (K' := fun out => K out H1) hK fun _ h => h
   exact ⟨hd, v, hrun, hR⟩
  | exit n => exact hK.elim
  | pan ch =>
   cases e <;> first | exact hex.elim | skip
   have : ch = _ := hex
   subst this
   exact ⟨hd, ρ1, S1, H1, .pan ch, hs1, hev, rfl, hK⟩
end Go.AX
namespace Go.Scan
def sml (c : UInt8) : Bool := (decide (97 <= c.toNat) && decide (c.toNat <= 122)) || decide (c.toNat = 95)
def grt (c : UInt8) : Bool := decide (65 <= c.toNat) && decide (c.toNat <= 90)
def dig (c : UInt8) : Bool := decide (48 <= c.toNat) && decide (c.toNat <= 57)
def ltr (c : UInt8) : Bool := sml c || grt c
def wrd (c : UInt8) : Bool := ltr c || dig c
end Go.Scan
namespace Go.Proofs.YtgogonnnojcioaaGreatDoor
open Go.AX Go.RowKit Go.Scan
set_option maxRecDepth 20000
theorem Qb0 {a b : Bool} (h : a = true ↔ b = true) : Out.val (.c (.v (.bool a))) = Out.val (.c (.v (.bool b))) := by rw [Zsz.2 h]
theorem Qyu (c : UInt8) : ∀ H, SpecH Tryz.prog 132 (pvs [.int .u8 (c.toNat : Int)]) H (Ret (.bool (sml c)) H) := by
 refine Qd1 hm Tryz.func132 (by kernel_rfl) rfl rfl ?_
 refine wX ?_
 (repeat' (first | (refine Qab (fun _ => ?_) (fun _ => ?_)) | (refine Qa0 (fun _ => ?_) (fun _ => ?_))))
 all_goals (first | refine wX ?_ | exact wZ)
 (repeat' (first | (refine Qab (fun _ => ?_) (fun _ => ?_)) | (refine Qa0 (fun _ => ?_) (fun _ => ?_))))
 all_goals (first | refine wX ?_ | exact wZ)
 (repeat' (first | (refine Qab (fun _ => ?_) (fun _ => ?_)) | (refine Qa0 (fun _ => ?_) (fun _ => ?_))))
 all_goals (first | refine wX ?_ | exact wZ)
 all_goals
  refine Qb0 ?_
  simp [sml]
  try omega
theorem QAv (c : UInt8) : ∀ H, SpecH Tryz.prog 153 (pvs [.int .u8 (c.toNat : Int)]) H (Ret (.bool (dig c)) H) := by
 refine Qd1 hm Tryz.func153 (by kernel_rfl) rfl rfl ?_
 refine wX ?_
 (repeat' (first | (refine Qab (fun _ => ?_) (fun _ => ?_)) | (refine Qa0 (fun _ => ?_) (fun _ => ?_))))
 all_goals (first | refine wX ?_ | exact wZ)
 (repeat' (first | (refine Qab (fun _ => ?_) (fun _ => ?_)) | (refine Qa0 (fun _ => ?_) (fun _ => ?_))))
 all_goals (first | refine wX ?_ | exact wZ)
 (repeat' (first | (refine Qab (fun _ => ?_) (fun _ => ?_)) | (refine Qa0 (fun _ => ?_) (fun _ => ?_))))
 all_goals (first | refine wX ?_ | exact wZ)
 all_goals
  refine Qb0 ?_
  simp [dig]
  try omega
theorem QBk (c : UInt8) : ∀ H, SpecH Tryz.prog 176 (pvs [.int .u8 (c.toNat : Int)]) H (Ret (.bool (ltr c)) H) := by
 refine Qd1 hm Tryz.func176 (by kernel_rfl) rfl rfl ?_
 refine wX ?_
 refine Qao (Qyu c _) ?_
 cases h : sml c with
 | true =>
  refine wX ?_
  exact Qb0 (by simp [ltr, h])
 | false =>
  refine wX ?_
  (repeat' (first | (refine Qab (fun _ => ?_) (fun _ => ?_)) | (refine Qa0 (fun _ => ?_) (fun _ => ?_))))
  all_goals (first | refine wX ?_ | exact wZ)
  (repeat' (first | (refine Qab (fun _ => ?_) (fun _ => ?_)) | (refine Qa0 (fun _ => ?_) (fun _ => ?_))))
  all_goals (first | refine wX ?_ | exact wZ)
  all_goals
   refine Qb0 ?_
   simp [ltr, h, grt]
   try omega
theorem QBd (c : UInt8) : ∀ H, SpecH Tryz.prog 152 (pvs [.int .u8 (c.toNat : Int)]) H (Ret (.bool (wrd c)) H) := by
 refine Qd1 hm Tryz.func152 (by kernel_rfl) rfl rfl ?_
 refine wX ?_
 refine Qao (QBk c _) ?_
 cases h : ltr c with
 | true =>
  refine wX ?_
  exact Qb0 (by simp [wrd, h])
 | false =>
  refine wX ?_
  refine Qao (QAv c _) ?_
  refine wX ?_
  exact Qb0 (by simp [wrd, h])
end Go.Proofs.YtgogonnnojcioaaGreatDoor
namespace Go.Scan
set_option maxRecDepth 20000
def hd (s : List UInt8) : UInt8 := s.headD 0
def iwB (s : List UInt8) : Bool := s.all wrd && !s.isEmpty && decide (s.length <= 40) && !dig (hd s)
def icB (s : List UInt8) : Bool := iwB s && !sml (hd s)
def iiB (s : List UInt8) : Bool := decide (1 < s.length) && hd s == 64 && iwB s.tail && sml (hd s.tail) && decide (s.length <= 40)
theorem Qkk {c : UInt8} (h : sml c = true) : wrd c = true /\ ltr c = true /\ dig c = false /\ grt c = false := by
 simp [sml] at h
 refine ⟨?_, ?_, ?_, ?_⟩ <;> simp [wrd, ltr, sml, dig, grt] <;> omega
theorem Qvi (c : UInt8) : (wrd c = true /\ dig c = false /\ sml c = false) ↔ grt c = true := by
 simp [wrd, ltr, sml, dig, grt]
 omega
theorem Qqr {c : UInt8} (h : grt c = true) : ltr c = true := by simp [ltr, h]
end Go.Scan
namespace Go.Core
open Go.Scan
def Qfq (s : List UInt8) (great : Bool) : Bool := !s.isEmpty && decide (s.length <= 40) && ltr (hd s) && (grt (hd s) == great) && s.tail.all fun c => ltr c || dig c
def Qpq (s : List UInt8) : Bool := Qfq s true
def Qjp (s : List UInt8) : Bool := decide (s.length <= 40) && decide (1 < s.length) && hd s == 64 && Qfq s.tail false
theorem Qsl (s : List UInt8) : Qfq s true = icB s := by
 cases s with
 | nil => rfl
 | cons c r =>
  have h := Qvi c
  unfold Qfq icB iwB hd
  rw [Zsz]
  simp only [List.isEmpty_cons, Bool.not_false, Bool.true_and, List.headD_cons, List.tail_cons, ZAz, Bool.not_eq_true', beq_iff_eq, ZBz, List.all_cons, Bool.and_true]
  have e : (r.all fun c => ltr c || dig c) = r.all wrd := rfl
  rw [e]
  constructor
  ·rintro ⟨⟨⟨h1, h2⟩, h3⟩, h4⟩
   obtain ⟨a1, a2, a3⟩ := h.2 h3
   exact ⟨⟨⟨⟨a1, h4⟩, h1⟩, a2⟩, a3⟩
  ·rintro ⟨⟨⟨⟨h1, h2⟩, h3⟩, h4⟩, h5⟩
   have h6 := h.1 ⟨h1, h4, h5⟩
   exact ⟨⟨⟨h3, Qqr h6⟩, h6⟩, h2⟩
theorem Qp6 (s : List UInt8) : Qfq s false = (iwB s && sml (hd s)) := by
 cases s with
 | nil => rfl
 | cons c r =>
  unfold Qfq iwB hd
  rw [Zsz]
  simp only [List.isEmpty_cons, Bool.not_false, Bool.true_and, List.headD_cons, List.tail_cons, ZAz, Bool.not_eq_true', beq_iff_eq, ZBz, List.all_cons, Bool.and_true]
  have e : (r.all fun c => ltr c || dig c) = r.all wrd := rfl
  rw [e]
  constructor
  ·rintro ⟨⟨⟨h1, h2⟩, h3⟩, h4⟩
   have h5 : sml c = true := by
    unfold ltr at h2
    rw [h3, Bool.or_false] at h2
    exact h2
   obtain ⟨a1, a2, a3, a4⟩ := Qkk h5
   exact ⟨⟨⟨⟨a1, h4⟩, h1⟩, a3⟩, h5⟩
  ·rintro ⟨⟨⟨⟨h1, h2⟩, h3⟩, h4⟩, h5⟩
   obtain ⟨a1, a2, a3, a4⟩ := Qkk h5
   exact ⟨⟨⟨h3, a2⟩, a4⟩, h2⟩
theorem Qvr (s : List UInt8) : Qpq s = icB s := Qsl s
theorem Qr2 (s : List UInt8) : Qjp s = iiB s := by
 unfold Qjp iiB
 rw [Qp6]
 generalize decide (s.length <= 40) = a
 generalize decide (1 < s.length) = b
 cases a <;> cases b <;> cases (hd s == 64) <;> cases iwB s.tail <;> cases sml (hd s.tail) <;> rfl
def maxI : Int := 1000000000000000
def Qei (n : Nat) (c : Cell) : Bool := c.items.all fun i => decide (0 <= i) && decide (i < (n : Int))
def plainS (c : Cell) : Bool :=
 (decide (0 <= c.kind) && decide (c.kind <= 8)) && (if c.kind = 4 then decide (c.text.length <= 2000) else if c.kind = 5 then decide (c.text.length <= 40) else if c.kind = 8 then icB c.text else decide (c.text = [])) &&
  (decide (c.kind = 3) || decide (c.num = 0)) && (decide (-maxI <= c.num) && decide (c.num <= maxI)) &&
  (if c.kind <= 5 then decide (c.items = []) && decide (c.names = []) else if c.kind ≠ 8 then decide (c.names = []) && (decide (c.kind = 6) || decide (c.items.length % 2 = 0)) else
   decide (c.names.length = c.items.length) && decide c.names.Nodup && c.names.all iiB)
def Qbi (n : Nat) (c : Cell) : Bool :=
 Qei n c && !(decide (c.kind < 0) || decide (8 < c.kind) || decide (c.kind <= 5) && !decide (c.items = []) || !decide (c.kind = 8) && !decide (c.names = []) || !decide (c.kind = 3) && !decide (c.num = 0)) &&
  (if c.kind = 3 then decide (c.text = []) && decide (-maxI <= c.num) && decide (c.num <= maxI) else if c.kind = 4 then decide (c.text.length <= 2000) else if c.kind = 5 then decide (c.text.length <= 40) else
   if c.kind = 7 then decide (c.text = []) && decide (c.items.length % 2 = 0) else if c.kind = 8 then Qpq c.text && decide (c.names.length = c.items.length) && ((List.range c.names.length).all fun i => Qjp (c.names.getD i []) && !decide (c.names.getD i [] ∈ c.names.take i))
   else decide (c.text = []))
theorem Qu2 (l : List (List UInt8)) : ((List.range l.length).all fun i => Qjp (l.getD i []) && !decide (l.getD i [] ∈ l.take i)) = (decide l.Nodup && l.all iiB) := by
 rw [Zsz]
 simp only [Zqz, List.mem_range, ZAz, Bool.not_eq_true', decide_eq_false_iff_not, ZBz]
 constructor
 ·intro h
  refine ⟨List.pairwise_iff_getElem.2 fun i j hi hj hij he => ?_, fun x hx => ?_⟩
  ·have h1 := (h j hj).2
   rw [Zlz, Zbz hj] at h1
   refine h1 (Ziz (i := i) ?_)
   rw [List.getElem?_take_of_lt hij, Zbz hi, he]
   rfl
  ·obtain ⟨i, hi⟩ := List.getElem?_of_mem hx
   have h1 := (h i (Zfz.1 hi).1).1
   rw [Zlz, hi, Qr2] at h1
   exact h1
 ·rintro ⟨h1, h2⟩ i hi
  have e : l.getD i [] = l[i] := by rw [Zlz, Zbz hi]; rfl
  refine ⟨by rw [e, Qr2]; exact h2 _ (List.getElem_mem _), fun hm => ?_⟩
  rw [e] at hm
  obtain ⟨j, hj⟩ := List.getElem?_of_mem hm
  have hji : j < i := by
   have := (Zfz.1 hj).1
   rw [List.length_take] at this
   omega
  rw [List.getElem?_take_of_lt hji] at hj
  rw [Zbz (by omega)] at hj
  exact List.pairwise_iff_getElem.1 h1 j i (by omega) hi hji (Zzz hj)
theorem Qlo (n : Nat) (c : Cell) : (plainS c && Qei n c) = Qbi n c := by
 unfold plainS Qbi
 rw [Qu2, Qvr]
 cases Qei n c with
 | false => simp
 | true =>
  rw [Bool.and_true, Bool.true_and]
  have hb : c.num = 0 -> -maxI <= c.num /\ c.num <= maxI := fun h => by rw [h]; decide
  by_cases h0 : 0 <= c.kind /\ c.kind <= 8
  ·have : c.kind = 0 \/ c.kind = 1 \/ c.kind = 2 \/ c.kind = 3 \/ c.kind = 4 \/ c.kind = 5 \/ c.kind = 6 \/ c.kind = 7 \/ c.kind = 8 := by omega
   rw [Zsz]
   rcases this with h | h | h | h | h | h | h | h | h <;> rw [h] <;> simp <;> first | (constructor <;> intro hx <;> simp_all <;> done) | skip
  ·rw [Zsz]
   have : c.kind < 0 \/ 8 < c.kind := by omega
   rcases this with h | h <;> simp [h] <;> omega
end Go.Core
namespace Go.AX
theorem ReadC.idx {P : Program} {C : World -> Prop} {o : Oper} {s : List AV} {K : AV -> Prop} {T e : TypeId} {inf : TypeInfo} {x i : Operand} {b n cap sz : Nat} {kk : IntKind} (k : Nat) (ho : o.op = .indexAddr T x i) (hu : P.underlying T = some (.slice e)) (hi : P.info? e = some inf) (hsz : inf.size = sz)
  (hx : opv s x = .c (.v (.slice (some ⟨b, 0, none⟩) n cap))) (hy : opv s i = .c (.v (.int kk (k : Int)))) (hk : k < n) (next : K (.c (.v (.pointer (some ⟨b, k * sz, none⟩))))) : ∃ x, ReadC P C o s K x :=
 ⟨.pointer (some ⟨b, k * sz, none⟩), fun cs b e => (by rw [ho] at e; cases e), by rw [ho]; show Qar s [x, i] = true; simp [Qar, hx, hy], fun w _ => by
  have hx2 : Qat s x = .slice (some ⟨b, 0, none⟩) n cap := by unfold Qat; rw [hx]
  have hy2 : Qat s i = .int kk (k : Int) := by unfold Qat; rw [hy]
  have h := Qft (P := P) hu hi w ⟨b, 0, none⟩ n cap kk (k : Int) ⟨by omega, by omega⟩
  rw [Zdz, hsz, Qck] at h
  exact Qb2 ho (by rw [hx2, hy2]; exact h), next⟩
def hasN : List Nat -> Nat -> Bool
 | [], _ => false
 | x :: l, n => match Nat.beq x n with | true => true | false => hasN l n
def ownD (D : MkD) (H : List Ent) (Kv : AV -> List Ent -> Prop) : Prop := Qfa H D.ent 0 fun H' n => Kv (D.av n) H'
def knwD (D : MkD) (H : List Ent) (Kv : AV -> List Ent -> Prop) : Prop :=
 match D with
 | ⟨val, _, _, cap, ent, _⟩ => match ent with
  | .row e sz n cs => match Qbr cs with
   | some xs => ∀ b : Nat, Qfa H (.app e sz xs (some ⟨b, 0, none⟩) n cap) 0 fun H' _ => Kv (.c (.v (val b))) H'
   | none => False
  | _ => False
def Qt2 (P : Program) (C : World -> Prop) (kn : Bool) (o : Oper) (s : List AV) (H : List Ent) (how : Nat) (Kv : AV -> List Ent -> Prop) (Kp : List PanicEntry -> List Ent -> Prop) : Prop :=
 match how with
 | 0 => Qjm P o s H fun out H' => match out with
  | .val av => Nd (∀ w, Qax H' w -> C w) (Kv av H')
  | .vals _ => False
  | .pan c => Kp c H'
 | 1 => match o.op with
  | .load _ _ => ∃ x, ReadC P C o s (fun av => Kv av H) x
  | .indexAddr _ _ _ => ∃ x, ReadC P C o s (fun av => Kv av H) x
  | _ => Qfo P o s fun av => Kv av H
 | _ + 2 => match mkD P o with
  | some D => match kn with
   | false => ownD D H fun av H' => Nd (∀ w, Qax H' w -> C w) (Kv av H')
   | true => knwD D H fun av H' => Nd (∀ w, Qax H' w -> C w) (Kv av H')
  | none => False
def Qi4 (P : Program) (C : World -> Prop) (kn : List Nat) (ops : Array Oper) (l : List (Nat × Nat)) : List AV -> List Ent -> (Ex -> List AV -> List Ent -> Prop) -> Prop :=
 List.rec (motive := fun _ => List AV -> List Ent -> (Ex -> List AV -> List Ent -> Prop) -> Prop)
  (fun s H K => K .normal s H)
  (fun kb _ ih s H K => Qfh ops kb.1 fun o => Qd3 ops o s (fun s => Qt2 P C (hasN kn kb.1) o s H kb.2 (fun av H' => putK s o.dst av fun s' => ih s' H' K) (fun c H' => K (.pan c) s H'))
   (fun s => putK s o.dst (.c (.v undef)) fun s' => ih s' H K)) l
def Qrt (P : Program) (md : Region.Mode) (ops : Array Oper) (pre : List Nat) (tl : List (Nat × Nat)) : Bool :=
 (((((((((Region.noSelect ops && decide (pre.length + tl.length = ops.size)) && ((List.range ops.size).all fun i => pre.contains i || (tl.map Prod.fst).contains i)) && disj pre (tl.map Prod.fst)) && disj (Qbt tl) (Qak tl)) && decide (Qak tl).Nodup) &&
  (Qak tl).all (Qpi P md ops)) && (Qak tl).all (Region.free md ops (Qa4 (Array.replicate ops.size false) pre))) && preB md ops pre (Array.replicate ops.size false)) &&
  tlB md ops tl (Qak tl) (Qa4 (Array.replicate ops.size false) pre))
structure MkK (D : MkD) (b : Nat) (en : Ent) : Prop where
 ent : ∀ (ρ : List Loc) (S : Nat -> Prop) (w : World) (i : Nat), ρ[i]? = some ⟨b, D.cap⟩ -> w.heap[b]? = some (.cells D.cells D.T (0, 0)) -> EntOk ρ S w i en
 entb : ∀ (ρ : List Loc) (i : Nat), ρ[i]? = some ⟨b, D.cap⟩ -> entB ρ i en = fun c => some b = some c
section
variable {P : Program} {ops : Array Oper} {C : World -> Prop} {kn : List Nat}
theorem MkOk.mk1 {o : Oper} {D : MkD} (h : MkOk P o D) (b : Nat) : MkK D b D.ent :=
 ⟨fun ρ S w i h1 h2 => h.ent ρ S w i b h1 h2, fun ρ i h1 => by rw [h.entb, h1]; rfl⟩
theorem Qsr {ρ : List Loc} : ∀ {cs : List CV} {xs ys : List Value}, Qbr cs = some xs -> RelL ρ cs ys -> ys = xs
 | _, _, _, h, hr => Qcm h hr
theorem MkOk.mk2 {o : Oper} {D : MkD} (h : MkOk P o D) (b : Nat) {e : TypeId} {sz n : Nat} {cs : List CV} {xs : List Value} (he : D.ent = .row e sz n cs) (hx : Qbr cs = some xs) : MkK D b (.app e sz xs (some ⟨b, 0, none⟩) n D.cap) :=
 ⟨fun ρ S w i h1 h2 => by
  have h3 := h.ent ρ S w i b h1 h2
  rw [he] at h3
  obtain ⟨l, arr, hl, hb, hc, hn, hm, hz, hr⟩ := h3
  rw [h1] at hl; cases hl
  have hxs := Qsr hx hr
  exact .inr ⟨b, rfl, arr, (0, 0), ⟨hb, .inl rfl⟩, by rw [<- hxs]; rw [<- Qb9 hr, hc], hn, hm, hz, hxs⟩, fun ρ i h1 => rfl⟩
theorem QAe {ρ0 ρ : List Loc} {S0 S : Nat -> Prop} {H0 H : List Ent} {w0 w : World} {e : Fl} {en : Ent} (hs : Sat ρ S H w) (hev : Ev ρ0 S0 H0 w0 ρ S H w) (he : Hid P ops ρ S H w w0.heap.size e) {D : MkD} (hok : MkK D e.b en) (hb : w.heap[e.b]? = some (.cells D.cells D.T (0, 0))) :
  Sat (ρ ++ [⟨e.b, D.cap⟩]) S (H ++ [en]) w /\ Ev ρ0 S0 H0 w0 (ρ ++ [⟨e.b, D.cap⟩]) S (H ++ [en]) w := by
 have hcase : ∀ (i : Nat) (f : Ent), (H ++ [en])[i]? = some f -> (i < H.length /\ H[i]? = some f) \/ (i = H.length /\ f = en) := fun i f hf => by
  by_cases hi : i < H.length
  ·rw [Zrz hi] at hf; exact .inl ⟨hi, hf⟩
  ·have hi2 : i = H.length := by
    have := (Zfz.1 hf).1
    simp at this; omega
   subst hi2
   simp at hf
   exact .inr ⟨rfl, hf.symm⟩
 have hb2 : ∀ (i : Nat) (f : Ent) (b : Nat), (H ++ [en])[i]? = some f -> entB (ρ ++ [⟨e.b, D.cap⟩]) i f b -> (H[i]? = some f /\ entB ρ i f b) \/ (i = H.length /\ b = e.b) := fun i f b hf hfb => by
  rcases hcase i f hf with ⟨hi, hf'⟩ | ⟨rfl, rfl⟩
  ·rw [Qdb _ (by rw [hs.len]; exact hi)] at hfb
   exact .inl ⟨hf', hfb⟩
  ·refine .inr ⟨rfl, ?_⟩
   rw [hok.entb _ _ (by rw [<- hs.len]; simp)] at hfb
   exact (Zzz hfb).symm
 refine ⟨⟨by simp [hs.len], fun i f hf => ?_, fun i j f g b hf hg hfb hgb => ?_, fun b ⟨i, f, hf, hfb⟩ hS => ?_, hs.low⟩, ⟨?_, hev.os, hev.tape, hev.output, hev.size, hev.keep, hev.imm, fun b ⟨i, f, hf, hfb⟩ => ?_⟩⟩
 ·rcases hcase i f hf with ⟨hi, hf'⟩ | ⟨rfl, rfl⟩
  ·exact (hs.ent i f hf').move [⟨e.b, D.cap⟩] (fun _ _ => rfl) fun _ _ => rfl
  ·exact hok.ent _ _ _ _ (by rw [<- hs.len]; simp) hb
 ·rcases hb2 i f b hf hfb with ⟨a1, a2⟩ | ⟨a1, a2⟩ <;> rcases hb2 j g b hg hgb with ⟨b1, b2⟩ | ⟨b1, b2⟩
  ·exact hs.inj i j f g b a1 b1 a2 b2
  ·exact absurd ⟨i, f, a1, b2 ▸ a2⟩ he.m
  ·exact absurd ⟨j, g, b1, a2 ▸ b2⟩ he.m
  ·omega
 ·rcases hb2 i f b hf hfb with ⟨a1, a2⟩ | ⟨_, a2⟩
  ·exact hs.out b ⟨i, f, a1, a2⟩ hS
  ·exact he.s (a2 ▸ hS)
 ·obtain ⟨t, ht⟩ := hev.pre
  exact ⟨t ++ [⟨e.b, D.cap⟩], by rw [ht, Zuz]⟩
 ·rcases hb2 i f b hf hfb with ⟨a1, a2⟩ | ⟨_, a2⟩
  ·exact hev.own b ⟨i, f, a1, a2⟩
  ·exact .inr (a2 ▸ he.lo)
theorem Qp0 {Q : Exit -> Act -> World -> Prop} {i : Nat} {oi : Oper} {v : Value} (hi : ops[i]? = some oi) (hsel : ∀ (j : Nat) (o : Oper) cs b, ops[j]? = some o -> o.op ≠ .select cs b)
  (hQ : ∀ c a w, Q (.panic c) (a.put oi.dst v) w -> Q (.panic c) a w) :
  ∀ (f : Nat) (ls : Array Bool) (a : Act) (w : World),
   (∀ j oj, ops[j]? = some oj -> j ≠ i -> ls.getD j true = false -> (∀ e ∈ oj.after, Region.binds .any e = true -> e.on ≠ i) -> oi.apart ops oj = true) ->
   i ∈ Region.ready .any ops ls -> YR P ops C oi v a -> AnyC P ops Q C [] f (ls.setIfInBounds i true) (a.put oi.dst v) w -> AnyC P ops Q C [] (f + 1) ls a w := by
 have nl : ∀ ls : Array Bool, ∀ t ∈ ([] : List Nat), ls.getD t false = false := fun _ t h => by cases h
 have own : ∀ (f : Nat) (ls : Array Bool) (a : Act) (w : World), YR P ops C oi v a -> AnyC P ops Q C [] f (ls.setIfInBounds i true) (a.put oi.dst v) w -> wpOp P ops Q i (AnyC P ops Q C [] f (ls.setIfInBounds i true)) a w := fun f ls a w hy hH => by
  unfold wpOp
  simp only [hi]
  rcases hy with ⟨hw, hv⟩ | ⟨hw, rfl⟩
  ·rw [if_pos hw]
   refine .inl ?_
   unfold Oper.wp
   rw [hv w (hH.cls (nl _))]
   exact hH
  ·rw [if_neg (by simp [hw])]; exact hH
 intro f
 induction f with
 | zero =>
  intro ls a w _ hr hy hL
  refine ⟨fun _ => hL.cls (nl _), fun h0 => (by rw [h0] at hr; cases hr), fun j hj => ?_⟩
  by_cases hji : j = i
  ·subst hji; exact own 0 ls a w hy hL
  ·have := ready_mono hj hji; rw [hL.2.1] at this; cases this
 | succ f ih =>
  intro ls a w hfree hr hy hH
  have hun := (mem_ready.1 hr).1
  refine ⟨fun _ => hH.cls (nl _), fun h0 => (by rw [h0] at hr; cases hr), fun j hj => ?_⟩
  by_cases hji : j = i
  ·subst hji; exact own (f + 1) ls a w hy hH
  ·obtain ⟨hjun, oj, hoj, hall⟩ := mem_ready.1 hj
   have hno : ∀ e ∈ oj.after, Region.binds .any e = true -> e.on ≠ i := fun e he hb he2 => by
    have := hall e he hb
    rw [he2, getD_both hun] at this
    cases this
   have h1 := Qn9 hoj (hfree j oj hoj hji hjun hno) (fun cs b => hsel i oi cs b hi) (fun cs b => hsel j oj cs b hoj) hQ hy (hH.2.2 j (ready_mono hj hji))
   refine wpOp_mono (fun a' w' h3 => ih (ls.setIfInBounds j true) a' w' (fun k ok hk hki hun' hno' => ?_) (ready_mono hr (Ne.symm hji)) h3.1 ?_) h1
   ·refine hfree k ok hk hki ?_ hno'
    by_cases hjk : j = k
    ·subst hjk; exact hjun
    ·rw [getD_set_ne true hjk] at hun'; exact hun'
   ·rw [Array.setIfInBounds_comm _ _ hji]; exact h3.2
variable {K : Ex -> List AV -> List Ent -> Prop} {ρ0 : List Loc} {S0 : Nat -> Prop} {H0 : List Ent} {w0 : World} {dfs : List Deferred}
theorem Qee {pre hd hq : List Nat} {tl : List (Nat × Nat)} (cx : Ctx P ops pre hd hq tl) : ∀ (l : List (Nat × Nat)) (s : List AV) (H : List Ent), (∀ w, Qax H w -> C w) -> Qi4 P C kn ops l s H K -> ∀ (rem : List Nat) (lc : Array Bool), tlB .any ops l rem lc = true ->
  ∀ (n : Nat) (E : List Fl), n + E.length = rem.length -> ∀ (ls : Array Bool) (ρ : List Loc) (S : Nat -> Prop) (w : World) (a : Act), Mid P ops pre tl rem w0 lc E ls ρ S H w -> Ev ρ0 S0 H0 w0 ρ S H w -> a.defers = dfs -> Sat ρ S H w -> RelS ρ s a.tmps.toList ->
   AnyC P ops (Post ρ0 S0 H0 w0 dfs K) C [] (l.length - E.length) ls (pt a E) w
 | [], s, H, hC, h, rem, lc, hB, n, E, hn, ls, ρ, S, w, a, m, hev, hdf, hs, hr => by
  simp only [tlB, ZAz, List.isEmpty_iff] at hB
  have hE : E = [] := by rw [hB.1] at hn; simp at hn; exact hn.2
  subst hE
  refine ⟨fun _ => hC w hs.facts, ?_, ρ, S, s, H, .normal, hs, hev, hr, hdf, trivial, h⟩
  rw [List.eq_nil_iff_forall_not_mem]
  intro j hj
  rcases (m.lst.ready (rem := rem) m.sub hj).1 with h1 | h1
  ·rw [hB.1] at h1; rw [show Qa4 lc [] = lc from rfl, hB.2] at h1; cases h1
  ·rw [hB.1] at h1; cases h1
 | (k, q) :: l, s, H, hC, h0, rem, lc, hB, n, E, hn, ls, ρ, S, w, a, m, hev, hdf, hs, hr => by
  have hp : Qfh ops k fun o => Qd3 ops o s (fun s => Qt2 P C (hasN kn k) o s H q (fun av H' => putK s o.dst av fun s' => Qi4 P C kn ops l s' H' K) (fun c H' => K (.pan c) s H')) (fun s => putK s o.dst (.c (.v undef)) fun s' => Qi4 P C kn ops l s' H K) := h0
  obtain ⟨o, ho, hq⟩ := Qc1 hp
  clear hp
  have hkl : k < ops.size := (Zjz.1 ho).1
  have hrl := Qe0 _ _ _ hB m.ndr
  have hEl := m.len
  have hsel := Region.noSelect_spec cx.sel k o
  match q with
  | 0 =>
   simp only [tlB, ZAz, ZBz, Bool.not_eq_true', Zvz] at hB
   obtain ⟨⟨⟨hk1, hk2⟩, hk3⟩, hB⟩ := hB
   have hk1 : k ∈ Region.ready .any ops lc := by simpa using hk1
   have hk3 : k ∉ rem := by intro hm; rw [<- Zvz] at hm; rw [hm] at hk3; cases hk3
   have hrl2 := Qe0 _ _ _ hB m.ndr
   have hkE : k ∉ E.map Fl.i := fun hm => by obtain ⟨e, he, hi⟩ := Zoz.1 hm; exact hk3 (hi ▸ m.sub e he)
   rw [show ((k, 0) :: l).length - E.length = (l.length - E.length) + 1 by simp; omega]
   have hoff := Qgn cx ho hk1 m.pre (fun e he => ⟨(m.rf _ (m.sub e he)).1, (m.rf _ (m.sub e he)).2, fun h => hk3 (h ▸ m.sub e he)⟩) m.hid
   refine ⟨fun _ => hC w hs.facts, fun h1 => absurd (m.lst.own hk1 hkE) (by rw [h1]; simp), fun i hi => ?_⟩
   have hrd := m.lst.ready m.sub hi
   by_cases hik : i = k
   ·subst hik
    refine Qus ho (fun cs b => hsel cs b ho) hoff (fun c a d v w h => Qh7 c a d v w h) ?_
    unfold wpOp
    simp only [ho]
    rcases Qbf hq hr with ⟨hw, s', h', hr'⟩ | ⟨hw, s', h', hr'⟩
    ·rw [if_pos hw]
     refine .inl (Qd4 (K := fun out H' => match out with
      | .val av => Nd (∀ w, Qax H' w -> C w) (putK s' o.dst av fun s2 => Qi4 P C kn ops l s2 H' K)
      | .vals _ => False
      | .pan c => K (.pan c) s' H') h' hs hr' (fun ρ1 S1 H1 w1 av v hs1 hev1 hrel hK => ?_) (fun ρ1 S1 H1 w1 c hs1 hev1 hK => ?_) fun _ _ h => h)
     ·obtain ⟨hC1, hK⟩ := hK
      obtain ⟨s2, hK2, hput⟩ := Qap hK
      have hrs : RelS ρ1 s' a.tmps.toList := by obtain ⟨t, ht⟩ := hev1.pre; rw [ht]; exact Qb5 t hr'
      exact Qee cx l s2 H1 hC1 hK2 rem _ hB n E hn _ ρ1 S1 w1 _ (m.step hkl hk3 hev1) (hev.trans hev1) (by rw [put_defers]; exact hdf) hs1 (hput ρ1 a v hrs hrel)
     ·exact ⟨ρ1, S1, s', H1, .pan c, hs1, hev.trans hev1, trivial, hdf, rfl, hK⟩
    ·rw [if_neg (by simp [hw])]
     obtain ⟨s2, hK2, hput⟩ := Qap h'
     exact Qee cx l s2 H hC hK2 rem _ hB n E hn _ ρ S w _ (m.step hkl hk3 (Ev.refl _ _ _ _)) hev (by rw [put_defers]; exact hdf) hs (hput ρ a undef hr' rfl)
   ·have hir : i ∈ rem := by
     rcases hrd.1 with h1 | h1
     ·rw [hk2] at h1; simp at h1; exact absurd h1 hik
     ·exact h1
    have hEl2 : E.length + 1 <= rem.length := by
     have := nodup_len (b := rem) (a := i :: E.map Fl.i) (Zxz.2 ⟨hrd.2.1, m.ndi⟩) fun x hx => by
      cases hx with
      | head => exact hir
      | tail _ hx => obtain ⟨e, he, rfl⟩ := Zoz.1 hx; exact m.sub e he
     simpa using this
    refine m.others cx hs hev hir hrd.2.1 fun e w1 he hs1 hev1 hm1 => ?_
    have := Qee cx ((k, 0) :: l) s H hC h0 rem lc (by simp only [tlB, ZAz, ZBz]; exact ⟨⟨⟨by simpa using hk1, hk2⟩, by simpa using hk3⟩, hB⟩) (n - 1) (e :: E) (by simp; omega) _ ρ S w1 a hm1 (hev.trans hev1) hdf hs1 hr
    rw [show ((k, 0) :: l).length - (e :: E).length = l.length - E.length by simp] at this
    exact this
  | 1 =>
   simp only [tlB, ZAz, Bool.not_eq_true', Zvz] at hB
   obtain ⟨⟨⟨hk1, hfr⟩, hk3⟩, hB⟩ := hB
   have hk1 : k ∈ Region.ready .any ops lc := by simpa using hk1
   have hk3 : k ∉ rem := by intro hm; rw [<- Zvz] at hm; rw [hm] at hk3; cases hk3
   have hrl2 := Qe0 _ _ _ hB m.ndr
   have hkE : k ∉ E.map Fl.i := fun hm => by obtain ⟨e, he, hi⟩ := Zoz.1 hm; exact hk3 (hi ▸ m.sub e he)
   rw [show ((k, 1) :: l).length - E.length = (l.length - E.length) + 1 by simp; omega]
   have hoff := Qgn cx ho hk1 m.pre (fun e he => ⟨(m.rf _ (m.sub e he)).1, (m.rf _ (m.sub e he)).2, fun h => hk3 (h ▸ m.sub e he)⟩) m.hid
   have hd' : ∀ e ∈ E, o.dst ≠ some e.d := fun e he => (hoff e he).2
   have fin : ∀ (v : Value) (s2 : List AV), Yields P ops o v a -> Qi4 P C kn ops l s2 H K -> RelS ρ s2 (a.put o.dst v).tmps.toList -> AnyC P ops (Post ρ0 S0 H0 w0 dfs K) C [] (l.length - E.length + 1) ls (pt a E) w := fun v s2 hy hK hr2 => by
    have he := Qf3 (ops := ops) (fun cs b => hsel cs b ho) a E hoff
    refine Qg6 ho (Region.noSelect_spec cx.sel) (fun c a w h => h.put) (by simp) _ ls _ w (fun j oj hj hne hun hno => Region.free_spec ho hfr j oj hj hne (m.lst.un hun) hno) (m.lst.own hk1 hkE) (hy.of_same he.1 he.2) ?_
    rw [Qeq _ _ _ _ hd']
    exact Qee cx l s2 H hC hK rem _ hB n E hn _ ρ S w _ (m.step hkl hk3 (Ev.refl _ _ _ _)) hev (by rw [put_defers]; exact hdf) hs hr2
   have finR : ∀ (v : Value) (s2 : List AV), YR P ops C o v a -> Qi4 P C kn ops l s2 H K -> RelS ρ s2 (a.put o.dst v).tmps.toList -> AnyC P ops (Post ρ0 S0 H0 w0 dfs K) C [] (l.length - E.length + 1) ls (pt a E) w := fun v s2 hy hK hr2 => by
    have he := Qf3 (ops := ops) (fun cs b => hsel cs b ho) a E hoff
    refine Qp0 ho (Region.noSelect_spec cx.sel) (fun c a w h => h.put) _ ls _ w (fun j oj hj hne hun hno => Region.free_spec ho hfr j oj hj hne (m.lst.un hun) hno) (m.lst.own hk1 hkE) (hy.same he.1 he.2) ?_
    rw [Qeq _ _ _ _ hd']
    exact Qee cx l s2 H hC hK rem _ hB n E hn _ ρ S w _ (m.step hkl hk3 (Ev.refl _ _ _ _)) hev (by rw [put_defers]; exact hdf) hs hr2
   rcases Qbf hq hr with ⟨hw, s', h', hr'⟩ | ⟨hw, s', h', hr'⟩
   ·by_cases hld : (∃ T x, o.op = .load T x) \/ ∃ T x i, o.op = .indexAddr T x i
    ·have h2 : ∃ x, ReadC P C o s' (fun av => putK s' o.dst av fun s2 => Qi4 P C kn ops l s2 H K) x := by
      have h3 := h'
      unfold Qt2 at h3
      rcases hld with ⟨T, y, hop⟩ | ⟨T, y, i, hop⟩
      ·simp only [hop] at h3
       exact h3
      ·simp only [hop] at h3
       exact h3
     obtain ⟨x, rc⟩ := h2
     obtain ⟨s2, hK2, hput⟩ := Qap rc.next
     refine finR x s2 (.inl ⟨hw, fun w' hw' => ?_⟩) hK2 (hput ρ a x hr' rfl)
     rw [execOp_congr o rc.sel (ρ' := Qat s') fun y hy => Qby hr' _ rc.plain y (Array.mem_toList_iff.2 hy)]
     exact rc.run w' hw'
    ·have h2 : Qfo P o s' fun av => putK s' o.dst av fun s2 => Qi4 P C kn ops l s2 H K := by
      have h3 := h'
      unfold Qt2 at h3
      simp only at h3
      split at h3
      ·rename_i T x hop
       exact absurd (.inl ⟨T, x, hop⟩) hld
      ·rename_i T x i hop
       exact absurd (.inr ⟨T, x, i, hop⟩) hld
      ·exact h3
     obtain ⟨av, v, hK, hrel, hrun⟩ := Qd8 (K := fun av => putK s' o.dst av fun s2 => Qi4 P C kn ops l s2 H K) h2 hr'
     obtain ⟨s2, hK2, hput⟩ := Qap hK
     exact fin v s2 (.inl ⟨hw, hrun⟩) hK2 (hput ρ a v hr' hrel)
   ·obtain ⟨s2, hK2, hput⟩ := Qap h'
    exact fin undef s2 (.inr ⟨hw, rfl⟩) hK2 (hput ρ a undef hr' rfl)
  | q + 2 =>
   have hB0 := hB
   simp only [tlB, ZAz, ZBz, Zvz] at hB
   obtain ⟨⟨hk1, hk2⟩, hB⟩ := hB
   have hk1 : k ∈ rem := by simpa using hk1
   have hrl2 := Qe0 _ _ _ hB (m.ndr.erase k)
   have hle := List.length_erase_of_mem hk1
   have hpos : 0 < rem.length := List.length_pos_of_mem hk1
   obtain ⟨o', d, D, ho', hmk, hg, hdst, haft⟩ := Qci (cx.op k (m.rf k hk1).1)
   have hok := Qu4 hmk
   obtain rfl : o' = o := Zzz (ho'.symm.trans ho)
   have hst : ∀ b : Nat, ∃ en s2, MkK D b en /\ (∀ w, Qax (H ++ [en]) w -> C w) /\ Qi4 P C kn ops l s2 (H ++ [en]) K /\ ∀ (ρ : List Loc) (a : Act), ρ[H.length]? = some ⟨b, D.cap⟩ -> RelS ρ s a.tmps.toList -> RelS ρ s2 (a.put o'.dst (D.val b)).tmps.toList := fun b => by
    have h2 := hq
    unfold Qd3 at h2
    rw [hg] at h2
    unfold Qt2 at h2
    simp only [hmk] at h2
    split at h2
    ·unfold ownD at h2
     rw [Qco, Nat.zero_add] at h2
     obtain ⟨s2, hK2, hput⟩ := Qap h2.next
     exact ⟨D.ent, s2, hok.mk1 b, h2.ok, hK2, fun ρ a hl hr => hput ρ a (D.val b) hr (hok.rel _ _ b hl)⟩
    ·unfold knwD at h2
     split at h2
     rename_i val cells T cap ent av heq
     split at h2
     ·rename_i e sz n cs
      split at h2
      ·rename_i xs hx
       have h3 := h2 b
       rw [Qco] at h3
       obtain ⟨s2, hK2, hput⟩ := Qap h3.next
       exact ⟨_, s2, hok.mk2 b rfl hx, h3.ok, hK2, fun ρ a hl hr => hput ρ a _ hr rfl⟩
      ·exact h2.elim
     ·exact h2.elim
   have mid2 : ∀ (E' : List Fl) (ls' : Array Bool) (ρ1 : List Loc) (S1 : Nat -> Prop) (H1 : List Ent) (w1 : World), Lst ops (lc.setIfInBounds k true) E' ls' -> (∀ e ∈ E', e ∈ E) -> (E'.map Fl.i).Nodup -> (E'.map Fl.d).Nodup -> (E'.map Fl.b).Nodup -> (∀ e ∈ E', e.i ≠ k) -> (∀ e ∈ E', Hid P ops ρ1 S1 H1 w1 w0.heap.size e) ->
     Mid P ops pre tl (rem.erase k) w0 (lc.setIfInBounds k true) E' ls' ρ1 S1 H1 w1 := fun E' ls' ρ1 S1 H1 w1 hl hsub h1 h2 h3b hne hh =>
    ⟨hl, fun j hj => getD_set_true (m.pre j hj), fun e he => (List.mem_erase_of_ne (hne e he)).2 (m.sub e (hsub e he)), h1, h2, h3b, fun i hi => by
     have h3 : i ∈ rem := List.mem_of_mem_erase hi
     have hne' : k ≠ i := fun h => by subst h; exact (List.Nodup.not_mem_erase m.ndr) hi
     exact ⟨(m.rf i h3).1, by rw [getD_set_ne false hne']; exact (m.rf i h3).2⟩, m.ndr.erase k, hh⟩
   by_cases hkE : k ∈ E.map Fl.i
   ·obtain ⟨e, he, hei⟩ := Zoz.1 hkE
    obtain ⟨E', hE'⟩ : ∃ E', E.Perm (e :: E') := by
     obtain ⟨l1, l2, rfl⟩ := List.append_of_mem he
     exact ⟨l1 ++ l2, List.perm_middle⟩
    have hh := m.hid e he
    obtain ⟨oe, De, hoe, hmke, _, hde, hptr, hheap⟩ := hh.op
    rw [hei, ho] at hoe
    obtain rfl := Zzz hoe
    rw [hmk] at hmke; cases hmke
    obtain ⟨en, s2, hmk2, hC2, hK2, hput⟩ := hst e.b
    have hkn := QAe hs hev hh hmk2 hheap
    have hEmem : ∀ e' ∈ E', e' ∈ E := fun e' he' => hE'.mem_iff.2 (by simp [he'])
    have hndi := (hE'.map Fl.i).nodup_iff.1 m.ndi
    have hndd := (hE'.map Fl.d).nodup_iff.1 m.ndd
    have hndb := (hE'.map Fl.b).nodup_iff.1 m.ndb
    have hbne : ∀ e' ∈ E', ¬ mb (ρ ++ [⟨e.b, D.cap⟩]) (H ++ [en]) e'.b := fun e' he' ⟨j, f, hf, hfb⟩ => by
     by_cases hj : j < H.length
     ·rw [Zrz hj] at hf
      rw [Qdb _ (by rw [hs.len]; exact hj)] at hfb
      exact (m.hid e' (hEmem e' he')).m ⟨j, f, hf, hfb⟩
     ·have hj2 : j = H.length := by
       have := (Zfz.1 hf).1
       simp at this; omega
      subst hj2
      simp at hf
      subst hf
      rw [hmk2.entb _ _ (by rw [<- hs.len]; simp)] at hfb
      exact (Zxz.1 hndb).1 (Zoz.2 ⟨e', he', (Zzz hfb).symm⟩)
    have hlen : E.length = E'.length + 1 := by rw [hE'.length_eq]; rfl
    rw [show ((k, q + 2) :: l).length - E.length = l.length - E'.length by simp; omega]
    rw [Quq a hE' m.ndd, pt, Qeq _ _ _ _ (fun e' he' heq => (Zxz.1 hndd).1 (Zoz.2 ⟨e', he', (Zzz heq).symm⟩))]
    have := Qee cx l s2 _ hC2 hK2 (rem.erase k) _ hB n E' (by omega) ls _ S w (a.put (some e.d) e.ptr) (mid2 E' ls _ S _ w (by rw [<- hei]; exact m.lst.take hE' (by rw [hei]; exact hkl)) hEmem (Zxz.1 hndi).2 (Zxz.1 hndd).2 (Zxz.1 hndb).2 (fun e' he' h => (Zxz.1 hndi).1 (by rw [hei, <- h]; exact Zoz.2 ⟨e', he', rfl⟩)) fun e' he' => by
      have h1 := m.hid e' (hEmem e' he')
      exact ⟨h1.op, h1.s, hbne e' he', h1.lo⟩) hkn.2 (by rw [put_defers]; exact hdf) hkn.1 (by
      have h1 := hput (ρ ++ [⟨e.b, D.cap⟩]) a (by rw [<- hs.len]; simp) (Qb5 _ hr)
      rw [hde, <- hptr] at h1
      exact h1)
    exact this
   ·have hEk : ∀ e ∈ E, e.i ∈ rem.erase k := fun e he => (List.mem_erase_of_ne (fun h => hkE (Zoz.2 ⟨e, he, h⟩))).2 (m.sub e he)
    have hEl3 : E.length + 1 <= rem.length := by
     have := nodup_len (b := rem.erase k) m.ndi fun x hx => by obtain ⟨e, he, rfl⟩ := Zoz.1 hx; exact hEk e he
     simp at this; omega
    rw [show ((k, q + 2) :: l).length - E.length = (l.length - E.length) + 1 by simp; omega]
    have hkc : k ∈ Region.ready .any ops lc := mem_ready.2 ⟨getD_in (by rw [m.lst.s2]; exact hkl) (m.rf k hk1).2, o', ho, fun e he hb => by rw [haft e he] at hb; cases hb⟩
    refine ⟨fun _ => hC w hs.facts, fun h1 => absurd (m.lst.own hkc hkE) (by rw [h1]; simp), fun i hi => ?_⟩
    have hrd := m.lst.ready hEk hi
    have hir : i ∈ rem := by
     rcases hrd.1 with h1 | h1
     ·rw [hk2] at h1; simp at h1; rw [h1]; exact hk1
     ·exact List.mem_of_mem_erase h1
    refine m.others cx hs hev hir hrd.2.1 fun e w1 he hs1 hev1 hm1 => ?_
    have := Qee cx ((k, q + 2) :: l) s H hC h0 rem lc hB0 (n - 1) (e :: E) (by simp; omega) _ ρ S w1 a hm1 (hev.trans hev1) hdf hs1 hr
    rw [show ((k, q + 2) :: l).length - (e :: E).length = l.length - E.length by simp] at this
    exact this
termination_by l _ _ _ _ _ _ _ n => (l.length, n)
decreasing_by all_goals (simp_wf; first | omega | (right; omega) | (left; omega))
end
theorem Qku {P : Program} {C : World -> Prop} {kn : List Nat} {ops : Array Oper} (hm : P.follows .mixedOrders = true) {id : Nat} {s : List AV} {H : List Ent} {K : Ex -> List AV -> List Ent -> Prop} {pre : List Nat} {tl : List (Nat × Nat)} (hB : Qrt P .any ops pre tl = true) (hC : ∀ w, Qax H w -> C w)
  (next : Qio P ops pre s fun s1 => Qi4 P C kn ops tl s1 H K) {ρ : List Loc} {S : Nat -> Prop} {w : World} {a : Act} (hs : Sat ρ S H w) (hr : RelS ρ s a.tmps.toList) :
  (Code.region id ops true).wp P (Post ρ S H w a.defers K) a w := by
 simp only [Qrt, ZAz, ZBz] at hB
 obtain ⟨⟨⟨⟨⟨⟨⟨⟨⟨hsel, hlen⟩, hcov⟩, hpt⟩, hwf⟩, hnd⟩, hfl⟩, hfree⟩, hpre⟩, htl⟩ := hB
 have hcov' : ∀ j, j < ops.size -> j ∈ pre \/ j ∈ ([] : List Nat) \/ j ∈ Qak tl \/ j ∈ Qbt tl := fun j hj => by
  have := Zqz.1 hcov j (List.mem_range.2 hj)
  simp only [Bool.or_eq_true, Zvz] at this
  rcases this with h | h
  ·exact .inl h
  ·exact .inr (.inr ((Qda tl j).1 h))
 have hpt' := Qcw hpt
 have inW : ∀ {j}, j ∈ Qbt tl -> j ∈ tl.map Prod.fst := fun h => (Qda tl _).2 (.inr h)
 have inF : ∀ {j}, j ∈ Qak tl -> j ∈ tl.map Prod.fst := fun h => (Qda tl _).2 (.inl h)
 have inv0 : PInv .any ops [] (Qbt tl) (Array.replicate ops.size false) :=
  ⟨by simp, fun j oj _ hl => (by rw [getD_replicate_false] at hl; cases hl), fun t _ => getD_replicate_false _ _, fun k hk => by cases hk⟩
 have hin : ∀ (l : List Nat) (ls : Array Bool), preB .any ops l ls = true -> ∀ k ∈ l, k < ops.size := by
  intro l
  induction l with
  | nil => intro ls _ k hk; cases hk
  | cons x l ih =>
   intro ls h k hk
   simp only [preB, ZAz] at h
   cases hk with
   | head =>
    have hr : x ∈ Region.ready .any ops ls := by simpa using h.1.1
    obtain ⟨_, o, ho, _⟩ := mem_ready.1 hr
    exact (Zjz.1 ho).1
   | tail _ hk => exact ih _ h.2 k hk
 have inv1 := Qh6 (pre0 := pre) pre [] _ inv0 hpre (fun k hk h => hpt' k hk (inW h)) (hin _ _ hpre)
 rw [List.nil_append] at inv1
 have hs1 : (Qa4 (Array.replicate ops.size false) pre).size = ops.size := by rw [Qd6]; simp
 have un1 : ∀ j, j < ops.size -> j ∉ pre -> (Qa4 (Array.replicate ops.size false) pre).getD j false = false := fun j hj hn => by
  rw [Qdl _ _ _ (by simpa using hj), getD_replicate_false]
  simpa using hn
 have cx : Ctx P ops pre [] [] tl := by
  refine ⟨hsel, hcov', (fun j hj h => by cases hj), fun j hj h => Qcw hwf j h hj, (fun j hj h => by cases hj), fun j hj h => hpt' j hj (inF h), fun i hi => Zqz.1 hfl i hi, fun i hi oi hoi k ok hk hne hnp hno => ?_, .inl rfl⟩
  have hkl : k < ops.size := (Zjz.1 hk).1
  exact Region.free_spec hoi (Zqz.1 hfree i hi) k ok hk hne (getD_in (by rw [hs1]; exact hkl) (un1 k hkl hnp)) hno
 refine wp_region_any hm ?_
 have hsz : ops.size = pre.length + tl.length := by omega
 rw [hsz]
 have e0 : Array.replicate (pre.length + tl.length) false = Array.replicate ops.size false := by rw [hsz]
 rw [e0]
 refine Qdf hsel (fun c a d v w h => h.put) (dfs := a.defers) (ρ := ρ) (fun s1 a1 h1 hr1 hd1 => ?_) pre s _ a next hpre rfl hr rfl
 have hfl0 : ∀ i ∈ Qak tl, i < ops.size := fun i hi => by
  obtain ⟨o, _, _, ho, _⟩ := Qci (Zqz.1 hfl i hi)
  exact (Zjz.1 ho).1
 have hmid : Mid P ops pre tl (Qak tl) w (Qa4 (Array.replicate ops.size false) pre) [] (Qa4 (Array.replicate ops.size false) pre) ρ S H { w with drawn := w.drawn + 1 } :=
  ⟨⟨hs1, hs1, fun j => by simp⟩, inv1.pre, fun e he => absurd he (by simp), List.nodup_nil, List.nodup_nil, List.nodup_nil, fun i hi => ⟨hi, un1 i (hfl0 i hi) fun h => hpt' i h (inF hi)⟩, hnd, fun e he => absurd he (by simp)⟩
 exact AnyC.any _ _ _ _ (Qee cx tl s1 H hC h1 _ _ htl (Qak tl).length [] (by simp) _ ρ S _ a1 hmid (Ev.drew ρ S H w) hd1 (hs.heap rfl) hr1)
theorem DrawN.planR {P : Program} {ops : Array Oper} {s : List AV} {H : List Ent} {K : Ex -> List AV -> List Ent -> Prop} (hm : P.follows .mixedOrders = true) (C : World -> Prop) (pre : List Nat) (tl : List (Nat × Nat)) (ok : Qrt P .any ops pre tl = true) (now : ∀ w, Qax H w -> C w)
  (next : Qio P ops pre s fun s1 => Qi4 P C [] ops tl s1 H K) : DrawN P ops s H K :=
 .sem fun _ _ _ _ _ hs hr => Qku hm ok now next hs hr
theorem DrawN.planK {P : Program} {ops : Array Oper} {s : List AV} {H : List Ent} {K : Ex -> List AV -> List Ent -> Prop} (hm : P.follows .mixedOrders = true) (C : World -> Prop) (kn pre : List Nat) (tl : List (Nat × Nat)) (ok : Qrt P .any ops pre tl = true) (now : ∀ w, Qax H w -> C w)
  (next : Qio P ops pre s fun s1 => Qi4 P C kn ops tl s1 H K) : DrawN P ops s H K :=
 .sem fun _ _ _ _ _ hs hr => Qku hm ok now next hs hr
theorem ReadC.idxA {P : Program} {C : World -> Prop} {o : Oper} {s : List AV} {K : AV -> Prop} {T e : TypeId} {inf : TypeInfo} {x i : Operand} {a : Option Addr} {n cap sz : Nat} {kk : IntKind} (k : Nat) (ho : o.op = .indexAddr T x i) (hu : P.underlying T = some (.slice e)) (hi : P.info? e = some inf) (hsz : inf.size = sz)
  (hx : opv s x = .c (.v (.slice a n cap))) (hy : opv s i = .c (.v (.int kk (k : Int)))) (ha : a.isSome = true) (hk : k < n) (next : K (.c (.v (.pointer (some (Qb8 a (k * sz))))))) : ∃ x, ReadC P C o s K x := by
 cases a with
 | none => cases ha
 | some p =>
  refine ⟨.pointer (some (Qb8 (some p) (k * sz))), fun cs b e => (by rw [ho] at e; cases e), by rw [ho]; show Qar s [x, i] = true; simp [Qar, hx, hy], fun w _ => ?_, next⟩
  have hx2 : Qat s x = .slice (some p) n cap := by unfold Qat; rw [hx]
  have hy2 : Qat s i = .int kk (k : Int) := by unfold Qat; rw [hy]
  have h := Qft (P := P) hu hi w p n cap kk (k : Int) ⟨by omega, by omega⟩
  rw [Zdz, hsz] at h
  exact Qb2 ho (by rw [hx2, hy2]; exact h)
end Go.AX
namespace Go.AX
theorem Ql6 : ∀ {H : List Ent} {i : Nat} {e : Ent} {K : List Ent -> Prop}, nthE H i = some e -> Qd5 H i e K -> K H
 | [], _, _, _, h, _ => by cases h
 | x :: H, 0, e, K, h, hk => by
  have : x = e := Zzz h
  subst this
  exact hk
 | x :: H, i + 1, e, K, h, hk => Ql6 (H := H) (i := i) (K := fun ys => K (x :: ys)) h hk
theorem Qn3 {H : List Ent} {e : TypeId} {inf : TypeInfo} {n cap b0 m : Nat} {sa : Option Addr} {K : AV -> List Ent -> Prop} (i : Nat) (xs ys : List Value) (he : nthE H i = some (.app e inf.size xs (some ⟨b0, 0, none⟩) n cap)) (hn : n <= cap) (hsa : 0 < m -> sa.isSome = true)
  (hlen : ys.length = m * inf.size) (hone : ∀ u ∈ ys, oneV u = true) (hok : ∀ w, Qax H w -> ∀ j v, ys[j]? = some v -> w.cell? ((sa.getD default).add j) = some v) (hroom : room n m inf.bytes /\ inf.size ≠ 0)
  (next : ∀ b cap' : Nat, n + m <= cap' -> Qd5 H i (.app e inf.size (xs ++ ys) (some ⟨b, 0, none⟩) (n + m) cap') fun H' => K (.c (.v (.slice (some ⟨b, 0, none⟩) (n + m) cap'))) H') :
  brd (Nat.beq m 0) (Qq3 H (.c (.v (.slice (some ⟨b0, 0, none⟩) n cap))) (Qer (.c (.v (.slice (some ⟨b0, 0, none⟩) n cap))) fun x => K x H)) (Nd (sa.isSome = true) (ApN H (sa.getD default) m inf.size fun news => Qf7 e inf H (.c (.v (.slice (some ⟨b0, 0, none⟩) n cap))) m news K)) := by
 cases m with
 | zero =>
  have h0 : ys = [] := Zez (by omega)
  subst h0
  have := next b0 cap (by omega)
  rw [List.append_nil, Nat.add_zero] at this
  exact ⟨hn, Ql6 he this⟩
 | succ m =>
  refine ⟨hsa (by omega), ⟨ys, hlen, hone, hok, ?_⟩⟩
  exact AppN.grow i xs ys he (Qkv _) ⟨by omega, hroom⟩ fun b c h _ => next b c h
end Go.AX
namespace Go.AX
open Go.ChangeShapes Go.WideShapes Go.ChangeAt Go.RowKit
section
variable {H : Type} {enc : TypeId × Value -> H} {P : Program} {w : World}
variable {fn : Func} {base : Nat} {args : Array Value} {ds : List (DataW H)} {p : List MemPlace}
end
end Go.AX
namespace Go.AX
def Qh3 : List Ent -> List Ent -> List Ent
 | [], _ => []
 | h :: H, [] => h :: Qh3 H []
 | h :: H, .fact _ :: G => h :: Qh3 H G
 | h :: H, .dead :: G => h :: Qh3 H G
 | .fact F :: H, _ :: G => .fact F :: Qh3 H G
 | _ :: H, _ :: G => .dead :: Qh3 H G
theorem Qkp : ∀ H G : List Ent, (Qh3 H G).length = H.length
 | [], _ => rfl
 | _ :: H, [] => by simp [Qh3, Qkp H []]
 | h :: H, g :: G => by cases g <;> cases h <;> simp [Qh3, Qkp H G]
theorem Qgh : ∀ (H G : List Ent) (i : Nat) (e : Ent), (Qh3 H G)[i]? = some e -> H[i]? = some e \/ e = .dead
 | [], _, _, _, h => by cases h
 | h :: H, [], 0, e, he => .inl he
 | h :: H, [], i + 1, e, he => Qgh H [] i e he
 | h :: H, g :: G, 0, e, he => by cases g <;> cases h <;> first | exact .inl he | exact .inr (Zzz he).symm
 | h :: H, g :: G, i + 1, e, he => Qgh H G i e (by cases g <;> cases h <;> exact he)
theorem Qoq : ∀ (H G : List Ent) (i : Nat) (e f : Ent), e.isApp = true -> f.isApp = true -> G[i]? = some e -> (Qh3 H G)[i]? = some f -> False
 | [], _, _, _, _, _, _, _, h => by cases h
 | h :: H, [], _, _, _, _, _, h1, _ => by cases h1
 | h :: H, g :: G, 0, e, f, he, hf, h1, h2 => by
  obtain rfl := Zzz h1
  cases g <;> cases he <;> cases h <;> (obtain rfl := Zzz h2; cases hf)
 | h :: H, g :: G, i + 1, e, f, he, hf, h1, h2 => Qoq H G i e f he hf h1 (by cases g <;> cases h <;> exact h2)
def Qsj (H G : List Ent) : Prop := G.length <= H.length /\ ∀ (i : Nat) (e : Ent), G[i]? = some e -> e = .dead \/ (∃ T sz xs a n cap, e = .app T sz xs a n cap /\ H[i]? = some e) \/ ∃ Γ, e = .fact Γ /\ ∀ w, Qax (Qh3 H G) w -> Γ w
theorem Qj6 {H : List Ent} {b : Nat} (h : appB H b) : ∃ (i : Nat) (e : Ent), H[i]? = some e /\ e.isApp = true /\ ∀ ρ j, entB ρ j e b := by
 rcases h with ⟨T, sz, xs, a, n, cap, h1, h2⟩ | ⟨es, c, h1⟩ | ⟨B, F, h1, h2⟩
 ·obtain ⟨i, hi⟩ := List.getElem?_of_mem h1
  exact ⟨i, _, hi, rfl, fun _ _ => h2⟩
 ·obtain ⟨i, hi⟩ := List.getElem?_of_mem h1
  exact ⟨i, _, hi, rfl, fun _ _ => rfl⟩
 ·obtain ⟨i, hi⟩ := List.getElem?_of_mem h1
  exact ⟨i, _, hi, rfl, fun _ _ => h2⟩
theorem Sat.dull {ρ : List Loc} {S : Nat -> Prop} {H G : List Ent} {w : World} (h : Sat ρ S H w) (hl : G.length = H.length) (hg : ∀ (i : Nat) (e : Ent), G[i]? = some e -> H[i]? = some e \/ e = .dead) : Sat ρ S G w := by
 have hb : ∀ (i : Nat) (e : Ent) (b : Nat), G[i]? = some e -> entB ρ i e b -> H[i]? = some e := fun i e b he hb => by
  rcases hg i e he with h1 | rfl
  ·exact h1
  ·cases hb
 refine ⟨by rw [h.len, hl], fun i e he => ?_, fun i j e f b he hf h1 h2 => h.inj i j e f b (hb i e b he h1) (hb j f b hf h2) h1 h2, fun b ⟨i, e, he, h1⟩ => h.out b ⟨i, e, hb i e b he h1, h1⟩, h.low⟩
 rcases hg i e he with h1 | rfl
 ·exact h.ent i e h1
 ·trivial
theorem Sat.sealP {ρ : List Loc} {S : Nat -> Prop} {H G : List Ent} {w : World} (h : Sat ρ S H w) (hG : Qsj H G) :
  Sat (ρ.take G.length) (fun b => S b \/ appB (Qh3 H G) b) G w /\ (∀ ρ' b, mb ρ' G b -> mb ρ H b) := by
 obtain ⟨hl, hG⟩ := hG
 have h1 := h.dull (Qkp H G) (Qgh H G)
 have hno : ∀ (ρ' : List Loc) (i : Nat) (e : Ent) (b : Nat), G[i]? = some e -> entB ρ' i e b -> H[i]? = some e /\ entB ρ i e b /\ ∃ T sz xs a n cap, e = .app T sz xs a n cap := fun ρ' i e b he hb => by
  rcases hG i e he with rfl | ⟨T, sz, xs, a, n, cap, rfl, h2⟩ | ⟨Γ, rfl, _⟩
  ·cases hb
  ·exact ⟨h2, hb, T, sz, xs, a, n, cap, rfl⟩
  ·cases hb
 refine ⟨⟨by rw [List.length_take, h.len]; omega, fun i e he => ?_, fun i j e f b he hf hb hc => ?_, fun b ⟨i, e, he, hb⟩ hS => ?_, fun b hb => ?_⟩, fun ρ' b ⟨i, e, he, hb⟩ => ?_⟩
 ·rcases hG i e he with rfl | ⟨T, sz, xs, a, n, cap, rfl, h2⟩ | ⟨Γ, rfl, hΓ⟩
  ·trivial
  ·exact h.ent i _ h2
  ·exact h1.imm.mono hΓ
 ·obtain ⟨a1, a2, _⟩ := hno _ i e b he hb
  obtain ⟨b1, b2, _⟩ := hno _ j f b hf hc
  exact h.inj i j e f b a1 b1 a2 b2
 ·obtain ⟨a1, a2, T, sz, xs, a, n, cap, rfl⟩ := hno _ i e b he hb
  rcases hS with hS | hS
  ·exact h.out b ⟨i, _, a1, a2⟩ hS
  ·obtain ⟨j, f, hf, hfa, hfb⟩ := Qj6 hS
   rcases Qgh H G j f hf with hH | rfl
   ·obtain rfl := h.inj i j _ f b a1 hH a2 (hfb ρ j)
    exact Qoq H G i _ f rfl hfa he hf
   ·cases hfa
 ·rcases hb with hb | hb
  ·exact h.low b hb
  ·obtain ⟨i, e, he, heb⟩ := Qn4 (ρ := ρ) hb
   exact h1.blk_lt he heb
 ·obtain ⟨a1, a2, _⟩ := hno _ i e b he hb
  exact ⟨i, e, a1, a2⟩
theorem SpecH.sealP {P : Program} {f : FuncId} {args : List AV} {H : List Ent} {K : Out -> List Ent -> Prop} (h : SpecH P f args H fun out H' => ∃ G, H.length <= G.length /\ Qsj H' G /\ (∃ v, out = .val (.c (.v v))) /\ K out G) : SpecH P f args H K := by
 refine ⟨h.ok, fun ρ S w vs hs hr => (h.run ρ S w vs hs hr).mono fun e w' ⟨ρ', S', H', out, hs', hev, hout, G, hl, hG, ⟨v, hx⟩, hK⟩ => ?_⟩
 subst hx
 obtain ⟨h1, h2⟩ := hs'.sealP hG
 refine ⟨ρ'.take G.length, _, G, .val (.c (.v v)), h1, ⟨?_, hev.os, hev.tape, hev.output, hev.size, hev.keep, fun b hb => ?_, fun b hb => hev.own b (h2 _ b hb)⟩, hout, hK⟩
 ·obtain ⟨t, ht⟩ := hev.pre
  refine ⟨t.take (G.length - ρ.length), ?_⟩
  rw [ht, List.take_append, Zpz (by rw [hs.len]; exact hl)]
 ·rcases hb with hb | hb
  ·exact hev.imm b hb
  ·obtain ⟨j, f, hf, hfa, hfb⟩ := Qj6 hb
   rcases Qgh H' G j f hf with hH | rfl
   ·rcases hev.own b ⟨j, f, hH, hfb _ _⟩ with h3 | h3
    ·exact .inr (.inl h3)
    ·exact .inr (.inr h3)
   ·cases hfa
end Go.AX
namespace Go.AX
theorem BlindW.len {P : Program} {o : Oper} {s : List AV} {K : AV -> Prop} {x : Operand} {T e : TypeId} {args : Array Operand} {ts : Array TypeId} {p : Option Addr} {n c : Nat} (ho : o.op = .call { callee := .builtin .len, args := args, argTypes := ts }) (ha : args = #[x]) (ht : ts = #[T]) (hu : P.underlying T = some (.slice e))
  (hx : opv s x = .c (.v (.slice p n c))) (hk : K (.c (.v (.int .i64 (n : Int))))) : ∃ x, BlindW P o s K x := by
 subst ha ht
 refine ⟨.int .i64 (n : Int), ?_, fun w => Qcd ho fun consts => ?_, hk⟩
 ·rw [ho]
  show Qar s [x] = true
  simp [Qar, hx]
 ·have he : Qat s x = .slice p n c := by unfold Qat; rw [hx]
  simp [builtin, Builtin.len_, run_underlying hu, he, goInt]
end Go.AX
namespace Go.Core
structure Qaj where
 c : Cell
 na : Option Addr
 nc : Nat
 ia : Option Addr
 ic : Nat
end Go.Core
namespace Go.Proofs.YtgogonnnojcioaaGreatDoor
open Go.AX Go.RowKit Go.Core
set_option maxRecDepth 20000
def strC (l : List (List UInt8)) : List Value := l.map fun s => .string (bs s)
def iC (l : List Int) : List Value := l.map fun x => .int .i64 x
theorem Qcz {l : List (List UInt8)} {i : Nat} {s : List UInt8} (h : l[i]? = some s) : (strC l)[i]? = some (.string (bs s)) := by
 unfold strC; rw [List.getElem?_map, h]; rfl
theorem Qcb {l : List Int} {i : Nat} {x : Int} (h : l[i]? = some x) : (iC l)[i]? = some (.int .i64 x) := by
 unfold iC; rw [List.getElem?_map, h]; rfl
def Qa2 (p : Qaj) : List Value := [.int .i64 p.c.kind, .int .i64 p.c.num, .string (bs p.c.text), .slice p.na p.c.names.length p.nc, .slice p.ia p.c.items.length p.ic]
def grC (l : List Qaj) : List Value := l.flatMap Qa2
theorem Qau (l : List Qaj) (i j : Nat) {p : Qaj} (hj : j < 5) (h : l[i]? = some p) : (grC l)[i * 5 + j]? = (Qa2 p)[j]? := by
 unfold grC
 rw [Qsb (m := 5) (fun _ => rfl) l i j hj, h]
 rfl
structure Qa5 (p : Qaj) : Prop where
 na : p.na = none -> p.c.names = []
 ia : p.ia = none -> p.c.items = []
 nl : p.c.names.length <= 200000000000000
 il : p.c.items.length <= 200000000000000
 nw : ∀ s ∈ p.c.names, s.length <= 200000000000000
 tl : p.c.text.length <= 200000000000000
 nb : p.c.names.length <= p.nc
 ib : p.c.items.length <= p.ic
def Qbn (p : Qaj) (w : World) : Prop := SlAt p.na (p.c.names.length * 1) (strC p.c.names) w /\ SlAt p.ia (p.c.items.length * 1) (iC p.c.items) w
def GrF (a : Option Addr) (l : List Qaj) (w : World) : Prop := SlAt a (l.length * 5) (grC l) w /\ ∀ p ∈ l, Qbn p w
end Go.Proofs.YtgogonnnojcioaaGreatDoor
namespace Go.AX
open Go.ChangeShapes Go.WideShapes Go.ChangeAt Go.RowKit
section
variable {H : Type} {enc : TypeId × Value -> H} {P : Program} {w : World}
end
end Go.AX
namespace Go.AX
open Go.ChangeShapes Go.WideShapes Go.ChangeAt Go.RowKit
section
variable {H : Type} {enc : TypeId × Value -> H} {P : Program} {w : World}
end
theorem Imm.all {α : Type} {S : Nat -> Prop} {w : World} {l : List α} {F : α -> World -> Prop} (h : ∀ x ∈ l, Imm S w (F x)) : Imm S w fun w => ∀ x ∈ l, F x w :=
 ⟨fun x hx => (h x hx).1, fun w' hw x hx => (h x hx).2 w' hw⟩
end Go.AX
namespace Go.Proofs.YtgogonnnojcioaaGreatDoor
open Go.ChangeShapes Go.WideShapes Go.ChangeAt Go.RowKit Go.AX Go.Core
set_option maxRecDepth 100000
def Qsy : List (String × DataW Unit) := [("unicode/utf8.acceptRanges", Rows.laid_unicode_utf8_acceptRanges), ("unicode/utf8.first", Rows.laid_unicode_utf8_first)]
theorem Qxa (os : Os) (args : Array Value) : laidMetH Tryz.prog Qsy ((World.laidAll Tryz.prog os Qsy).forCall (fun _ _ => 0) ⟨#[], args, []⟩).memory := by
 rw [MakeChecks.laidMetH_plain _ _ _ (by kernel_rfl)]; exact laidMet_laidAll _ (by kernel_rfl) (by kernel_rfl)
end Go.Proofs.YtgogonnnojcioaaGreatDoor
namespace Go.Proofs.YtgogonnnojcioaaGreatDoor
open Go.AX Go.RowKit Go.Core
set_option maxRecDepth 20000
def idx {α : Type} (f : α -> Bool) : List α -> Nat -> Int
 | [], _ => -1
 | o :: l, i => if f o then (i : Int) else idx f l (i + 1)
theorem Qnq {α : Type} (f : α -> Bool) : ∀ (l : List α) (i : Nat), (idx f l i = -1 /\ l.any f = false) \/ ((i : Int) <= idx f l i /\ idx f l i < i + l.length /\ l.any f = true)
 | [], _ => .inl ⟨rfl, rfl⟩
 | o :: l, i => by
  unfold idx
  cases h : f o with
  | true => exact .inr ⟨by simp, by simp only [if_true, Znz]; omega, by simp [h]⟩
  | false =>
   rcases Qnq f l (i + 1) with ⟨h1, h2⟩ | ⟨h1, h2, h3⟩
   ·exact .inl ⟨by simpa using h1, by simp [h, h2]⟩
   ·refine .inr ⟨?_, ?_, by simp [h, h3]⟩
    ·simp only [Bool.false_eq_true, if_false]; omega
    ·simp only [Bool.false_eq_true, if_false, Znz]; omega
theorem Qr6 {α : Type} (f : α -> Bool) (l : List α) (i : Nat) {o : α} (h : l[i]? = some o) : idx f (l.drop i) i = if f o then (i : Int) else idx f (l.drop (i + 1)) (i + 1) := by
 obtain ⟨hlt, hx⟩ := Zfz.1 h
 rw [List.drop_eq_getElem_cons hlt, hx]
 rfl
set_option maxHeartbeats 1000000 in
theorem Qxo (f : Int -> Bool) (g : Nat) (caps : Array Value) (F : World -> Prop) (a : Option Addr) (cap : Nat) (l : List Int) (hf : ∀ p ∈ l, ∀ H, (∀ w, Qax H w -> F w) -> SpecH Tryz.prog g (pvs [.int .i64 p] ++ pvs caps.toList) H (Ret (.bool (f p)) H)) (ha : a = none -> l = []) (hl : l.length <= 200000000000000) : ∀ H, (∀ w, Qax H w -> SlAt a (l.length * 1) (iC l) w /\ F w) ->
  SpecH Tryz.prog 95 (pvs [.slice a l.length cap, .func (.func g) #[] caps]) H (Ret (.int .i64 (idx f l 0)) H) := by
 refine Qem hm Tryz.func95 (by kernel_rfl) rfl rfl ?_
 refine wX ?_
 refine Qdu Nat (fun i => i <= l.length /\ idx f l 0 = idx f (l.drop i) i) (fun i => mkS Tryz.f95.ntmps 0 [(0, .c (.v (.slice a l.length cap))), (1, .c (.v (.func (.func g) #[] caps))), (7, .c (.v (.int .i64 (l.length : Int)))), (8, .c (.v (.int .i64 (i : Int))))]) (fun i => l.length - i) rfl (fun _ => rfl) 0 ⟨Zkz _, rfl⟩ ?_ fun i ⟨hi, he⟩ => ?_
 ·exact wKK
 refine wX ?_
 refine Qab (fun h1 => ?_) (fun h1 => ?_)
 ·obtain ⟨p, ho⟩ : ∃ o, l[i]? = some o := ⟨_, Zbz (by omega)⟩
  have hd := Qr6 f l i ho
  have hsa : a.isSome = true := by
   cases a with
   | none => rw [ha rfl] at ho; cases ho
   | some b => rfl
  refine wX ?_
  refine Nd.mk ⟨hsa, by omega, by omega⟩ ?_
  refine wX ?_
  refine LdN.one (.int .i64 p) rfl (fun w hw => hw.1.1) (by rw [Zdz]; show (iC l)[i * 1]? = _; rw [Nat.mul_one]; exact Qcb ho) ?_
  refine wX ?_
  refine Qao (hf p (Ziz ho) _ (fun w hw => hw.1.2)) ?_
  cases hfo : f p with
  | true =>
   rw [hfo] at hd
   rw [he, hd]
   refine wX ?_
   rfl
  | false =>
   rw [hfo] at hd
   refine wX ?_
   refine ⟨i + 1, ⟨by omega, by rw [he, hd]; rfl⟩, by omega, ?_, wHH⟩
   exact wKK
 ·have hin : i = l.length := by omega
  subst hin
  rw [he, List.drop_of_length_le (Zcz _)]
  refine wX ?_
  rfl
theorem Qyg (f : Int -> Bool) (g : Nat) (caps : Array Value) (F : World -> Prop) (a : Option Addr) (cap : Nat) (l : List Int) (hf : ∀ p ∈ l, ∀ H, (∀ w, Qax H w -> F w) -> SpecH Tryz.prog g (pvs [.int .i64 p] ++ pvs caps.toList) H (Ret (.bool (f p)) H)) (ha : a = none -> l = []) (hl : l.length <= 200000000000000) : ∀ H, (∀ w, Qax H w -> SlAt a (l.length * 1) (iC l) w /\ F w) ->
  SpecH Tryz.prog 79 (pvs [.slice a l.length cap, .func (.func g) #[] caps]) H (Ret (.bool (l.any f)) H) := by
 refine Qem hm Tryz.func79 (by kernel_rfl) rfl rfl ?_
 refine wX ?_
 refine Qao (Qxo f g caps F a cap l hf ha hl _ (fun w hw => hw.1)) ?_
 refine wX ?_
 rcases Qnq f l 0 with ⟨h1, h2⟩ | ⟨h1, h2, h3⟩
 ·rw [h1, h2]
  rfl
 ·rw [h3]
  exact Qac (decide_eq_true (by omega))
set_option maxHeartbeats 1000000 in
theorem Qxn (f : (List UInt8) -> Bool) (g : Nat) (caps : Array Value) (F : World -> Prop) (a : Option Addr) (cap : Nat) (l : List (List UInt8)) (hf : ∀ p ∈ l, ∀ H, (∀ w, Qax H w -> F w) -> SpecH Tryz.prog g (pvs [.string (bs p)] ++ pvs caps.toList) H (Ret (.bool (f p)) H)) (ha : a = none -> l = []) (hl : l.length <= 200000000000000) : ∀ H, (∀ w, Qax H w -> SlAt a (l.length * 1) (strC l) w /\ F w) ->
  SpecH Tryz.prog 136 (pvs [.slice a l.length cap, .func (.func g) #[] caps]) H (Ret (.int .i64 (idx f l 0)) H) := by
 refine Qem hm Tryz.func136 (by kernel_rfl) rfl rfl ?_
 refine wX ?_
 refine Qdu Nat (fun i => i <= l.length /\ idx f l 0 = idx f (l.drop i) i) (fun i => mkS Tryz.f136.ntmps 0 [(0, .c (.v (.slice a l.length cap))), (1, .c (.v (.func (.func g) #[] caps))), (7, .c (.v (.int .i64 (l.length : Int)))), (8, .c (.v (.int .i64 (i : Int))))]) (fun i => l.length - i) rfl (fun _ => rfl) 0 ⟨Zkz _, rfl⟩ ?_ fun i ⟨hi, he⟩ => ?_
 ·exact wKK
 refine wX ?_
 refine Qab (fun h1 => ?_) (fun h1 => ?_)
 ·obtain ⟨p, ho⟩ : ∃ o, l[i]? = some o := ⟨_, Zbz (by omega)⟩
  have hd := Qr6 f l i ho
  have hsa : a.isSome = true := by
   cases a with
   | none => rw [ha rfl] at ho; cases ho
   | some b => rfl
  refine wX ?_
  refine Nd.mk ⟨hsa, by omega, by omega⟩ ?_
  refine wX ?_
  refine LdN.one (.string (bs p)) rfl (fun w hw => hw.1.1) (by rw [Zdz]; show (strC l)[i * 1]? = _; rw [Nat.mul_one]; exact Qcz ho) ?_
  refine wX ?_
  refine Qao (hf p (Ziz ho) _ (fun w hw => hw.1.2)) ?_
  cases hfo : f p with
  | true =>
   rw [hfo] at hd
   rw [he, hd]
   refine wX ?_
   rfl
  | false =>
   rw [hfo] at hd
   refine wX ?_
   refine ⟨i + 1, ⟨by omega, by rw [he, hd]; rfl⟩, by omega, ?_, wHH⟩
   exact wKK
 ·have hin : i = l.length := by omega
  subst hin
  rw [he, List.drop_of_length_le (Zcz _)]
  refine wX ?_
  rfl
theorem Qyf (f : (List UInt8) -> Bool) (g : Nat) (caps : Array Value) (F : World -> Prop) (a : Option Addr) (cap : Nat) (l : List (List UInt8)) (hf : ∀ p ∈ l, ∀ H, (∀ w, Qax H w -> F w) -> SpecH Tryz.prog g (pvs [.string (bs p)] ++ pvs caps.toList) H (Ret (.bool (f p)) H)) (ha : a = none -> l = []) (hl : l.length <= 200000000000000) : ∀ H, (∀ w, Qax H w -> SlAt a (l.length * 1) (strC l) w /\ F w) ->
  SpecH Tryz.prog 113 (pvs [.slice a l.length cap, .func (.func g) #[] caps]) H (Ret (.bool (l.any f)) H) := by
 refine Qem hm Tryz.func113 (by kernel_rfl) rfl rfl ?_
 refine wX ?_
 refine Qao (Qxn f g caps F a cap l hf ha hl _ (fun w hw => hw.1)) ?_
 refine wX ?_
 rcases Qnq f l 0 with ⟨h1, h2⟩ | ⟨h1, h2, h3⟩
 ·rw [h1, h2]
  rfl
 ·rw [h3]
  exact Qac (decide_eq_true (by omega))
end Go.Proofs.YtgogonnnojcioaaGreatDoor
namespace Go.Core
def Qd7 (x y : Cell) : Bool := Qpb x && x.kind == y.kind && x.num == y.num && x.text == y.text
end Go.Core
namespace Go.Proofs.YtgogonnnojcioaaGreatDoor
open Go.AX Go.RowKit Go.Core
set_option maxRecDepth 20000
theorem Qeb (k : Int) : ∀ H, SpecH Tryz.prog 109 (pvs [.int .i64 k]) H (Ret (.bool (decide (k <= 5))) H) := by
 refine Qd1 hm Tryz.func109 (by kernel_rfl) rfl rfl ?_
 exact wZ
def Qpv (p : Qaj) : Value := .agg #[.int .i64 p.c.kind, .int .i64 p.c.num, .string (bs p.c.text), .slice p.na p.c.names.length p.nc, .slice p.ia p.c.items.length p.ic]
theorem Qg9 (p : Qaj) : ∀ H, SpecH Tryz.prog 75 (pvs [Qpv p]) H (Ret (.bool (Qpb p.c)) H) := by
 refine Qd1 hm Tryz.func75 (by kernel_rfl) rfl rfl ?_
 refine wX ?_
 rfl
theorem Ql1 (a b : List UInt8) : ((bs a).data.toList == (bs b).data.toList) = (a == b) := by rw [Qbx, Qbx]
set_option maxHeartbeats 1000000 in
theorem Qwt (a : Option Addr) (c : Nat) (l : List Qaj) (i j : Nat) (p q : Qaj) (hp : l[i]? = some p) (hq : l[j]? = some q) (ha : a = none -> l = []) (hl : l.length <= 200000000000000) : ∀ H, (∀ w, Qax H w -> GrF a l w) -> SpecH Tryz.prog 116 (pvs [.slice a l.length c, .int .i64 (i : Int), .int .i64 (j : Int)]) H (Ret (.bool (decide ((i : Int) = j) || Qd7 p.c q.c)) H) := by
 refine Qem hm Tryz.func116 (by kernel_rfl) rfl rfl ?_
 have hil := (Zfz.1 hp).1
 have hjl := (Zfz.1 hq).1
 have hsa : a.isSome = true := by
  cases a with
  | none => rw [ha rfl] at hp; cases hp
  | some b => rfl
 refine wX ?_
 refine DrawN.planR hm (fun w => SlAt a (l.length * 5) (grC l) w) [0, 1, 4, 5] [(2, 1), (3, 1), (6, 1), (7, 1), (8, 2), (9, 2), (10, 0), (11, 0)] (by decide +kernel) (fun w hw => hw.1.1) ?_
 ((conv => whnf); (repeat ((first | refine Nd.mk (fun w hw => hw.1.1) ?_ | refine VrN.norm (Qaf (by omega)) ?_ | refine VrN.keep ?_ | refine DrawN.calm (by decide +kernel) ?_ | refine Nd.mk (by decide +kernel) ?_ | refine Nd.mk (by omega) ?_ | refine RdN.intro _ rfl (by rfl) ?_); (conv => whnf))))
 refine ReadC.idxA (e := 57) (sz := 5) i rfl Tryz.underlying23 rfl rfl rfl rfl hsa hil ?_
 ((conv => whnf); (repeat ((first | refine Nd.mk (fun w hw => hw.1.1) ?_ | refine VrN.norm (Qaf (by omega)) ?_ | refine VrN.keep ?_ | refine DrawN.calm (by decide +kernel) ?_ | refine Nd.mk (by decide +kernel) ?_ | refine Nd.mk (by omega) ?_ | refine RdN.intro _ rfl (by rfl) ?_); (conv => whnf))))
 refine ReadC.agg (Qa2 p) rfl rfl rfl (fun w hw => hw) rfl (fun k hk => Qau l i k hk hp) ?_
 ((conv => whnf); (repeat ((first | refine Nd.mk (fun w hw => hw.1.1) ?_ | refine VrN.norm (Qaf (by omega)) ?_ | refine VrN.keep ?_ | refine DrawN.calm (by decide +kernel) ?_ | refine Nd.mk (by decide +kernel) ?_ | refine Nd.mk (by omega) ?_ | refine RdN.intro _ rfl (by rfl) ?_); (conv => whnf))))
 refine ReadC.idxA (e := 57) (sz := 5) j rfl Tryz.underlying23 rfl rfl rfl rfl hsa hjl ?_
 ((conv => whnf); (repeat ((first | refine Nd.mk (fun w hw => hw.1.1) ?_ | refine VrN.norm (Qaf (by omega)) ?_ | refine VrN.keep ?_ | refine DrawN.calm (by decide +kernel) ?_ | refine Nd.mk (by decide +kernel) ?_ | refine Nd.mk (by omega) ?_ | refine RdN.intro _ rfl (by rfl) ?_); (conv => whnf))))
 refine ReadC.agg (Qa2 q) rfl rfl rfl (fun w hw => hw) rfl (fun k hk => Qau l j k hk hq) ?_
 ((conv => whnf); (repeat ((first | refine Nd.mk (fun w hw => hw.1.1) ?_ | refine VrN.norm (Qaf (by omega)) ?_ | refine VrN.keep ?_ | refine DrawN.calm (by decide +kernel) ?_ | refine Nd.mk (by decide +kernel) ?_ | refine Nd.mk (by omega) ?_ | refine RdN.intro _ rfl (by rfl) ?_); (conv => whnf))))
 refine Qa0 (fun hab => ?_) (fun hab => ?_)
 ·refine wX ?_
  exact Qac (by simp [hab])
 ·refine wX ?_
  refine Qao (Qeb p.c.kind _) ?_
  rw [show decide (p.c.kind <= 5) = Qpb p.c from rfl]
  cases hl : Qpb p.c with
  | false =>
   refine wX ?_
   exact Qac (by unfold Qd7; rw [hl]; simp [hab])
  | true =>
   refine wX ?_
   refine Qa0 (fun h1 => ?_) (fun h1 => ?_)
   ·refine wX ?_
    refine Qa0 (fun h2 => ?_) (fun h2 => ?_)
    ·refine wX ?_
     exact Qac (by unfold Qd7; rw [hl, Ql1]; simp [hab, h1, h2])
    ·refine wX ?_
     exact Qac (by unfold Qd7; rw [hl]; simp [hab, h1, h2])
   ·refine wX ?_
    exact Qac (by unfold Qd7; rw [hl]; simp [hab, h1])
theorem Qz9 (a : Option Addr) (c : Nat) (l : List Qaj) (i j : Nat) (p q : Qaj) (hp : l[i]? = some p) (hq : l[j]? = some q) (ha : a = none -> l = []) (hl : l.length <= 200000000000000) : ∀ H, (∀ w, Qax H w -> GrF a l w) -> SpecH Tryz.prog 52 (pvs [.slice a l.length c, .int .i64 (i : Int), .int .i64 (j : Int)]) H (Ret (.bool (decide ((i : Int) = j) || Qd7 p.c q.c)) H) := by
 refine Qem hm Tryz.func52 (by kernel_rfl) rfl rfl ?_
 have hil := (Zfz.1 hp).1
 have hjl := (Zfz.1 hq).1
 have hsa : a.isSome = true := by
  cases a with
  | none => rw [ha rfl] at hp; cases hp
  | some b => rfl
 refine wX ?_
 refine Nd.mk ⟨hsa, by omega, by omega⟩ ?_
 refine wX ?_
 refine LdN.agg (Qa2 p) rfl (fun w hw => hw.1.1) rfl (fun k hk => by rw [Zdz]; exact Qau l i k hk hp) ?_
 refine wX ?_
 refine Nd.mk ⟨hsa, by omega, by omega⟩ ?_
 refine wX ?_
 refine LdN.agg (Qa2 q) rfl (fun w hw => hw.1.1) rfl (fun k hk => by rw [Zdz]; exact Qau l j k hk hq) ?_
 refine wX ?_
 refine Qa0 (fun hab => ?_) (fun hab => ?_)
 ·refine wX ?_
  exact Qac (by simp [hab])
 ·refine wX ?_
  refine Qao (Qg9 p _) ?_
  cases hl : Qpb p.c with
  | false =>
   refine wX ?_
   exact Qac (by unfold Qd7; rw [hl]; simp [hab])
  | true =>
   refine wX ?_
   refine Qa0 (fun h1 => ?_) (fun h1 => ?_)
   ·refine wX ?_
    refine Qa0 (fun h2 => ?_) (fun h2 => ?_)
    ·refine wX ?_
     exact Qac (by unfold Qd7; rw [hl, Ql1]; simp [hab, h1, h2])
    ·refine wX ?_
     exact Qac (by unfold Qd7; rw [hl]; simp [hab, h1, h2])
   ·refine wX ?_
    exact Qac (by unfold Qd7; rw [hl]; simp [hab, h1])
end Go.Proofs.YtgogonnnojcioaaGreatDoor
namespace Go.Proofs.YtgogonnnojcioaaGreatDoor
open Go.AX Go.RowKit Go.Core
set_option maxRecDepth 20000
theorem Qg7 {x y : Cell} (h : ¬ (x.kind = y.kind /\ x.num = y.num /\ x.text = y.text /\ x.names = y.names /\ x.items.length = y.items.length)) : Qgy x y = false := by
 cases hb : Qgy x y with
 | false => rfl
 | true => exact absurd (Qsi hb) h
theorem Qww {l m : List (List UInt8)} {i : Nat} (h : l.take i = m.take i) {s t : List UInt8} (hs : l[i]? = some s) (ht : m[i]? = some t) (e : s = t) : l.take (i + 1) = m.take (i + 1) := by
 rw [List.take_add_one, List.take_add_one, h, hs, ht, e]
set_option maxHeartbeats 1000000 in
theorem Qzm (p q : Qaj) (hp : Qa5 p) (hq : Qa5 q) : ∀ H, (∀ w, Qax H w -> Qbn p w /\ Qbn q w) -> SpecH Tryz.prog 48 (pvs [Qpv p, Qpv q]) H (Ret (.bool (Qgy p.c q.c)) H) := by
 refine Qem hm Tryz.func48 (by kernel_rfl) rfl rfl ?_
 have hnl := hp.nl
 have hnl2 := hq.nl
 refine wX ?_
 refine Qbb (fun h1 => ?_) (fun h1 => ?_)
 ·refine wX ?_
  exact Qac (Qg7 (fun h => h1 h.1)).symm
 refine wX ?_
 refine Qbb (fun h2 => ?_) (fun h2 => ?_)
 ·refine wX ?_
  exact Qac (Qg7 (fun h => h2 h.2.1)).symm
 refine wX ?_
 rw [bne, Ql1]
 cases h3 : p.c.text == q.c.text with
 | false =>
  refine wX ?_
  exact Qac (Qg7 (fun h => by rw [h.2.2.1] at h3; simp at h3)).symm
 | true =>
  have h3' : p.c.text = q.c.text := eq_of_beq h3
  refine wX ?_
  refine Qbb (fun h4 => ?_) (fun h4 => ?_)
  ·refine wX ?_
   exact Qac (Qg7 (fun h => h4 (by rw [h.2.2.2.2]))).symm
  refine wX ?_
  refine Qbb (fun h5 => ?_) (fun h5 => ?_)
  ·refine wX ?_
   exact Qac (Qg7 (fun h => h5 (by rw [h.2.2.2.1]))).symm
  have hlen : p.c.names.length = q.c.names.length := by omega
  refine wX ?_
  refine Qdu Nat (fun i => i <= p.c.names.length /\ p.c.names.take i = q.c.names.take i) (fun i => mkS Tryz.f48.ntmps 0 [(2, .c (.lp 1 0)), (3, .c (.lp 2 0)), (5, .c (.v (.int .i64 (i : Int))))]) (fun i => p.c.names.length - i) rfl (fun _ => rfl) 0 ⟨Zkz _, rfl⟩ ?_ ?_
  ·exact wKK
  intro i ⟨hi, he⟩
  refine wX ?_
  refine Qab (fun h6 => ?_) (fun h6 => ?_)
  ·obtain ⟨s, hs⟩ : ∃ s, p.c.names[i]? = some s := ⟨_, Zbz (by omega)⟩
   obtain ⟨t, ht⟩ : ∃ t, q.c.names[i]? = some t := ⟨_, Zbz (by omega)⟩
   have hsa : p.na.isSome = true := by
    cases hna : p.na with
    | none => rw [hp.na hna] at hs; cases hs
    | some b => rfl
   have hsb : q.na.isSome = true := by
    cases hna : q.na with
    | none => rw [hq.na hna] at ht; cases ht
    | some b => rfl
   refine wX ?_
   refine Nd.mk ⟨hsa, by omega, by omega⟩ ?_
   refine wX ?_
   refine LdN.one (.string (bs s)) rfl (fun w hw => hw.1.1.1) (by rw [Zdz]; show (strC p.c.names)[i * 1]? = _; rw [Nat.mul_one]; exact Qcz hs) ?_
   refine wX ?_
   refine Nd.mk ⟨hsb, by omega, by omega⟩ ?_
   refine wX ?_
   refine LdN.one (.string (bs t)) rfl (fun w hw => hw.1.2.1) (by rw [Zdz]; show (strC q.c.names)[i * 1]? = _; rw [Nat.mul_one]; exact Qcz ht) ?_
   refine wX ?_
   first | rw [bne, Ql1] | rw [Ql1] | (trace_state; rw [bne])
   cases hst : s == t with
   | false =>
    refine wX ?_
    exact Qac (Qg7 (fun h => by
     rw [h.2.2.2.1, ht] at hs
     rw [Zzz hs] at hst
     simp at hst)).symm
   | true =>
    refine wX ?_
    refine ⟨i + 1, ⟨by omega, Qww he hs ht (eq_of_beq hst)⟩, by omega, ?_, wHH⟩
    exact wKK
  ·have hin : i = p.c.names.length := by omega
   subst hin
   rw [Ztz, hlen, Ztz] at he
   refine wX ?_
   exact Qac (Qxi h1 h2 h3' he (by omega)).symm
end Go.Proofs.YtgogonnnojcioaaGreatDoor
namespace Go.Proofs.YtgogonnnojcioaaGreatDoor
open Go.AX Go.RowKit Go.Scan
set_option maxRecDepth 20000
theorem Qpa (s : List UInt8) (hs : s.length <= 200000000000000) : ∀ H, SpecH Tryz.prog 131 (pvs [.string (bs s)]) H (Ret (.bool (iwB s)) H) := by
 refine Qd1 hm Tryz.func131 (by kernel_rfl) rfl rfl ?_
 have hz := Qal s
 refine wX ?_
 rw [hz]
 refine Qdu Nat (fun i => i <= s.length /\ (s.take i).all wrd = true) (fun i => mkS Tryz.f131.ntmps 0 [(0, .c (.v (.string (bs s)))), (5, .c (.v (.int .i64 (s.length : Int)))), (6, .c (.v (.int .i64 (i : Int))))]) (fun i => s.length - i) rfl (fun _ => rfl) 0 ⟨Zkz _, rfl⟩ ?_ ?_
 ·exact wKK
 intro i ⟨hi, hall⟩
 refine wX ?_
 refine Qab (fun h1 => ?_) (fun h1 => ?_)
 ·obtain ⟨c, hc⟩ : ∃ c, s[i]? = some c := ⟨_, Zbz (by omega)⟩
  refine wX ?_
  try refine Nd.mk ⟨by omega, by rw [hz]; exact h1⟩ ?_
  refine wX ?_
  rw [Zdz, Qa6 hc]
  refine Qao (QBd c _) ?_
  cases hw : wrd c with
  | true =>
   refine wX ?_
   refine ⟨i + 1, ⟨by omega, ?_⟩, by omega, ?_, wHH⟩
   ·rw [List.take_add_one, hc, List.all_append, hall]
    simp [hw]
   ·exact wKK
  | false =>
   refine wX ?_
   refine Qb0 ?_
   have : s.all wrd = false := by
    rw [Bool.eq_false_iff]
    intro h
    have := Zqz.1 h c (Ziz hc)
    rw [hw] at this
    cases this
   simp [iwB, this]
 ·have hie : i = s.length := by omega
  subst hie
  rw [Ztz] at hall
  cases s with
  | nil =>
   refine wX ?_
   exact Qb0 (by simp [iwB])
  | cons c r =>
   have hz2 : (bs (c :: r)).size = (c :: r).length := hz
   refine wX ?_
   rw [hz2]
   refine Qab (fun h2 => ?_) (fun h2 => ?_)
   ·have hl2 : (c :: r).length <= 40 := by omega
    refine wX ?_
    try refine Nd.mk ⟨by omega, by rw [hz2, Znz]; omega⟩ ?_
    refine wX ?_
    rw [show Qcx (bs (c :: r)) (Int.toNat 0) = (c.toNat : Int) from Qa6 (l := c :: r) (i := 0) rfl]
    refine Qao (QAv c _) ?_
    refine wX ?_
    refine Qb0 ?_
    simp only [iwB, hall, hd, List.headD_cons, List.isEmpty_cons, decide_eq_true hl2]
    simp
   ·have hl2 : ¬ (c :: r).length <= 40 := by omega
    refine wX ?_
    refine Qb0 ?_
    simp only [iwB, decide_eq_false hl2]
    simp
theorem Qy4 {b : List UInt8} (h : iwB b = true) : ∃ y q, b = y :: q := by
 cases b with
 | nil => simp [iwB] at h
 | cons y q => exact ⟨y, q, rfl⟩
theorem Qwb (s : List UInt8) (hs : s.length <= 200000000000000) : ∀ H, SpecH Tryz.prog 108 (pvs [.string (bs s)]) H (Ret (.bool (icB s)) H) := by
 refine Qd1 hm Tryz.func108 (by kernel_rfl) rfl rfl ?_
 refine wX ?_
 refine Qao (Qpa s hs _) ?_
 cases hi : iwB s with
 | false =>
  refine wX ?_
  exact Qb0 (by simp [icB, hi])
 | true =>
  obtain ⟨y, q, rfl⟩ := Qy4 hi
  have hyl : (bs (y :: q)).size = q.length + 1 := by rw [Qal]; rfl
  refine wX ?_
  try refine Nd.mk ⟨by omega, by rw [hyl]; omega⟩ ?_
  refine wX ?_
  rw [show Qcx (bs (y :: q)) (Int.toNat 0) = (y.toNat : Int) from Qa6 (l := y :: q) (i := 0) rfl]
  refine Qao (Qyu y _) ?_
  refine wX ?_
  exact Qb0 (by simp [icB, hi, hd])
theorem Qxm (s : List UInt8) (hs : s.length <= 200000000000000) : ∀ H, SpecH Tryz.prog 115 (pvs [.string (bs s)]) H (Ret (.bool (iiB s)) H) := by
 refine Qd1 hm Tryz.func115 (by kernel_rfl) rfl rfl ?_
 have hz := Qal s
 refine wX ?_
 rw [hz]
 refine Qab (fun h1 => ?_) (fun h1 => ?_)
 ·match s, hs, hz, h1 with
  | [], _, _, h1 => exact absurd h1 (by decide)
  | [_], _, _, h1 => exact absurd h1 (by simp)
  | c :: d :: r, hs, hz, h1 =>
   have h64 : ((c.toNat : Int) == 64) = (c == 64) := Qyn (n := 64) (by decide)
   have hl : (c :: d :: r).length = r.length + 2 := rfl
   refine wX ?_
   try refine Nd.mk ⟨by omega, by rw [hz]; omega⟩ ?_
   refine wX ?_
   rw [show Qcx (bs (c :: d :: r)) (Int.toNat 0) = (c.toNat : Int) from Qa6 (l := c :: d :: r) (i := 0) rfl, h64]
   cases e64 : c == 64 with
   | false =>
    refine wX ?_
    exact Qb0 (by simp only [iiB, hd, List.headD_cons, e64]; simp)
   | true =>
    refine wX ?_
    refine ReadW.sl_l 1 rfl Tryz.underlying9 rfl rfl ⟨rfl, by omega⟩ ?_
    refine wX ?_
    refine Qao (Qpa (d :: r) (by simp at hs ⊢; omega) _) ?_
    cases hi : iwB (d :: r) with
    | false =>
     refine wX ?_
     exact Qb0 (by simp only [iiB, List.tail_cons, hi]; simp)
    | true =>
     refine wX ?_
     try refine Nd.mk ⟨by omega, by rw [hz]; omega⟩ ?_
     refine wX ?_
     rw [show Qcx (bs (c :: d :: r)) (Int.toNat 1) = (d.toNat : Int) from Qa6 (l := c :: d :: r) (i := 1) rfl]
     refine Qao (Qyu d _) ?_
     cases hs2 : sml d with
     | false =>
      refine wX ?_
      exact Qb0 (by simp only [iiB, List.tail_cons, hd, List.headD_cons, hs2]; simp)
     | true =>
      refine wX ?_
      rw [hz]
      refine Qb0 ?_
      have hdec : decide (1 < (c :: d :: r).length) = true := by simp
      simp only [iiB, hdec, List.tail_cons, hd, List.headD_cons, hs2, e64, hi]
      simp
      omega
 ·have hdec : decide (1 < s.length) = false := decide_eq_false (by omega)
  refine wX ?_
  exact Qb0 (by simp only [iiB, hdec]; simp)
end Go.Proofs.YtgogonnnojcioaaGreatDoor
namespace Go.Proofs.YtgogonnnojcioaaGreatDoor
open Go.AX Go.RowKit Go.Core Go.Scan
set_option maxRecDepth 20000
theorem Qnn (c : UInt8) : ∀ H, SpecH Tryz.prog 118 (pvs [.int .u8 (c.toNat : Int)]) H (Ret (.bool (ltr c)) H) := by
 refine Qd1 hm Tryz.func118 (by kernel_rfl) rfl rfl ?_
 refine wX ?_
 (repeat' (first | (refine Qab (fun _ => ?_) (fun _ => ?_)) | (refine Qa0 (fun _ => ?_) (fun _ => ?_))))
 all_goals (first | refine wX ?_ | exact wZ)
 (repeat' (first | (refine Qab (fun _ => ?_) (fun _ => ?_)) | (refine Qa0 (fun _ => ?_) (fun _ => ?_))))
 all_goals (first | refine wX ?_ | exact wZ)
 (repeat' (first | (refine Qab (fun _ => ?_) (fun _ => ?_)) | (refine Qa0 (fun _ => ?_) (fun _ => ?_))))
 all_goals (first | refine wX ?_ | exact wZ)
 (repeat' (first | (refine Qab (fun _ => ?_) (fun _ => ?_)) | (refine Qa0 (fun _ => ?_) (fun _ => ?_))))
 all_goals (first | refine wX ?_ | exact wZ)
 (repeat' (first | (refine Qab (fun _ => ?_) (fun _ => ?_)) | (refine Qa0 (fun _ => ?_) (fun _ => ?_))))
 all_goals (first | refine wX ?_ | exact wZ)
 all_goals
  refine Qb0 ?_
  simp [ltr, sml, grt]
  try omega
set_option maxHeartbeats 1000000 in
theorem Qvq (s : List UInt8) (great : Bool) (hs : s.length <= 200000000000000) : ∀ H, SpecH Tryz.prog 94 (pvs [.string (bs s), .bool great]) H (Ret (.bool (Qfq s great)) H) := by
 refine Qd1 hm Tryz.func94 (by kernel_rfl) rfl rfl ?_
 cases s with
 | nil =>
  refine wX ?_
  exact Qb0 (by simp [Qfq])
 | cons c r =>
  have hz : (bs (c :: r)).size = r.length + 1 := Qal (c :: r)
  have h0 : Qcx (bs (c :: r)) (Int.toNat 0) = (c.toNat : Int) := Qa6 (l := c :: r) (i := 0) rfl
  refine wX ?_
  rw [hz]
  refine Qab (fun h1 => ?_) (fun h1 => ?_)
  ·refine wX ?_
   exact Qb0 (by unfold Qfq; rw [show decide ((c :: r).length <= 40) = false from decide_eq_false (by simp only [Znz]; omega)]; simp)
  have hl : decide ((c :: r).length <= 40) = true := decide_eq_true (by simp only [Znz]; omega)
  refine wX ?_
  try refine Nd.mk ⟨by omega, by rw [hz]; omega⟩ ?_
  refine wX ?_
  rw [h0]
  refine Qao (Qnn c _) ?_
  cases hlt : ltr c with
  | false =>
   refine wX ?_
   exact Qb0 (by unfold Qfq; rw [hl]; simp [hd, hlt])
  | true =>
   refine wX ?_
   have hgr : ∀ b : Bool, b = grt c -> (b != great) = !(grt c == great) := fun b hb => by rw [hb]; rfl
   refine Qab (fun h2 => ?_) (fun h2 => ?_)
   ·refine wX ?_
    try refine Nd.mk ⟨by omega, by rw [hz]; omega⟩ ?_
    refine wX ?_
    rw [h0, show (decide ((c.toNat : Int) <= 90) == great) = (grt c == great) by rw [show grt c = decide ((c.toNat : Int) <= 90) by unfold grt; rw [decide_eq_true (show 65 <= c.toNat by omega), Bool.true_and]; exact decide_eq_decide.2 (by omega)]]
    cases hgg : grt c == great with
    | false =>
     refine wX ?_
     exact Qb0 (by unfold Qfq; rw [hl]; simp [hd, hlt, hgg])
    | true =>
     refine wX ?_
     refine Qdu Nat (fun i => i <= r.length /\ (r.take i).all wrd = true) (fun i => mkS Tryz.f94.ntmps 0 [(0, .c (.v (.string (bs (c :: r))))), (5, .c (.v (.int .i64 ((i + 1 : Nat) : Int))))]) (fun i => r.length - i) rfl (fun _ => rfl) 0 ⟨Zkz _, rfl⟩ ?_ ?_
     ·exact wKK
     intro i ⟨hi, hall⟩
     refine wX ?_
     rw [hz]
     refine Qab (fun h3 => ?_) (fun h3 => ?_)
     ·obtain ⟨d, hd1⟩ : ∃ d, r[i]? = some d := ⟨_, Zbz (by omega)⟩
      have h5 : Qcx (bs (c :: r)) (i + 1) = (d.toNat : Int) := Qa6 (l := c :: r) (i := i + 1) (by simpa using hd1)
      have hwd : wrd d = (ltr d || dig d) := rfl
      refine wX ?_
      try refine Nd.mk ⟨by omega, by rw [hz]; omega⟩ ?_
      refine wX ?_
      rw [Zdz, h5]
      refine Qao (Qnn d _) ?_
      have hbad : wrd d = false -> Qfq (c :: r) great = false := fun h => by
       have hra : r.all wrd = false := by
        rw [Bool.eq_false_iff]
        intro h6
        have := Zqz.1 h6 d (Ziz hd1)
        rw [h] at this
        cases this
       have hra2 : (r.all fun c => ltr c || dig c) = false := hra
       unfold Qfq
       rw [List.tail_cons, hra2, Bool.and_false]
      cases hld : ltr d with
      | true =>
       refine wX ?_
       refine ⟨i + 1, ⟨by omega, ?_⟩, by omega, ?_, wHH⟩
       ·rw [List.take_add_one, hd1, List.all_append, hall]
        simp [hwd, hld]
       ·exact wKK
      | false =>
       refine wX ?_
       try refine Nd.mk ⟨by omega, by rw [hz]; omega⟩ ?_
       refine wX ?_
       rw [Zdz, h5]
       refine Qab (fun h6 => ?_) (fun h6 => ?_)
       ·refine wX ?_
        exact Qb0 (by rw [hbad (by rw [hwd, hld]; unfold dig; rw [decide_eq_false (show ¬ 48 <= d.toNat by omega)]; rfl)])
       ·refine wX ?_
        try refine Nd.mk ⟨by omega, by rw [hz]; omega⟩ ?_
        refine wX ?_
        rw [Zdz, h5]
        refine Qab (fun h7 => ?_) (fun h7 => ?_)
        ·refine wX ?_
         exact Qb0 (by rw [hbad (by rw [hwd, hld]; unfold dig; rw [decide_eq_false (show ¬ d.toNat <= 57 by omega), Bool.and_false]; rfl)])
        ·refine wX ?_
         refine ⟨i + 1, ⟨by omega, ?_⟩, by omega, ?_, wHH⟩
         ·rw [List.take_add_one, hd1, List.all_append, hall]
          simp [hwd, hld, dig]
          omega
         ·exact wKK
     ·have hin : i = r.length := by omega
      subst hin
      rw [Ztz] at hall
      refine wX ?_
      exact Qb0 (by unfold Qfq; rw [hl]; simp only [List.isEmpty_cons, Bool.not_false, Bool.true_and, hd, List.headD_cons, hlt, hgg, List.tail_cons]; exact ⟨fun _ => hall, fun _ => trivial⟩)
   ·refine wX ?_
    rw [show (false == great) = (grt c == great) by rw [show grt c = false by unfold grt; rw [decide_eq_false (show ¬ 65 <= c.toNat by omega), Bool.false_and]]]
    cases hgg : grt c == great with
    | false =>
     refine wX ?_
     exact Qb0 (by unfold Qfq; rw [hl]; simp [hd, hlt, hgg])
    | true =>
     refine wX ?_
     refine Qdu Nat (fun i => i <= r.length /\ (r.take i).all wrd = true) (fun i => mkS Tryz.f94.ntmps 0 [(0, .c (.v (.string (bs (c :: r))))), (5, .c (.v (.int .i64 ((i + 1 : Nat) : Int))))]) (fun i => r.length - i) rfl (fun _ => rfl) 0 ⟨Zkz _, rfl⟩ ?_ ?_
     ·exact wKK
     intro i ⟨hi, hall⟩
     refine wX ?_
     rw [hz]
     refine Qab (fun h3 => ?_) (fun h3 => ?_)
     ·obtain ⟨d, hd1⟩ : ∃ d, r[i]? = some d := ⟨_, Zbz (by omega)⟩
      have h5 : Qcx (bs (c :: r)) (i + 1) = (d.toNat : Int) := Qa6 (l := c :: r) (i := i + 1) (by simpa using hd1)
      have hwd : wrd d = (ltr d || dig d) := rfl
      refine wX ?_
      try refine Nd.mk ⟨by omega, by rw [hz]; omega⟩ ?_
      refine wX ?_
      rw [Zdz, h5]
      refine Qao (Qnn d _) ?_
      have hbad : wrd d = false -> Qfq (c :: r) great = false := fun h => by
       have hra : r.all wrd = false := by
        rw [Bool.eq_false_iff]
        intro h6
        have := Zqz.1 h6 d (Ziz hd1)
        rw [h] at this
        cases this
       have hra2 : (r.all fun c => ltr c || dig c) = false := hra
       unfold Qfq
       rw [List.tail_cons, hra2, Bool.and_false]
      cases hld : ltr d with
      | true =>
       refine wX ?_
       refine ⟨i + 1, ⟨by omega, ?_⟩, by omega, ?_, wHH⟩
       ·rw [List.take_add_one, hd1, List.all_append, hall]
        simp [hwd, hld]
       ·exact wKK
      | false =>
       refine wX ?_
       try refine Nd.mk ⟨by omega, by rw [hz]; omega⟩ ?_
       refine wX ?_
       rw [Zdz, h5]
       refine Qab (fun h6 => ?_) (fun h6 => ?_)
       ·refine wX ?_
        exact Qb0 (by rw [hbad (by rw [hwd, hld]; unfold dig; rw [decide_eq_false (show ¬ 48 <= d.toNat by omega)]; rfl)])
       ·refine wX ?_
        try refine Nd.mk ⟨by omega, by rw [hz]; omega⟩ ?_
        refine wX ?_
        rw [Zdz, h5]
        refine Qab (fun h7 => ?_) (fun h7 => ?_)
        ·refine wX ?_
         exact Qb0 (by rw [hbad (by rw [hwd, hld]; unfold dig; rw [decide_eq_false (show ¬ d.toNat <= 57 by omega), Bool.and_false]; rfl)])
        ·refine wX ?_
         refine ⟨i + 1, ⟨by omega, ?_⟩, by omega, ?_, wHH⟩
         ·rw [List.take_add_one, hd1, List.all_append, hall]
          simp [hwd, hld, dig]
          omega
         ·exact wKK
     ·have hin : i = r.length := by omega
      subst hin
      rw [Ztz] at hall
      refine wX ?_
      exact Qb0 (by unfold Qfq; rw [hl]; simp only [List.isEmpty_cons, Bool.not_false, Bool.true_and, hd, List.headD_cons, hlt, hgg, List.tail_cons]; exact ⟨fun _ => hall, fun _ => trivial⟩)
end Go.Proofs.YtgogonnnojcioaaGreatDoor
namespace Go.Proofs.YtgogonnnojcioaaGreatDoor
open Go.AX Go.RowKit Go.Core Go.Scan
set_option maxRecDepth 20000
theorem Qxb (s : List UInt8) (hs : s.length <= 200000000000000) : ∀ H, SpecH Tryz.prog 76 (pvs [.string (bs s)]) H (Ret (.bool (Qpq s)) H) := by
 refine Qd1 hm Tryz.func76 (by kernel_rfl) rfl rfl ?_
 refine wX ?_
 refine Qao (Qvq s true hs _) ?_
 refine wX ?_
 rfl
theorem Qzd (s : List UInt8) (hs : s.length <= 200000000000000) : ∀ H, SpecH Tryz.prog 77 (pvs [.string (bs s)]) H (Ret (.bool (Qjp s)) H) := by
 refine Qd1 hm Tryz.func77 (by kernel_rfl) rfl rfl ?_
 have hz := Qal s
 refine wX ?_
 rw [hz]
 refine Qab (fun h1 => ?_) (fun h1 => ?_)
 ·refine wX ?_
  rw [hz]
  refine Qab (fun h2 => ?_) (fun h2 => ?_)
  ·cases s with
   | nil => exact absurd h2 (by decide)
   | cons c r =>
    have hz2 : (bs (c :: r)).size = r.length + 1 := hz
    have h64 : ((c.toNat : Int) == 64) = (c == 64) := Qyn (n := 64) (by decide)
    have e1 : decide ((c :: r).length <= 40) = true := decide_eq_true (by omega)
    have e2 : decide (1 < (c :: r).length) = true := decide_eq_true (by omega)
    refine wX ?_
    try refine Nd.mk ⟨by omega, by rw [hz2]; omega⟩ ?_
    refine wX ?_
    rw [show Qcx (bs (c :: r)) (Int.toNat 0) = (c.toNat : Int) from Qa6 (l := c :: r) (i := 0) rfl, h64]
    cases e64 : c == 64 with
    | false =>
     refine wX ?_
     exact Qb0 (by unfold Qjp; rw [e1, e2]; simp only [hd, List.headD_cons, e64]; simp)
    | true =>
     refine wX ?_
     refine ReadW.sl_l 1 rfl Tryz.underlying9 rfl rfl ⟨rfl, by omega⟩ ?_
     refine wX ?_
     refine Qao (Qvq r false (by simp at hs; omega) _) ?_
     refine wX ?_
     exact Qb0 (by unfold Qjp; rw [e1, e2]; simp only [hd, List.headD_cons, e64, List.tail_cons, Bool.true_and])
  ·refine wX ?_
   exact Qb0 (by unfold Qjp; rw [decide_eq_false (show ¬ 1 < s.length by omega)]; simp)
 ·refine wX ?_
  exact Qb0 (by unfold Qjp; rw [decide_eq_false (show ¬ s.length <= 40 by omega)]; simp)
theorem QAw (a : Option Addr) (c : Nat) (l : List (List UInt8)) (x : List UInt8) (ha : a = none -> l = []) (hl : l.length <= 200000000000000) : ∀ H, (∀ w, Qax H w -> SlAt a (l.length * 1) (strC l) w) -> SpecH Tryz.prog 78 (pvs [.slice a l.length c, .string (bs x)]) H (Ret (.bool (decide (x ∈ l))) H) := by
 refine Qem hm Tryz.func78 (by kernel_rfl) rfl rfl ?_
 refine wX ?_
 refine Qdu Nat (fun i => i <= l.length /\ x ∉ l.take i) (fun i => mkS Tryz.f78.ntmps 0 [(0, .c (.v (.slice a l.length c))), (1, .c (.v (.string (bs x)))), (5, .c (.v (.int .i64 (i : Int))))]) (fun i => l.length - i) rfl (fun _ => rfl) 0 ⟨Zkz _, by simp⟩ ?_ ?_
 ·exact wKK
 intro i ⟨hi, hno⟩
 refine wX ?_
 refine Qab (fun h1 => ?_) (fun h1 => ?_)
 ·obtain ⟨s, hs⟩ : ∃ s, l[i]? = some s := ⟨_, Zbz (by omega)⟩
  have hsa : a.isSome = true := by
   cases a with
   | none => rw [ha rfl] at hs; cases hs
   | some b => rfl
  refine wX ?_
  refine Nd.mk ⟨hsa, by omega, by omega⟩ ?_
  refine wX ?_
  refine LdN.one (.string (bs s)) rfl (fun w hw => hw.1) (by rw [Zdz]; show (strC l)[i * 1]? = _; rw [Nat.mul_one]; exact Qcz hs) ?_
  refine wX ?_
  rw [Ql1]
  cases hsx : s == x with
  | true =>
   refine wX ?_
   exact Qac (decide_eq_true (eq_of_beq hsx ▸ Ziz hs)).symm
  | false =>
   refine wX ?_
   refine ⟨i + 1, ⟨by omega, ?_⟩, by omega, ?_, wHH⟩
   ·rw [List.take_add_one, hs]
    intro h
    rcases Zmz.1 h with h | h
    ·exact hno h
    ·rw [Zgz.1 (show x ∈ [s] from h)] at hsx
     simp at hsx
   ·exact wKK
 ·have hin : i = l.length := by omega
  subst hin
  rw [Ztz] at hno
  refine wX ?_
  exact Qac (decide_eq_false hno).symm
end Go.Proofs.YtgogonnnojcioaaGreatDoor
namespace Go.AX
theorem ReadW.askMap {P : Program} {o : Oper} {s : List AV} {H : List Ent} {K : AV -> Prop} {t kt et : TypeId} {m k : Operand} {b c : Nat} {es : Array MapEntry} {κ : IntKind} {n : Int} {inf : TypeInfo} {z : Value} (r : Option (Nat × Value)) (ho : o.op = .lookup t m k true) (ht : P.underlying t = some (.map kt et)) (hkt : P.underlying kt = some (.int κ)) (hi : P.info? et = some inf) (hz : inf.zero = some z)
  (hm : opv s m = .c (.v (.map (some b)))) (hk : opv s k = .c (.v (.int κ n))) (hF : ∀ w, Qax H w -> w.heap[b]? = some (.map es c)) (hf : Instr.findNow (.int κ) (.int κ n) es.toList 0 = some r) (h : K (.c (.v (.tuple #[(r.map Prod.snd).getD z, .bool r.isSome])))) : ReadW P o s H K :=
 ReadW.val (.tuple #[(r.map Prod.snd).getD z, .bool r.isSome]) (fun cs b e => by rw [ho] at e; cases e) (by rw [ho]; show Qar s [m, k] = true; simp [Qar, hm, hk]) (fun w hw => by
  have hb := hF w hw
  have hc : (Instr.checkKey es.isEmpty 10000 kt (.int κ n)).run P w = .ok () w := MapKept.run_checkKey (k := .int κ n) hkt (by simp [MapKept.IsKey]) es.isEmpty 9999
  have hrun : (Instr.lookup t (.map (some b)) (.int κ n) true).run P w = .ok (.tuple #[(r.map Prod.snd).getD z, .bool r.isSome]) w := by
   cases r with
   | none => simp [Instr.lookup, run_underlying ht, MapKept.run_getObj_map hb, hc, MapKept.run_findKey hkt hf, Result.andThen, Qbv hi hz]
   | some q => simp [Instr.lookup, run_underlying ht, MapKept.run_getObj_map hb, hc, MapKept.run_findKey hkt hf, Result.andThen]
  unfold execOp
  simp only [ho, Qbc hm, Qbc hk, Sem.run_bind, hrun, ZCz, Sem.run_pure]) h
theorem ReadW.slc_hi {P : Program} {o : Oper} {s : List AV} {H : List Ent} {K : AV -> Prop} {t : TypeId} {x z : Operand} {a : Option Addr} {n cap : Nat} {k : IntKind} {j : Int} (ho : o.op = .slice t x none (some z) none) (hu : slcB P t = true)
  (hx : opv s x = .c (.v (.slice a n cap))) (hz : opv s z = .c (.v (.int k j))) (hj : 0 <= j /\ j <= (cap : Int)) (h : K (.c (.v (.slice a j.toNat cap)))) : ReadW P o s H K := by
 obtain ⟨e, inf, hu, hi⟩ := Qon hu
 refine ReadW.val _ (fun cs b => by rw [ho]; simp) (by rw [ho]; simp [Op.operands, Qar, hx, hz]) (fun w _ => ?_) h
 have e1 := Qbc hx
 have e2 := Qbc hz
 have : (Instr.sliceAt t (.slice a n cap) none (some (.int k j)) none).run P w = .ok (.slice a j.toNat cap) w := by
  have ha : a.map (·.add 0) = a := by
   cases a with
   | none => rfl
   | some b => rfl
  simp [Instr.sliceAt, Instr.slice, run_underlying hu, Instr.sliceBounds, Instr.sliceBound, asIntOf, hj, sizeOf, typeInfo, hi, ha]
 refine Qeh ho ?_
 rw [e1]
 simpa [e2] using this
def MapIs (κ : IntKind) (es : Array MapEntry) (R : Int -> Option Value) : Prop := ∀ k : Int, ∃ i, Instr.findNow (.int κ) (.int κ k) es.toList 0 = some ((R k).map fun v => (i, v))
theorem Qpj {κ : IntKind} {k k' : Int} {v : Value} {born : Nat} : ∀ (l : List MapEntry) (i : Nat), (∀ q, Instr.findNow (.int κ) (.int κ k) l i = some (some q) -> Instr.findNow (.int κ) (.int κ k) (l ++ [{ key := .int κ k', val := v, born := born }]) i = some (some q)) /\
  (Instr.findNow (.int κ) (.int κ k) l i = some none -> Instr.findNow (.int κ) (.int κ k) (l ++ [{ key := .int κ k', val := v, born := born }]) i = some (if k = k' then some (i + l.length, v) else none))
 | [], i => by
  refine ⟨(fun q h => by cases h), fun _ => ?_⟩
  by_cases h : k = k'
  ·subst h
   simp [Instr.findNow, Instr.sameNow]
  ·have hb : (k == k') = false := by simp [h]
   simp [Instr.findNow, Instr.sameNow, hb, h]
 | e :: l, i => by
  obtain ⟨h1, h2⟩ := Qpj (κ := κ) (k := k) (k' := k') (v := v) (born := born) l (i + 1)
  simp only [List.cons_append, Instr.findNow]
  cases hs : Instr.sameNow (.int κ) (.int κ k) e.key with
  | none => exact ⟨(fun q h => by cases h), (fun h => by cases h)⟩
  | some b =>
   cases b with
   | true => exact ⟨(fun q h => h), (fun h => by cases h)⟩
   | false =>
    refine ⟨fun q h => h1 q h, fun h => ?_⟩
    rw [h2 h]
    simp only [Znz]
    rw [show i + 1 + l.length = i + (l.length + 1) by omega]
theorem MapIs.nil {κ : IntKind} : MapIs κ #[] fun _ => none := fun _ => ⟨0, rfl⟩
theorem MapIs.put {κ : IntKind} {es : Array MapEntry} {R : Int -> Option Value} (h : MapIs κ es R) {k' : Int} (hk : R k' = none) (v : Value) (born : Nat) : MapIs κ (es.push { key := .int κ k', val := v, born := born }) fun k => if k = k' then some v else R k := by
 intro k
 obtain ⟨i, hi⟩ := h k
 have hs := Qpj (κ := κ) (k := k) (k' := k') (v := v) (born := born) es.toList 0
 rw [Array.toList_push]
 by_cases he : k = k'
 ·subst he
  rw [hk] at hi
  refine ⟨0 + es.toList.length, ?_⟩
  rw [hs.2 hi]
  simp
 ·show ∃ i, _ = some (Option.map (fun v => (i, v)) (if k = k' then some v else R k))
  rw [if_neg he]
  cases hr : R k with
  | none =>
   rw [hr] at hi
   exact ⟨0, by rw [hs.2 hi, if_neg he]; rfl⟩
  | some x =>
   rw [hr] at hi
   exact ⟨i, by rw [hs.1 _ hi]; rfl⟩
theorem MapIs.congr {κ : IntKind} {es : Array MapEntry} {R R' : Int -> Option Value} (h : MapIs κ es R) (e : ∀ k, R k = R' k) : MapIs κ es R' := fun k => by rw [<- e k]; exact h k
theorem MapIs.none {κ : IntKind} {es : Array MapEntry} {R : Int -> Option Value} (h : MapIs κ es R) {k : Int} (hk : R k = .none) : Instr.findNow (.int κ) (.int κ k) es.toList 0 = some .none := by
 obtain ⟨i, hi⟩ := h k
 rw [hi, hk]
 rfl
end Go.AX
namespace Go.Proofs.YtgogonnnojcioaaGreatDoor
open Go.AX Go.RowKit Go.Core Go.Scan
set_option maxRecDepth 20000
theorem Qf9 {α : Type} {Q : α -> Prop} {l : List α} {i : Nat} {p : α} (h : ∀ c ∈ l.take i, Q c) (hp : l[i]? = some p) (hq : Q p) : ∀ c ∈ l.take (i + 1), Q c := by
 rw [List.take_add_one, hp]
 intro c hc
 rcases Zmz.1 hc with hc | hc
 ·exact h c hc
 ·rw [Zgz.1 (show c ∈ [p] from hc)]; exact hq
theorem Qrr {n : Nat} {c : Cell} {x : Int} (h : x ∈ c.items) (hx : ¬ (0 <= x /\ x < (n : Int))) : Qbi n c = false := by
 have : Qei n c = false := by
  cases hb : Qei n c with
  | false => rfl
  | true =>
   unfold Qei at hb
   have := Zqz.1 hb x h
   simp at this
   exact absurd this hx
 unfold Qbi
 rw [this]
 simp
theorem Qt6 {a : Option Addr} {l : List (List UInt8)} {w : World} {i : Nat} (h : SlAt a (l.length * 1) (strC l) w) (hi : i <= l.length) : SlAt a (i * 1) (strC (l.take i)) w := by
 obtain ⟨h1, h2, h3⟩ := h
 refine ⟨by simp [strC]; omega, fun h => h2 (by omega), fun j hj => ?_⟩
 rw [h3 j (by omega)]
 unfold strC
 rw [List.getElem?_map, List.getElem?_map, List.getElem?_take_of_lt (by omega)]
set_option maxHeartbeats 4000000 in
theorem Qzf (a : Option Addr) (ca n : Nat) (hn : n <= 200000000000000) (kind num : Int) (text : List UInt8) (names : List (List UInt8)) (items : List Int) (na : Option Addr) (nc : Nat) (ia : Option Addr) (ic : Nat) (hna : na = none -> names = []) (hia : ia = none -> items = []) (hnl : names.length <= 200000000000000) (hil : items.length <= 200000000000000) (hnw : ∀ s ∈ names, s.length <= 200000000000000) (htl : text.length <= 200000000000000) (hnb : names.length <= nc) :
  ∀ H, (∀ w, Qax H w -> SlAt na (names.length * 1) (strC names) w /\ SlAt ia (items.length * 1) (iC items) w) -> SpecH Tryz.prog 51 (pvs [.slice a n ca, .agg #[.int .i64 kind, .int .i64 num, .string (bs text), .slice na names.length nc, .slice ia items.length ic]]) H (Ret (.bool (Qbi n ⟨kind, num, text, names, items⟩)) H) := by
 refine Qem hm Tryz.func51 (by kernel_rfl) rfl rfl ?_
 refine wX ?_
 refine Qdu Nat (fun i => i <= items.length /\ ∀ x ∈ items.take i, 0 <= x /\ x < (n : Int)) (fun i => mkS Tryz.f51.ntmps 0 [(0, .c (.v (.slice a n ca))), (3, .c (.lp 1 0)), (5, .c (.v (.int .i64 (i : Int))))]) (fun i => items.length - i) rfl (fun _ => rfl) 0 ⟨Zkz _, by simp⟩ ?_ ?_
 ·exact wKK
 intro i ⟨hi, hr⟩
 refine wX ?_
 refine Qab (fun h1 => ?_) (fun h1 => ?_)
 ·obtain ⟨x, hx⟩ : ∃ x, items[i]? = some x := ⟨_, Zbz (by omega)⟩
  have hxm := Ziz hx
  have hsa : ia.isSome = true := by
   cases ia with
   | none => rw [hia rfl] at hx; cases hx
   | some b => rfl
  refine wX ?_
  refine Nd.mk ⟨hsa, by omega, by omega⟩ ?_
  refine wX ?_
  refine LdN.one (.int .i64 x) rfl (fun w hw => hw.1.2) (by rw [Zdz]; show (iC items)[i * 1]? = _; rw [Nat.mul_one]; exact Qcb hx) ?_
  refine wX ?_
  refine Qab (fun h2 => ?_) (fun h2 => ?_)
  ·refine wX ?_
   exact Qac (Qrr (c := ⟨kind, num, text, names, items⟩) hxm (by omega)).symm
  refine wX ?_
  refine Nd.mk ⟨hsa, by omega, by omega⟩ ?_
  refine wX ?_
  refine LdN.one (.int .i64 x) rfl (fun w hw => hw.1.2) (by rw [Zdz]; show (iC items)[i * 1]? = _; rw [Nat.mul_one]; exact Qcb hx) ?_
  refine wX ?_
  refine Qab (fun h3 => ?_) (fun h3 => ?_)
  ·refine wX ?_
   exact Qac (Qrr (c := ⟨kind, num, text, names, items⟩) hxm (by omega)).symm
  refine wX ?_
  refine ⟨i + 1, ⟨by omega, Qf9 hr hx (by omega)⟩, by omega, ?_, wHH⟩
  exact wKK
 have hin : i = items.length := by omega
 subst hin
 rw [Ztz] at hr
 have hrB : Qei n ⟨kind, num, text, names, items⟩ = true := Zqz.2 fun x hx => by have := hr x hx; simp; omega
 clear h1 hi
 refine wX ?_
 refine Qab (fun hk0 => ?_) (fun hk0 => ?_)
 ·refine wX ?_
  exact Qac (by unfold Qbi; simp [hk0])
 refine wX ?_
 have hkk : 8 < kind \/ kind = 0 \/ kind = 1 \/ kind = 2 \/ kind = 3 \/ kind = 4 \/ kind = 5 \/ kind = 6 \/ kind = 7 \/ kind = 8 := by omega
 rcases hkk with hk | rfl | rfl | rfl | rfl | rfl | rfl | rfl | rfl | rfl
 ·refine Qab (fun _ => ?_) (fun h => absurd hk h)
  refine wX ?_
  exact Qac (by unfold Qbi; simp [hk])
 ·-- 0: the kind
  refine wX ?_
  refine Qao (Qg9 ⟨⟨0, num, text, names, items⟩, na, nc, ia, ic⟩ _) ?_
  refine wX ?_
  refine Qab (fun hi => ?_) (fun hi => ?_)
  ·refine wX ?_
   exact Qac (by
    have h0 : items ≠ [] := fun e => by rw [e] at hi; simp at hi
    unfold Qbi
    rw [hrB]
    simp [h0])
  have hi0 : items = [] := Zez (by omega)
  refine wX ?_
  refine Qab (fun hi => ?_) (fun hi => ?_)
  ·refine wX ?_
   exact Qac (by
    have h0 : names ≠ [] := fun e => by rw [e] at hi; simp at hi
    unfold Qbi
    rw [hrB]
    simp [h0])
  have hn0 : names = [] := Zez (by omega)
  refine wX ?_
  refine Qbb (fun hu => ?_) (fun hu => ?_)
  ·refine wX ?_
   exact Qac (by
    unfold Qbi
    rw [hrB]
    simp [hu])
  refine wX ?_
  exact Qac (by
   rw [Qbx, Zsz]
   unfold Qbi
   rw [hrB]
   simp [hi0, hn0, hu])
 ·-- 1: the kind
  refine wX ?_
  refine Qao (Qg9 ⟨⟨1, num, text, names, items⟩, na, nc, ia, ic⟩ _) ?_
  refine wX ?_
  refine Qab (fun hi => ?_) (fun hi => ?_)
  ·refine wX ?_
   exact Qac (by
    have h0 : items ≠ [] := fun e => by rw [e] at hi; simp at hi
    unfold Qbi
    rw [hrB]
    simp [h0])
  have hi0 : items = [] := Zez (by omega)
  refine wX ?_
  refine Qab (fun hi => ?_) (fun hi => ?_)
  ·refine wX ?_
   exact Qac (by
    have h0 : names ≠ [] := fun e => by rw [e] at hi; simp at hi
    unfold Qbi
    rw [hrB]
    simp [h0])
  have hn0 : names = [] := Zez (by omega)
  refine wX ?_
  refine Qbb (fun hu => ?_) (fun hu => ?_)
  ·refine wX ?_
   exact Qac (by
    unfold Qbi
    rw [hrB]
    simp [hu])
  refine wX ?_
  exact Qac (by
   rw [Qbx, Zsz]
   unfold Qbi
   rw [hrB]
   simp [hi0, hn0, hu])
 ·-- 2: the kind
  refine wX ?_
  refine Qao (Qg9 ⟨⟨2, num, text, names, items⟩, na, nc, ia, ic⟩ _) ?_
  refine wX ?_
  refine Qab (fun hi => ?_) (fun hi => ?_)
  ·refine wX ?_
   exact Qac (by
    have h0 : items ≠ [] := fun e => by rw [e] at hi; simp at hi
    unfold Qbi
    rw [hrB]
    simp [h0])
  have hi0 : items = [] := Zez (by omega)
  refine wX ?_
  refine Qab (fun hi => ?_) (fun hi => ?_)
  ·refine wX ?_
   exact Qac (by
    have h0 : names ≠ [] := fun e => by rw [e] at hi; simp at hi
    unfold Qbi
    rw [hrB]
    simp [h0])
  have hn0 : names = [] := Zez (by omega)
  refine wX ?_
  refine Qbb (fun hu => ?_) (fun hu => ?_)
  ·refine wX ?_
   exact Qac (by
    unfold Qbi
    rw [hrB]
    simp [hu])
  refine wX ?_
  exact Qac (by
   rw [Qbx, Zsz]
   unfold Qbi
   rw [hrB]
   simp [hi0, hn0, hu])
 ·-- 3: the kind
  refine wX ?_
  refine Qao (Qg9 ⟨⟨3, num, text, names, items⟩, na, nc, ia, ic⟩ _) ?_
  refine wX ?_
  refine Qab (fun hi => ?_) (fun hi => ?_)
  ·refine wX ?_
   exact Qac (by
    have h0 : items ≠ [] := fun e => by rw [e] at hi; simp at hi
    unfold Qbi
    rw [hrB]
    simp [h0])
  have hi0 : items = [] := Zez (by omega)
  refine wX ?_
  refine Qab (fun hi => ?_) (fun hi => ?_)
  ·refine wX ?_
   exact Qac (by
    have h0 : names ≠ [] := fun e => by rw [e] at hi; simp at hi
    unfold Qbi
    rw [hrB]
    simp [h0])
  have hn0 : names = [] := Zez (by omega)
  refine wX ?_
  rw [Qbx]
  cases ht : text == ([] : List UInt8) with
  | false =>
   have ht0 : text ≠ [] := fun e => by rw [e] at ht; cases ht
   refine wX ?_
   exact Qac (by
    unfold Qbi
    rw [hrB]
    simp [ht0])
  | true =>
  have ht0 : text = [] := eq_of_beq ht
  refine wX ?_
  refine Qab (fun hm1 => ?_) (fun hm1 => ?_)
  ·refine wX ?_
   exact Qac (by
    rw [Zsz]
    unfold Qbi
    rw [hrB]
    have hmm : -Go.Core.maxI <= num := hm1
    simp [hi0, hn0, ht0, hmm]
    exact Iff.rfl)
  ·refine wX ?_
   exact Qac (by
    have : ¬ (-Go.Core.maxI <= num) := hm1
    unfold Qbi
    rw [hrB]
    simp [this])
 ·-- 4: the kind
  refine wX ?_
  refine Qao (Qg9 ⟨⟨4, num, text, names, items⟩, na, nc, ia, ic⟩ _) ?_
  refine wX ?_
  refine Qab (fun hi => ?_) (fun hi => ?_)
  ·refine wX ?_
   exact Qac (by
    have h0 : items ≠ [] := fun e => by rw [e] at hi; simp at hi
    unfold Qbi
    rw [hrB]
    simp [h0])
  have hi0 : items = [] := Zez (by omega)
  refine wX ?_
  refine Qab (fun hi => ?_) (fun hi => ?_)
  ·refine wX ?_
   exact Qac (by
    have h0 : names ≠ [] := fun e => by rw [e] at hi; simp at hi
    unfold Qbi
    rw [hrB]
    simp [h0])
  have hn0 : names = [] := Zez (by omega)
  refine wX ?_
  refine Qbb (fun hu => ?_) (fun hu => ?_)
  ·refine wX ?_
   exact Qac (by
    unfold Qbi
    rw [hrB]
    simp [hu])
  refine wX ?_
  exact Qac (by
   rw [Qal, Zsz]
   unfold Qbi
   rw [hrB]
   simp [hi0, hn0, hu]
   try omega)
 ·-- 5: the kind
  refine wX ?_
  refine Qao (Qg9 ⟨⟨5, num, text, names, items⟩, na, nc, ia, ic⟩ _) ?_
  refine wX ?_
  refine Qab (fun hi => ?_) (fun hi => ?_)
  ·refine wX ?_
   exact Qac (by
    have h0 : items ≠ [] := fun e => by rw [e] at hi; simp at hi
    unfold Qbi
    rw [hrB]
    simp [h0])
  have hi0 : items = [] := Zez (by omega)
  refine wX ?_
  refine Qab (fun hi => ?_) (fun hi => ?_)
  ·refine wX ?_
   exact Qac (by
    have h0 : names ≠ [] := fun e => by rw [e] at hi; simp at hi
    unfold Qbi
    rw [hrB]
    simp [h0])
  have hn0 : names = [] := Zez (by omega)
  refine wX ?_
  refine Qbb (fun hu => ?_) (fun hu => ?_)
  ·refine wX ?_
   exact Qac (by
    unfold Qbi
    rw [hrB]
    simp [hu])
  refine wX ?_
  exact Qac (by
   rw [Qal, Zsz]
   unfold Qbi
   rw [hrB]
   simp [hi0, hn0, hu]
   try omega)
 ·-- 6: the kind
  refine wX ?_
  refine Qao (Qg9 ⟨⟨6, num, text, names, items⟩, na, nc, ia, ic⟩ _) ?_
  refine wX ?_
  refine Qab (fun hi => ?_) (fun hi => ?_)
  ·refine wX ?_
   exact Qac (by
    have h0 : names ≠ [] := fun e => by rw [e] at hi; simp at hi
    unfold Qbi
    rw [hrB]
    simp [h0])
  have hn0 : names = [] := Zez (by omega)
  refine wX ?_
  refine Qbb (fun hu => ?_) (fun hu => ?_)
  ·refine wX ?_
   exact Qac (by
    unfold Qbi
    rw [hrB]
    simp [hu])
  refine wX ?_
  exact Qac (by
   rw [Qbx, Zsz]
   unfold Qbi
   rw [hrB]
   simp [hn0, hu])
 ·-- 7: the kind
  refine wX ?_
  refine Qao (Qg9 ⟨⟨7, num, text, names, items⟩, na, nc, ia, ic⟩ _) ?_
  refine wX ?_
  refine Qab (fun hi => ?_) (fun hi => ?_)
  ·refine wX ?_
   exact Qac (by
    have h0 : names ≠ [] := fun e => by rw [e] at hi; simp at hi
    unfold Qbi
    rw [hrB]
    simp [h0])
  have hn0 : names = [] := Zez (by omega)
  refine wX ?_
  refine Qbb (fun hu => ?_) (fun hu => ?_)
  ·refine wX ?_
   exact Qac (by
    unfold Qbi
    rw [hrB]
    simp [hu])
  refine wX ?_
  rw [Qbx]
  cases ht : text == ([] : List UInt8) with
  | false =>
   have ht0 : text ≠ [] := fun e => by rw [e] at ht; cases ht
   refine wX ?_
   exact Qac (by
    unfold Qbi
    rw [hrB]
    simp [ht0])
  | true =>
  have ht0 : text = [] := eq_of_beq ht
  refine wX ?_
  exact Qac (by
   rw [Zsz]
   unfold Qbi
   rw [hrB]
   simp [hn0, hu, ht0]
   rw [Int.tmod_eq_emod_of_nonneg (by omega)]
   omega)
 ·-- 8: the kind
  refine wX ?_
  refine Qao (Qg9 ⟨⟨8, num, text, names, items⟩, na, nc, ia, ic⟩ _) ?_
  refine wX ?_
  refine Qbb (fun hu => ?_) (fun hu => ?_)
  ·refine wX ?_
   exact Qac (by
    unfold Qbi
    rw [hrB]
    simp [hu])
  refine wX ?_
  refine Qao (Qxb text htl _) ?_
  cases hcn : Qpq text with
  | false =>
   refine wX ?_
   exact Qac (by
    unfold Qbi
    rw [hrB, hcn]
    simp)
  | true =>
  refine wX ?_
  refine Qbb (fun hln => ?_) (fun hln => ?_)
  ·refine wX ?_
   exact Qac (by
    have : ¬ names.length = items.length := by omega
    unfold Qbi
    rw [hrB, hcn]
    simp [this])
  refine wX ?_
  refine Qdu Nat (fun i => i <= names.length /\ ∀ j, j < i -> (Qjp (names.getD j []) && !decide (names.getD j [] ∈ names.take j)) = true) (fun i => mkS Tryz.f51.ntmps 0 [(0, .c (.v (.slice a n ca))), (3, .c (.lp 1 0)), (6, .c (.v (.int .i64 (i : Int))))]) (fun i => names.length - i) rfl (fun _ => rfl) 0 ⟨Zkz _, fun _ h => by omega⟩ ?_ ?_
  ·exact wKK
  intro i ⟨hi, hj⟩
  refine wX ?_
  refine Qab (fun h1 => ?_) (fun h1 => ?_)
  ·obtain ⟨x, hx⟩ : ∃ x, names[i]? = some x := ⟨_, Zbz (by omega)⟩
   have hxm := Ziz hx
   have hsa : na.isSome = true := by
    cases na with
    | none => rw [hna rfl] at hx; cases hx
    | some b => rfl
   have hxd : names.getD i [] = x := by rw [Zlz, hx]; rfl
   have hbad : (Qjp x && !decide (x ∈ names.take i)) = false -> false = Qbi n ⟨8, num, text, names, items⟩ := fun h => by
    cases hcd : Qbi n ⟨8, num, text, names, items⟩ with
    | false => rfl
    | true =>
     unfold Qbi at hcd
     simp only [show ¬ (8 : Int) = 3 by decide, show ¬ (8 : Int) = 4 by decide, show ¬ (8 : Int) = 5 by decide, show ¬ (8 : Int) = 7 by decide, if_false, if_true, ZAz] at hcd
     have := Zqz.1 hcd.2.2 i (List.mem_range.2 (by omega))
     rw [hxd, h] at this
     cases this
   refine wX ?_
   refine Nd.mk ⟨hsa, by omega, by omega⟩ ?_
   refine wX ?_
   refine LdN.one (.string (bs x)) rfl (fun w hw => hw.1.1) (by rw [Zdz]; show (strC names)[i * 1]? = _; rw [Nat.mul_one]; exact Qcz hx) ?_
   refine wX ?_
   refine Qfd (Qzd x (hnw x hxm) _) ?_
   cases hiv : Qjp x with
   | false =>
    refine wX ?_
    exact Qac (hbad (by rw [hiv]; rfl))
   | true =>
   refine wX ?_
   refine ReadW.slc_hi rfl (by kernel_rfl) rfl rfl (by omega) ?_
   rw [Zdz]
   refine wX ?_
   refine Nd.mk ⟨hsa, by omega, by omega⟩ ?_
   refine wX ?_
   refine LdN.one (.string (bs x)) rfl (fun w hw => hw.1.1) (by rw [Zdz]; show (strC names)[i * 1]? = _; rw [Nat.mul_one]; exact Qcz hx) ?_
   refine wX ?_
   have htk : (names.take i).length = i := by rw [List.length_take]; omega
   have hh := QAw na nc (names.take i) x (fun h => by rw [hna h]; simp) (by omega)
   rw [htk] at hh
   refine Qfd (hh _ ?_) ?_
   ·exact fun w hw => Qt6 hw.1.1 (by omega)
   cases hmm : decide (x ∈ names.take i) with
   | true =>
    refine wX ?_
    exact Qac (hbad (by rw [hmm]; simp))
   | false =>
    refine wX ?_
    refine ⟨i + 1, ⟨by omega, fun j hj2 => ?_⟩, by omega, ?_, wHH⟩
    ·by_cases e : j = i
     ·subst e; rw [hxd, hiv, hmm]; rfl
     ·exact hj j (by omega)
    ·exact wKK
  ·have hin : i = names.length := by omega
   subst hin
   refine wX ?_
   refine Qac ?_
   unfold Qbi
   rw [hrB, hcn, Zqz.2 fun j hj2 => hj j (List.mem_range.1 hj2)]
   simp [hu]
   omega
theorem QA2 (a : Option Addr) (ca n : Nat) (hn : n <= 200000000000000) (p : Qaj) (hp : Qa5 p) : ∀ H, (∀ w, Qax H w -> Qbn p w) -> SpecH Tryz.prog 51 (pvs [.slice a n ca, Qpv p]) H (Ret (.bool (Qbi n p.c)) H) := by
 obtain ⟨⟨kind, num, text, names, items⟩, na, nc, ia, ic⟩ := p
 exact Qzf a ca n hn kind num text names items na nc ia ic hp.na hp.ia hp.nl hp.il hp.nw hp.tl hp.nb
end Go.Proofs.YtgogonnnojcioaaGreatDoor
namespace Go.Core
def keyB (g : List Cell) (a b : Int) : Bool := decide (a = b) || Qd7 (at_ g a) (at_ g b)
def Qtf (g : List Cell) (it : List Int) : Prop := ∃ i k : Nat, k < i /\ i < it.length /\ i % 2 = 0 /\ k % 2 = 0 /\ keyB g (it.getD i 0) (it.getD k 0) = true
end Go.Core
namespace Go.Proofs.YtgogonnnojcioaaGreatDoor
open Go.AX Go.RowKit Go.Core
set_option maxRecDepth 20000
theorem Qgx {l : List Qaj} {i : Nat} {p : Qaj} (h : l[i]? = some p) : at_ (l.map (·.c)) (i : Int) = p.c := by
 unfold at_
 rw [Zdz, Zlz, List.getElem?_map, h]
 rfl
set_option maxHeartbeats 1000000 in
theorem Qyo (a : Option Addr) (c : Nat) (l : List Qaj) (p : Qaj) (ha : a = none -> l = []) (hl : l.length <= 200000000000000) (hp : Qa5 p) (hin : ∀ x ∈ p.c.items, 0 <= x /\ x < (l.length : Int)) :
  ∀ H, (∀ w, Qax H w -> GrF a l w /\ Qbn p w) -> ∃ b : Bool, (b = true ↔ Qtf (l.map (·.c)) p.c.items) /\ SpecH Tryz.prog 92 (pvs [.slice a l.length c, Qpv p]) H (Ret (.bool b) H) := by
 intro H hH
 obtain ⟨b, hb⟩ : ∃ b : Bool, b = true ↔ Qtf (l.map (·.c)) p.c.items := by
  by_cases h : Qtf (l.map (·.c)) p.c.items
  ·exact ⟨true, fun _ => h, fun _ => rfl⟩
  ·exact ⟨false, (fun h => by cases h), fun h2 => absurd h2 h⟩
 refine ⟨b, hb, ?_⟩
 have hil := hp.il
 refine Qem hm Tryz.func92 (by kernel_rfl) rfl rfl ?_ H hH
 refine wX ?_
 refine Qdu Nat (fun i => i <= p.c.items.length + 1 /\ i % 2 = 0 /\ ∀ i' k, k < i' -> i' < i -> i' < p.c.items.length -> i' % 2 = 0 -> k % 2 = 0 -> keyB (l.map (·.c)) (p.c.items.getD i' 0) (p.c.items.getD k 0) = false) (fun i => mkS Tryz.f92.ntmps 0 [(0, .c (.v (.slice a l.length c))), (3, .c (.lp 1 0)), (5, .c (.v (.int .i64 (i : Int))))]) (fun i => p.c.items.length + 2 - i) rfl (fun _ => rfl) 0 ⟨Zkz _, rfl, fun _ _ _ h => by omega⟩ ?_ ?_
 ·exact wKK
 intro i ⟨hi, hi2, hno⟩
 refine wX ?_
 refine Qab (fun h1 => ?_) (fun h1 => ?_)
 ·obtain ⟨x, hx⟩ : ∃ x, p.c.items[i]? = some x := ⟨_, Zbz (by omega)⟩
  have hsi : p.ia.isSome = true := by
   cases hna : p.ia with
   | none => rw [hp.ia hna] at hx; cases hx
   | some b => rfl
  refine wX ?_
  refine Qdu Nat (fun k => k <= i + 1 /\ k % 2 = 0 /\ ∀ k', k' < k -> k' < i -> k' % 2 = 0 -> keyB (l.map (·.c)) (p.c.items.getD i 0) (p.c.items.getD k' 0) = false) (fun k => mkS Tryz.f92.ntmps 0 [(0, .c (.v (.slice a l.length c))), (3, .c (.lp 1 0)), (5, .c (.v (.int .i64 (i : Int)))), (6, .c (.v (.int .i64 (k : Int))))]) (fun k => i + 2 - k) rfl (fun _ => rfl) 0 ⟨Zkz _, rfl, fun _ h => by omega⟩ ?_ ?_
  ·exact wKK
  intro k ⟨hk, hk2, hnk⟩
  refine wX ?_
  refine Qab (fun h2 => ?_) (fun h2 => ?_)
  ·obtain ⟨y, hy⟩ : ∃ y, p.c.items[k]? = some y := ⟨_, Zbz (by omega)⟩
   obtain ⟨hx0, hx1⟩ := hin x (Ziz hx)
   obtain ⟨hy0, hy1⟩ := hin y (Ziz hy)
   obtain ⟨u, rfl⟩ : ∃ u : Nat, x = (u : Int) := ⟨x.toNat, by omega⟩
   obtain ⟨v, rfl⟩ : ∃ v : Nat, y = (v : Int) := ⟨y.toNat, by omega⟩
   obtain ⟨q, hq⟩ : ∃ q, l[u]? = some q := ⟨_, Zbz (by omega)⟩
   obtain ⟨r, hr⟩ : ∃ r, l[v]? = some r := ⟨_, Zbz (by omega)⟩
   have hke : keyB (l.map (·.c)) (p.c.items.getD i 0) (p.c.items.getD k 0) = (decide ((u : Int) = v) || Qd7 q.c r.c) := by
    rw [Zlz, Zlz, hx, hy]
    show keyB _ (u : Int) (v : Int) = _
    unfold keyB
    rw [Qgx hq, Qgx hr]
   refine wX ?_
   refine Nd.mk ⟨hsi, by omega, by omega⟩ ?_
   refine wX ?_
   refine LdN.one (.int .i64 (u : Int)) rfl (fun w hw => hw.1.2.2) (by rw [Zdz]; show (iC p.c.items)[i * 1]? = _; rw [Nat.mul_one]; exact Qcb hx) ?_
   refine wX ?_
   refine Nd.mk ⟨hsi, by omega, by omega⟩ ?_
   refine wX ?_
   refine LdN.one (.int .i64 (v : Int)) rfl (fun w hw => hw.1.2.2) (by rw [Zdz]; show (iC p.c.items)[k * 1]? = _; rw [Nat.mul_one]; exact Qcb hy) ?_
   refine wX ?_
   have hok := Qwt a c l u v q r hq hr ha hl
   rw [<- hke] at hok
   refine Qfd (hok _ ?_) ?_
   ·exact fun w hw => hw.1.1
   cases hkb : keyB (l.map (·.c)) (p.c.items.getD i 0) (p.c.items.getD k 0) with
   | true =>
    refine wX ?_
    exact Qac ((hb.2 ⟨i, k, by omega, by omega, hi2, hk2, hkb⟩).symm)
   | false =>
    refine wX ?_
    refine ⟨k + 2, ⟨by omega, by omega, fun k' h3 h4 h5 => ?_⟩, by omega, ?_, wHH⟩
    ·by_cases e : k' = k
     ·subst e; exact hkb
     ·exact hnk k' (by omega) h4 h5
    ·exact wKK
  ·refine wX ?_
   refine ⟨i + 2, ⟨by omega, by omega, fun i' k' h3 h4 h5 h6 h7 => ?_⟩, by omega, ?_, wHH⟩
   ·by_cases e : i' = i
    ·subst e; exact hnk k' (by omega) h3 h7
    ·exact hno i' k' h3 (by omega) h5 h6 h7
   ·exact wKK
 ·refine wX ?_
  refine Qac ?_
  cases b with
  | false => rfl
  | true =>
   obtain ⟨i', k, h2, h3, h4, h5, h6⟩ := hb.1 rfl
   rw [hno i' k h2 (by omega) h3 h4 h5] at h6
   cases h6
end Go.Proofs.YtgogonnnojcioaaGreatDoor
namespace Go.Core
def Qbe (g : List Cell) : Prop := g.length <= 500 /\ (∀ c ∈ g, Qbi g.length c = true) /\ ∀ c ∈ g, c.kind = 7 -> ¬ Qtf g c.items
theorem Qsd {n : Nat} {c : Cell} (h : Qbi n c = true) : ∀ x ∈ c.items, 0 <= x /\ x < (n : Int) := by
 unfold Qbi at h
 simp only [ZAz] at h
 intro x hx
 have := Zqz.1 h.1.1 x hx
 simpa using this
end Go.Core
namespace Go.Proofs.YtgogonnnojcioaaGreatDoor
open Go.AX Go.RowKit Go.Core Go.Scan
set_option maxRecDepth 20000
set_option maxHeartbeats 4000000 in
theorem Qq7 (a : Option Addr) (ca : Nat) (l : List Qaj) (ha : a = none -> l = []) (hl : l.length <= 200000000000000) (hok : ∀ p ∈ l, Qa5 p) :
  ∀ H, (∀ w, Qax H w -> GrF a l w) -> ∃ b : Bool, (b = true ↔ Qbe (l.map (·.c))) /\ SpecH Tryz.prog 31 (pvs [.slice a l.length ca]) H (Ret (.bool b) H) := by
 intro H hH
 obtain ⟨b, hb⟩ : ∃ b : Bool, b = true ↔ Qbe (l.map (·.c)) := by
  by_cases h : Qbe (l.map (·.c))
  ·exact ⟨true, fun _ => h, fun _ => rfl⟩
  ·exact ⟨false, (fun h => by cases h), fun h2 => absurd h2 h⟩
 refine ⟨b, hb, ?_⟩
 have hml : (l.map (·.c)).length = l.length := by simp
 have hno : ¬ Qbe (l.map (·.c)) -> false = b := fun h => by
  cases b with
  | false => rfl
  | true => exact absurd (hb.1 rfl) h
 refine Qem hm Tryz.func31 (by kernel_rfl) rfl rfl ?_ H hH
 refine wX ?_
 refine Qab (fun h0 => ?_) (fun h0 => ?_)
 ·refine wX ?_
  exact Qac (hno fun h => by have := h.1; omega)
 refine wX ?_
 refine Qdu Nat (fun i => i <= l.length /\ ∀ p ∈ l.take i, Qbi l.length p.c = true) (fun i => mkS Tryz.f31.ntmps 0 [(0, .c (.v (.slice a l.length ca))), (3, .c (.v (.int .i64 (i : Int))))]) (fun i => l.length - i) rfl (fun _ => rfl) 0 ⟨Zkz _, by simp⟩ ?_ ?_
 ·exact wKK
 intro i ⟨hi, hc⟩
 refine wX ?_
 refine Qab (fun h1 => ?_) (fun h1 => ?_)
 ·obtain ⟨p, hp⟩ : ∃ p, l[i]? = some p := ⟨_, Zbz (by omega)⟩
  have hpm := Ziz hp
  have hsa : a.isSome = true := by
   cases a with
   | none => rw [ha rfl] at hp; cases hp
   | some b => rfl
  refine wX ?_
  refine Nd.mk ⟨hsa, by omega, by omega⟩ ?_
  refine wX ?_
  refine LdN.agg (Qa2 p) rfl (fun w hw => hw.1.1) rfl (fun k hk => by rw [Zdz]; exact Qau l i k hk hp) ?_
  refine wX ?_
  refine Qao (QA2 a ca l.length hl p (hok p hpm) _ (fun w hw => hw.1.2 p hpm)) ?_
  cases hcd : Qbi l.length p.c with
  | false =>
   refine wX ?_
   exact Qac (hno fun h => by
    have := h.2.1 p.c (Zoz.2 ⟨p, hpm, rfl⟩)
    rw [hml, hcd] at this
    cases this)
  | true =>
   refine wX ?_
   refine ⟨i + 1, ⟨by omega, Qf9 hc hp hcd⟩, by omega, ?_, wHH⟩
   exact wKK
 have hil : i = l.length := by omega
 subst hil
 rw [Ztz] at hc
 clear h1
 refine wX ?_
 refine Qdu Nat (fun i => i <= l.length /\ ∀ p ∈ l.take i, p.c.kind = 7 -> ¬ Qtf (l.map (·.c)) p.c.items) (fun i => mkS Tryz.f31.ntmps 0 [(0, .c (.v (.slice a l.length ca))), (4, .c (.v (.int .i64 (i : Int))))]) (fun i => l.length - i) rfl (fun _ => rfl) 0 ⟨Zkz _, by simp⟩ ?_ ?_
 ·exact wKK
 intro i ⟨hi, ht⟩
 refine wX ?_
 refine Qab (fun h1 => ?_) (fun h1 => ?_)
 ·obtain ⟨p, hp⟩ : ∃ p, l[i]? = some p := ⟨_, Zbz (by omega)⟩
  have hpm := Ziz hp
  have hpo := hok p hpm
  have hpil := hpo.il
  have hsa : a.isSome = true := by
   cases a with
   | none => rw [ha rfl] at hp; cases hp
   | some b => rfl
  refine wX ?_
  refine Nd.mk ⟨hsa, by omega, by omega⟩ ?_
  refine wX ?_
  refine LdN.fld (.int .i64 p.c.kind) rfl (fun w hw => hw.1.1) (by rw [Zdz]; exact Qau l i 0 (by decide) hp) ?_
  refine wX ?_
  refine Qbb (fun h7 => ?_) (fun h7 => ?_)
  ·refine wX ?_
   refine ⟨i + 1, ⟨by omega, Qf9 ht hp (fun h => absurd h h7)⟩, by omega, ?_, wHH⟩
   exact wKK
  refine wX ?_
  refine Nd.mk ⟨hsa, by omega, by omega⟩ ?_
  refine wX ?_
  refine LdN.fld (.slice p.ia p.c.items.length p.ic) rfl (fun w hw => hw.1.1) (by rw [Zdz]; exact Qau l i 4 (by decide) hp) ?_
  refine wX ?_
  have hin := Qsd (hc p hpm)
  refine Qdu Nat (fun u => u <= p.c.items.length + 1 /\ u % 2 = 0 /\ ∀ i' k, k < i' -> i' < u -> i' < p.c.items.length -> i' % 2 = 0 -> k % 2 = 0 -> keyB (l.map (·.c)) (p.c.items.getD i' 0) (p.c.items.getD k 0) = false) (fun u => mkS Tryz.f31.ntmps 0 [(0, .c (.v (.slice a l.length ca))), (4, .c (.v (.int .i64 (i : Int)))), (5, .c (.v (.slice p.ia p.c.items.length p.ic))), (6, .c (.v (.int .i64 (u : Int))))]) (fun u => p.c.items.length + 2 - u) rfl (fun _ => rfl) 0 ⟨Zkz _, rfl, fun _ _ _ h => by omega⟩ ?_ ?_
  ·exact wKK
  intro u ⟨hu, hu2, hno2⟩
  refine wX ?_
  refine Qab (fun h2 => ?_) (fun h2 => ?_)
  ·obtain ⟨x, hx⟩ : ∃ x, p.c.items[u]? = some x := ⟨_, Zbz (by omega)⟩
   have hsi : p.ia.isSome = true := by
    cases hna : p.ia with
    | none => rw [hpo.ia hna] at hx; cases hx
    | some b => rfl
   refine wX ?_
   refine Qdu Nat (fun k => k <= u + 1 /\ k % 2 = 0 /\ ∀ k', k' < k -> k' < u -> k' % 2 = 0 -> keyB (l.map (·.c)) (p.c.items.getD u 0) (p.c.items.getD k' 0) = false) (fun k => mkS Tryz.f31.ntmps 0 [(0, .c (.v (.slice a l.length ca))), (4, .c (.v (.int .i64 (i : Int)))), (5, .c (.v (.slice p.ia p.c.items.length p.ic))), (6, .c (.v (.int .i64 (u : Int)))), (7, .c (.v (.int .i64 (k : Int))))]) (fun k => u + 2 - k) rfl (fun _ => rfl) 0 ⟨Zkz _, rfl, fun _ h => by omega⟩ ?_ ?_
   ·exact wKK
   intro k ⟨hk, hk2, hnk⟩
   refine wX ?_
   refine Qab (fun h3 => ?_) (fun h3 => ?_)
   ·obtain ⟨y, hy⟩ : ∃ y, p.c.items[k]? = some y := ⟨_, Zbz (by omega)⟩
    obtain ⟨hx0, hx1⟩ := hin x (Ziz hx)
    obtain ⟨hy0, hy1⟩ := hin y (Ziz hy)
    obtain ⟨xn, rfl⟩ : ∃ xn : Nat, x = (xn : Int) := ⟨x.toNat, by omega⟩
    obtain ⟨yn, rfl⟩ : ∃ yn : Nat, y = (yn : Int) := ⟨y.toNat, by omega⟩
    obtain ⟨q, hq⟩ : ∃ q, l[xn]? = some q := ⟨_, Zbz (by omega)⟩
    obtain ⟨r, hr⟩ : ∃ r, l[yn]? = some r := ⟨_, Zbz (by omega)⟩
    have hke : keyB (l.map (·.c)) (p.c.items.getD u 0) (p.c.items.getD k 0) = (decide ((xn : Int) = yn) || Qd7 q.c r.c) := by
     rw [Zlz, Zlz, hx, hy]
     show keyB _ (xn : Int) (yn : Int) = _
     unfold keyB
     rw [Qgx hq, Qgx hr]
    refine wX ?_
    refine Nd.mk ⟨hsi, by omega, by omega⟩ ?_
    refine wX ?_
    refine LdN.one (.int .i64 (xn : Int)) rfl (fun w hw => (hw.1.2 p hpm).2) (by rw [Zdz]; show (iC p.c.items)[u * 1]? = _; rw [Nat.mul_one]; exact Qcb (by assumption)) ?_
    refine wX ?_
    refine Nd.mk ⟨hsi, by omega, by omega⟩ ?_
    refine wX ?_
    refine LdN.one (.int .i64 (yn : Int)) rfl (fun w hw => (hw.1.2 p hpm).2) (by rw [Zdz]; show (iC p.c.items)[k * 1]? = _; rw [Nat.mul_one]; exact Qcb (by assumption)) ?_
    refine wX ?_
    have hoc := Qz9 a ca l xn yn q r hq hr ha hl
    rw [<- hke] at hoc
    refine Qfd (hoc _ ?_) ?_
    ·exact fun w hw => hw.1
    cases hkb : keyB (l.map (·.c)) (p.c.items.getD u 0) (p.c.items.getD k 0) with
    | true =>
     refine wX ?_
     exact Qac (hno fun h => h.2.2 p.c (Zoz.2 ⟨p, hpm, rfl⟩) h7 ⟨u, k, by omega, by omega, hu2, hk2, hkb⟩)
    | false =>
     refine wX ?_
     refine ⟨k + 2, ⟨by omega, by omega, fun k' h4 h5 h6 => ?_⟩, by omega, ?_, wHH⟩
     ·by_cases e : k' = k
      ·subst e; exact hkb
      ·exact hnk k' (by omega) h5 h6
     ·exact wKK
   ·refine wX ?_
    refine ⟨u + 2, ⟨by omega, by omega, fun i' k' g3 g4 g5 g6 g8 => ?_⟩, by omega, ?_, wHH⟩
    ·by_cases e : i' = u
     ·subst e; exact hnk k' (by omega) g3 g8
     ·exact hno2 i' k' g3 (by omega) g5 g6 g8
    ·exact wKK
  ·refine wX ?_
   refine ⟨i + 1, ⟨by omega, Qf9 ht hp (fun _ ⟨i', k, h3, h4, h5, h6, h8⟩ => by rw [hno2 i' k h3 (by omega) h4 h5 h6] at h8; cases h8)⟩, by omega, ?_, wHH⟩
   exact wKK
 ·have hil : i = l.length := by omega
  subst hil
  rw [Ztz] at ht
  refine wX ?_
  refine Qac (hb.2 ⟨by omega, fun c hcm => ?_, fun c hcm => ?_⟩).symm
  ·obtain ⟨p, hp, rfl⟩ := Zoz.1 hcm
   rw [hml]
   exact hc p hp
  ·obtain ⟨p, hp, rfl⟩ := Zoz.1 hcm
   exact ht p hp
end Go.Proofs.YtgogonnnojcioaaGreatDoor
namespace Go.AX
def Qr7 (P : Program) (C : World -> Prop) (o : Oper) (s : List AV) (K : AV -> Prop) : Prop :=
 match o.op with
 | .load _ _ => ∃ x, ReadC P C o s K x
 | .indexAddr _ _ _ => ∃ x, ReadC P C o s K x
 | _ => Qfo P o s K
def Qnw (P : Program) (C : World -> Prop) (ops : Array Oper) (l : List Nat) : List AV -> (List AV -> Prop) -> Prop :=
 List.rec (motive := fun _ => List AV -> (List AV -> Prop) -> Prop)
  (fun s K => K s)
  (fun k _ ih s K => Qfh ops k fun o => Qd3 ops o s (fun s => Qr7 P C o s fun av => putK s o.dst av fun s' => ih s' K)
   (fun s => putK s o.dst (.c (.v undef)) fun s' => ih s' K)) l
def QBg (P : Program) (ops : Array Oper) (i : Nat) (s : List AV) (H : List Ent) (K : Ex -> List AV -> List Ent -> Prop) (J : List AV -> List Ent -> Prop) : Prop :=
 Qfh ops i fun o => Qd3 ops o s (fun s => Qjm P o s H fun out H' => match out with
  | .val av => putK s o.dst av fun s' => J s' H'
  | .vals _ => False
  | .pan c => K (.pan c) s H') (fun s => putK s o.dst (.c (.v undef)) fun s' => J s' H)
def Qwg (P : Program) (ops : Array Oper) (C : World -> Prop) (K : Ex -> List AV -> List Ent -> Prop) (J : Nat -> Array Bool -> List AV -> List Ent -> Prop) : Prop :=
 ∀ n ls s H, J n ls s H -> (∀ w, Qax H w -> C w) /\ ((Region.ready .any ops ls = [] /\ K .normal s H) \/ (Region.ready .any ops ls ≠ [] /\ ∃ m, n = m + 1 /\ ∀ i ∈ Region.ready .any ops ls, QBg P ops i s H K (J m (ls.setIfInBounds i true))))
section
variable {P : Program} {ops : Array Oper} {C : World -> Prop} {K : Ex -> List AV -> List Ent -> Prop} {ρ0 : List Loc} {S0 : Nat -> Prop} {H0 : List Ent} {w0 : World} {dfs : List Deferred}
theorem Qpt {J : Nat -> Array Bool -> List AV -> List Ent -> Prop} (hJ : Qwg P ops C K J) : ∀ (n : Nat) (ls : Array Bool) (s : List AV) (H : List Ent), J n ls s H -> ∀ (ρ : List Loc) (S : Nat -> Prop) (w : World) (a : Act), Ev ρ0 S0 H0 w0 ρ S H w -> a.defers = dfs -> Sat ρ S H w -> RelS ρ s a.tmps.toList ->
  AnyC P ops (Post ρ0 S0 H0 w0 dfs K) C [] n ls a w := by
 intro n
 induction n with
 | zero =>
  intro ls s H h ρ S w a hev hdf hs hr
  obtain ⟨hC, h2⟩ := hJ 0 ls s H h
  rcases h2 with ⟨h3, h4⟩ | ⟨_, m, h3, _⟩
  ·exact ⟨fun _ => hC w hs.facts, h3, ρ, S, s, H, .normal, hs, hev, hr, hdf, trivial, h4⟩
  ·cases h3
 | succ n ih =>
  intro ls s H h ρ S w a hev hdf hs hr
  obtain ⟨hC, h2⟩ := hJ (n + 1) ls s H h
  refine ⟨fun _ => hC w hs.facts, fun h0 => ?_, fun i hi => ?_⟩
  ·rcases h2 with ⟨_, h4⟩ | ⟨h3, _⟩
   ·exact ⟨ρ, S, s, H, .normal, hs, hev, hr, hdf, trivial, h4⟩
   ·exact absurd h0 h3
  ·rcases h2 with ⟨h3, _⟩ | ⟨_, m, hm, h4⟩
   ·rw [h3] at hi; cases hi
   ·obtain rfl : n = m := by omega
    obtain ⟨o, ho, hq⟩ := Qc1 (h4 i hi)
    unfold wpOp
    simp only [ho]
    rcases Qbf hq hr with ⟨hw, s', h', hr'⟩ | ⟨hw, s', h', hr'⟩
    ·rw [if_pos hw]
     refine .inl (Qd4 (K := fun out H' => match out with
      | .val av => putK s' o.dst av fun s2 => J n (ls.setIfInBounds i true) s2 H'
      | .vals _ => False
      | .pan c => K (.pan c) s' H') h' hs hr' (fun ρ1 S1 H1 w1 av v hs1 hev1 hrel hK => ?_) (fun ρ1 S1 H1 w1 c hs1 hev1 hK => ?_) fun _ _ h => h)
     ·obtain ⟨s2, hK2, hput⟩ := Qap hK
      have hrs : RelS ρ1 s' a.tmps.toList := by obtain ⟨t, ht⟩ := hev1.pre; rw [ht]; exact Qb5 t hr'
      exact ih _ s2 H1 hK2 ρ1 S1 w1 _ (hev.trans hev1) (by rw [put_defers]; exact hdf) hs1 (hput ρ1 a v hrs hrel)
     ·exact ⟨ρ1, S1, s', H1, .pan c, hs1, hev.trans hev1, trivial, hdf, rfl, hK⟩
    ·rw [if_neg (by simp [hw])]
     obtain ⟨s2, hK2, hput⟩ := Qap h'
     exact ih _ s2 H hK2 ρ S w _ hev (by rw [put_defers]; exact hdf) hs (hput ρ a undef hr' rfl)
theorem Qhr {Q : Exit -> Act -> World -> Prop} {ρ : List Loc} {w : World} {g : Nat} {Ks : List AV -> Prop} {ls2 : Array Bool} (hsel : Region.noSelect ops = true) (hQ : ∀ c a d v w, Q (.panic c) (Act.put a d v) w -> Q (.panic c) a w)
  (next : ∀ s a, Ks s -> RelS ρ s a.tmps.toList -> a.defers = dfs -> AnyC P ops Q C [] g ls2 a w) : ∀ (l : List Nat) (s : List AV) (ls : Array Bool) (a : Act), Qnw P C ops l s Ks -> preB .any ops l ls = true -> Qa4 ls l = ls2 -> RelS ρ s a.tmps.toList -> a.defers = dfs ->
   AnyC P ops Q C [] (l.length + g) ls a w
 | [], s, ls, a, h, _, he, hr, hd => by
  have he' : ls = ls2 := he
  subst he'
  rw [List.length_nil, Nat.zero_add]; exact next s a h hr hd
 | k :: l, s, ls, a, h0, hB, he, hr, hd => by
  have h : Qfh ops k fun o => Qd3 ops o s (fun s => Qr7 P C o s fun av => putK s o.dst av fun s' => Qnw P C ops l s' Ks) (fun s => putK s o.dst (.c (.v undef)) fun s' => Qnw P C ops l s' Ks) := h0
  obtain ⟨o, ho, hq⟩ := Qc1 h
  simp only [preB, ZAz] at hB
  have hk1 : k ∈ Region.ready .any ops ls := by simpa using hB.1.1
  rw [Znz, Nat.add_right_comm]
  have fin : ∀ (v : Value) (s2 : List AV), Yields P ops o v a -> Qnw P C ops l s2 Ks -> RelS ρ s2 (a.put o.dst v).tmps.toList -> AnyC P ops Q C [] (l.length + g + 1) ls a w := fun v s2 hy hK hr2 =>
   Qg6 ho (Region.noSelect_spec hsel) (fun c a w h => hQ c a _ _ w h) (by simp) _ ls _ w (fun j oj hj hne hun hno => Region.free_spec ho hB.1.2 j oj hj hne hun hno) hk1 hy
    (Qhr hsel hQ next l s2 _ _ hK hB.2 he hr2 (by rw [put_defers]; exact hd))
  have finR : ∀ (v : Value) (s2 : List AV), YR P ops C o v a -> Qnw P C ops l s2 Ks -> RelS ρ s2 (a.put o.dst v).tmps.toList -> AnyC P ops Q C [] (l.length + g + 1) ls a w := fun v s2 hy hK hr2 =>
   Qp0 ho (Region.noSelect_spec hsel) (fun c a w h => hQ c a _ _ w h) _ ls _ w (fun j oj hj hne hun hno => Region.free_spec ho hB.1.2 j oj hj hne hun hno) hk1 hy
    (Qhr hsel hQ next l s2 _ _ hK hB.2 he hr2 (by rw [put_defers]; exact hd))
  rcases Qbf hq hr with ⟨hw, s', h', hr'⟩ | ⟨hw, s', h', hr'⟩
  ·by_cases hld : (∃ T x, o.op = .load T x) \/ ∃ T x i, o.op = .indexAddr T x i
   ·have h2 : ∃ x, ReadC P C o s' (fun av => putK s' o.dst av fun s2 => Qnw P C ops l s2 Ks) x := by
     have h3 := h'
     unfold Qr7 at h3
     rcases hld with ⟨T, y, hop⟩ | ⟨T, y, i, hop⟩
     ·simp only [hop] at h3
      exact h3
     ·simp only [hop] at h3
      exact h3
    obtain ⟨x, rc⟩ := h2
    obtain ⟨s2, hK2, hput⟩ := Qap rc.next
    refine finR x s2 (.inl ⟨hw, fun w' hw' => ?_⟩) hK2 (hput ρ a x hr' rfl)
    rw [execOp_congr o rc.sel (ρ' := Qat s') fun y hy => Qby hr' _ rc.plain y (Array.mem_toList_iff.2 hy)]
    exact rc.run w' hw'
   ·have h2 : Qfo P o s' fun av => putK s' o.dst av fun s2 => Qnw P C ops l s2 Ks := by
     have h3 := h'
     unfold Qr7 at h3
     split at h3
     ·rename_i T x hop
      exact absurd (.inl ⟨T, x, hop⟩) hld
     ·rename_i T x i hop
      exact absurd (.inr ⟨T, x, i, hop⟩) hld
     ·exact h3
    obtain ⟨av, v, hK, hrel, hrun⟩ := Qd8 (K := fun av => putK s' o.dst av fun s2 => Qnw P C ops l s2 Ks) h2 hr'
    obtain ⟨s2, hK2, hput⟩ := Qap hK
    exact fin v s2 (.inl ⟨hw, hrun⟩) hK2 (hput ρ a v hr' hrel)
  ·obtain ⟨s2, hK2, hput⟩ := Qap h'
   exact fin undef s2 (.inr ⟨hw, rfl⟩) hK2 (hput ρ a undef hr' rfl)
end
theorem DrawN.walk {P : Program} {ops : Array Oper} {s : List AV} {H : List Ent} {K : Ex -> List AV -> List Ent -> Prop} (hm : P.follows .mixedOrders = true) (C : World -> Prop) (rd : List Nat) (n : Nat) (J : Nat -> Array Bool -> List AV -> List Ent -> Prop) (hsel : Region.noSelect ops = true) (hn : decide (ops.size = rd.length + n) = true) (hrd : preB .any ops rd (Array.replicate ops.size false) = true)
  (hJ : Qwg P ops C K J) (next : Qnw P C ops rd s fun s1 => J n (Qa4 (Array.replicate ops.size false) rd) s1 H) : DrawN P ops s H K :=
 .sem fun id ρ S w a hs hr => by
  have hn := of_decide_eq_true hn
  refine wp_region_any hm ?_
  have e0 : wpAny P .any ops (Post ρ S H w a.defers K) ops.size = wpAny P .any ops (Post ρ S H w a.defers K) (rd.length + n) := by rw [<- hn]
  rw [e0]
  refine AnyC.any _ _ _ _ (Qhr (C := C) (dfs := a.defers) (ρ := ρ) hsel (fun c a d v w h => h.put) (fun s1 a1 h1 hr1 hd1 => ?_) rd s _ a next hrd rfl hr rfl)
  exact Qpt hJ n _ s1 H h1 ρ S _ a1 (Ev.drew ρ S H w) hd1 (hs.heap rfl) hr1
theorem SemR.mono {P : Program} {ops : Array Oper} {s : List AV} {H : List Ent} {K K' : Ex -> List AV -> List Ent -> Prop} (h : SemR P ops s H K') (hk : ∀ ex s' H', K' ex s' H' -> K ex s' H') : SemR P ops s H K :=
 fun id ρ S w a hs hr => wp_mono (h id ρ S w a hs hr) fun e a' w' ⟨ρ', S', s', H', ex, h1, h2, h3, h4, h5, h6⟩ => ⟨ρ', S', s', H', ex, h1, h2, h3, h4, h5, hk _ _ _ h6⟩
theorem BlindW.lenS {P : Program} {o : Oper} {s : List AV} {K : AV -> Prop} {x : Operand} {T : TypeId} {args : Array Operand} {ts : Array TypeId} {b : ByteArray} (ho : o.op = .call { callee := .builtin .len, args := args, argTypes := ts }) (ha : args = #[x]) (ht : ts = #[T]) (hu : P.underlying T = some .string)
  (hx : opv s x = .c (.v (.string b))) (hk : K (.c (.v (.int .i64 (b.size : Int))))) : ∃ x, BlindW P o s K x := by
 subst ha ht
 refine ⟨.int .i64 (b.size : Int), ?_, fun w => Qcd ho fun consts => ?_, hk⟩
 ·rw [ho]
  show Qar s [x] = true
  simp [Qar, hx]
 ·have he : Qat s x = .string b := by unfold Qat; rw [hx]
  simp [builtin, Builtin.len_, run_underlying hu, he, goInt]
end Go.AX
