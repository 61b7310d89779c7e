/-
  PreludePartsCardSaid is proved: of every name and every number PreludeParts returns true and leaves its arguments as they were; the listed tables are tied to the program's text.
-/
import Derived.Recover
import Derived.Test.YtkgmaplkomhjdaaDoorCards
import Derived.Test.YtkgmaplkomhjdaaDoorTie
import Derived.Lay
import Derived.Lib.LaidU8
import Derived.PinnedBridge
import Derived.Test.YtkgmaplkomhjdaaDoorPre4
set_option linter.unusedVariables false
set_option linter.unusedSimpArgs false
namespace Go.AX
def regionI (P : Program) (ops : Array Oper) (draw : Bool) (s : List AV) (H : List Ent) (K : Ex → List AV → List Ent → Prop) : Prop :=
 match draw with
 | false => execY P ops ops.toList s H K
 | true => DrawN P ops s H K
def execI (P : Program) (c : Code) : List AV → List Ent → (Ex → List AV → List Ent → Prop) → Prop :=
 Code.rec (motive := fun _ => List AV → List Ent → (Ex → List AV → List Ent → Prop) → Prop)
  (fun s H K => K .normal s H)
  (fun _ ops draw s H K => regionI P ops draw s H K)
  (fun _ _ ia ib s H K => SeqN ia ib s H K)
  (fun c _ _ ia ib s H K => condK c s (fun s => ia s H K) (fun s => ib s H K))
  (fun id _ ib s H K => ib s H (blockK id K))
  (fun _ ib s H K => LoopN ib s H K)
  (fun _ _ _ _ _ _ _ _ _ => False)
  (fun id s H K => K (.exit id) s H)
  (fun _ ib s H K => ib s H K)
  (fun _ s H K => K .normal s H)
  (fun _ _ _ _ => False)
  (fun s H K => K .ret s H)
  (fun _ _ _ _ => False)
  c
theorem execI_sound {P : Program} (hm : P.follows .mixedOrders = true) : ∀ (c : Code) (s : List AV) (H : List Ent) (K : Ex → List AV → List Ent → Prop), execI P c s H K →
  ∀ (ρ : List Loc) (S : Nat → Prop) (w : World) (a : Act), Sat ρ S H w → RelS ρ s a.tmps.toList → c.wp P (Post ρ S H w a.defers K) a w := by
 intro c
 induction c with
 | skip => intro s H K h ρ S w a hs hr; exact wp_skip ⟨ρ, S, s, H, .normal, hs, Ev.refl _ _ _ _, hr, rfl, trivial, h⟩
 | label l => intro s H K h ρ S w a hs hr; exact wp_label ⟨ρ, S, s, H, .normal, hs, Ev.refl _ _ _ _, hr, rfl, trivial, h⟩
 | exit id => intro s H K h ρ S w a hs hr; exact wp_exit ⟨ρ, S, s, H, .exit id, hs, Ev.refl _ _ _ _, hr, rfl, rfl, h⟩
 | ret => intro s H K h ρ S w a hs hr; exact wp_ret ⟨ρ, S, s, H, .ret, hs, Ev.refl _ _ _ _, hr, rfl, trivial, h⟩
 | goto l => intro s H K h; exact h.elim
 | refuse y => intro s H K h; exact h.elim
 | scope b ih =>
  intro s H K h0 ρ S w a hs hr
  have h : execI P b s H K := h0
  refine wp_scope_straight (wp_mono (ih s H K h ρ S w a hs hr) fun e a' w' hp => ?_)
  cases e with
  | goto l =>
   obtain ⟨ρ1, S1, s1, H1, ex, hs1, hev, hr1, hd, hex, hK⟩ := hp
   cases ex <;> exact hex.elim
  | _ => exact hp
 | rangeFunc f ps _ b _ _ => intro s H K h; exact h.elim
 | region id ops draw =>
  intro s H K h0 ρ S w a hs hr
  have h : regionI P ops draw s H K := h0
  clear h0
  unfold regionI at h
  split at h
  ·exact Trip.yields h ρ S w a hs hr
  ·have h0 : Cls ρ S H w { w with drawn := w.drawn + 1 } := ⟨S, hs.heap rfl, Ev.drew _ _ _ _⟩
   rcases h with ⟨hB, h⟩ | ⟨pre, hd, tl, hB, h⟩ | ⟨pre, hd, tl, hB, h⟩ | ⟨C, pre, hd, tl, hB, hC, h⟩ | ⟨pre, t, n, hB, h⟩ | h
   ·refine wp_region_quiet (C := Cls ρ S H w) hm hB h0 ?_
    have hq := execQ_sound ⟨_, h0⟩ _ _ h a hr
    refine exec_sound.wpQuiet_mono (fun a' ⟨s', hK, hr', hd⟩ w' ⟨S', hs', hev⟩ => ?_) _ _ hq
    exact ⟨ρ, S', s', H, .normal, hs', hev, hr', hd, trivial, hK⟩
   ·exact plan_sound hm hB h hs hr
   ·exact planQ_sound hm hB h hs hr
   ·exact planC_sound hm hB hC h hs hr
   ·exact tree_sound hm hB h hs hr
   ·exact h _ ρ S w a hs hr
 | seq x y ihx ihy =>
  intro s H K h0 ρ S w a hs hr
  have h : SeqN (execI P x) (execI P y) s H K := h0
  have key : ∀ K2 : Ex → List AV → List Ent → Prop, execI P x s H K2 → (∀ (e : Ex) (s1 : List AV) (H1 : List Ent) (ρ1 : List Loc) (S1 : Nat → Prop) (w1 : World) (a1 : Act), K2 e s1 H1 → Sat ρ1 S1 H1 w1 → Ev ρ S H w ρ1 S1 H1 w1 → relX e ρ1 s1 a1.tmps.toList → ∃ s2 H2 ρ2 S2, Sat ρ2 S2 H2 w1 ∧ Ev ρ S H w ρ2 S2 H2 w1 ∧ relX e ρ2 s2 a1.tmps.toList ∧ seqK (execI P y) K e s2 H2) → (Code.seq x y).wp P (Post ρ S H w a.defers K) a w := by
   intro K2 h2 hk
   refine wp_seq (wp_mono (ihx s H K2 h2 ρ S w a hs hr) fun e a' w' hp => ?_)
   obtain ⟨ρ0, S0, s0, H0, ex, hs0, hev0, hr0, hd, hex, hK0⟩ := hp
   obtain ⟨s1, H1, ρ1, S1, hs1, hev, hr1, hK⟩ := hk ex s0 H0 ρ0 S0 w' a' hK0 hs0 hev0 hr0
   cases ex with
   | normal =>
    cases e <;> first | exact hex.elim | skip
    refine wp_mono (ihy s1 H1 K hK ρ1 S1 w' a' hs1 hr1) fun e2 a2 w2 hp2 => ?_
    rw [hd] at hp2
    exact hp2.from hev
   | exit n => cases e <;> first | exact hex.elim | exact ⟨ρ1, S1, s1, H1, .exit n, hs1, hev, hr1, hd, hex, hK⟩
   | ret => cases e <;> first | exact hex.elim | exact ⟨ρ1, S1, s1, H1, .ret, hs1, hev, hr1, hd, hex, hK⟩
   | pan n => cases e <;> first | exact hex.elim | exact ⟨ρ1, S1, s1, H1, .pan n, hs1, hev, hr1, hd, hex, hK⟩
  rcases h with h | ⟨ι, inv, sl, hp, hlen, hoks, hokh, h, hnext⟩
  ·exact key _ h fun e s1 H1 ρ1 S1 w1 a1 hK hs1 hev hr1 => ⟨s1, H1, ρ1, S1, hs1, hev, hr1, hK⟩
  ·simp only [forceS_eq, forceH_eq] at hnext
   refine key _ h fun e s1 H1 ρ1 S1 w1 a1 hK hs1 hev hr1 => ?_
   cases e with
   | normal =>
    obtain ⟨j, hij, hws, hwh⟩ := hK
    have hw := hs1.weak hwh (hokh j hij)
    refine ⟨sl j, hp j, ρ1.take (hp j).length, S1, hw.1, ⟨?_, hev.os, hev.tape, hev.output, hev.size, hev.keep, hev.imm, fun b hb => hev.own b (hw.2 b hb)⟩, wkS_rel hws (hoks j hij) hr1, hnext j hij⟩
    obtain ⟨t, ht⟩ := hev.pre
    refine ⟨t.take ((hp j).length - ρ.length), ?_⟩
    rw [ht, List.take_append, List.take_of_length_le (by rw [hs.len]; exact hlen j hij)]
   | exit n => exact ⟨s1, H1, ρ1, S1, hs1, hev, hr1, hK⟩
   | ret => exact ⟨s1, H1, ρ1, S1, hs1, hev, hr1, hK⟩
   | pan n => exact ⟨s1, H1, ρ1, S1, hs1, hev, hr1, hK⟩
 | cond c x y ihx ihy =>
  intro s H K h0 ρ S w a hs hr
  have h : condK c s (fun s => execI P x s H K) (fun s => execI P y s H K) := h0
  obtain ⟨b, hb, hc⟩ := condK_spec h hr
  refine wp_cond hb ?_
  rcases hc with ⟨rfl, s', hK, hr'⟩ | ⟨rfl, s', hK, hr'⟩
  ·exact ihx s' H K hK ρ S w a hs hr'
  ·exact ihy s' H K hK ρ S w a hs hr'
 | block id b ih =>
  intro s H K h ρ S w a hs hr
  refine wp_block (wp_mono (ih s H (blockK id K) h ρ S w a hs hr) fun e a' w' hp => ?_)
  obtain ⟨ρ1, S1, s1, H1, ex, hs1, hev, hr1, hd, hex, hK⟩ := hp
  cases ex with
  | normal => cases e <;> first | exact hex.elim | exact ⟨ρ1, S1, s1, H1, .normal, hs1, hev, hr1, hd, trivial, hK⟩
  | ret => cases e <;> first | exact hex.elim | exact ⟨ρ1, S1, s1, H1, .ret, hs1, hev, hr1, hd, trivial, hK⟩
  | pan n => cases e <;> first | exact hex.elim | exact ⟨ρ1, S1, s1, H1, .pan n, hs1, hev, hr1, hd, hex, hK⟩
  | exit n =>
   cases e <;> first | exact hex.elim | skip
   rename_i m
   have hnm : n = m := hex
   subst hnm
   by_cases hid : n = id
   ·subst hid
    simp only [Exit.inBlock, if_true]
    have hK' : K .normal s1 H1 := by simpa [blockK] using hK
    exact ⟨ρ1, S1, s1, H1, .normal, hs1, hev, hr1, hd, trivial, hK'⟩
   ·simp only [Exit.inBlock, if_neg hid]
    have hbq : Nat.beq n id = false := by cases hq : Nat.beq n id with | false => rfl | true => exact absurd (Nat.eq_of_beq_eq_true hq) hid
    have hK' : K (.exit n) s1 H1 := by simpa [blockK, hbq] using hK
    exact ⟨ρ1, S1, s1, H1, .exit n, hs1, hev, hr1, hd, rfl, hK'⟩
 | loop b ih =>
  intro s H K h0 ρ S w a hs hr
  have h : LoopN (execI P b) s H K := h0
  rcases h with ⟨ι, inv, sl, hp, μ, pad, hpad, hlen, hoks, hokh, ⟨i0, hi0, hst, hsh⟩, hround⟩ | ⟨n, hU⟩ | ⟨ι, inv, sl, hp, μ, pad, hpad, hlen, hoks, hokh, ⟨i0, hi0, hst, hsh⟩, hround⟩
  ·obtain ⟨t0, hs0, hev0⟩ := Sat.pad pad hpad hs
   have hr0 := RelS_pre t0 hr
   refine wp_mono (P := P) (c := .loop b) (Q := Post (ρ ++ t0) S (H ++ pad) w a.defers K) ?_ fun e a' w' hp => hp.from hev0
   clear hs hr h0
   have hs := hs0
   have hr := hr0
   clear hs0 hr0
   generalize ρ ++ t0 = ρ at *
   generalize H ++ pad = H at *
   simp only [forceS_eq, forceH_eq] at hround
   refine wp_loop_by (fun n a' w' => ∃ i ρ' S', inv i ∧ μ i = n ∧ Sat ρ' S' (hp i) w' ∧ Ev ρ S H w ρ' S' (hp i) w' ∧ RelS ρ' (sl i) a'.tmps.toList ∧ a'.defers = a.defers) ?_ (μ i0) a w ?_
   ·rintro n a' w' ⟨i, ρ', S', hinv, rfl, hs', hev, hr', hd⟩
    refine wp_mono (ih (sl i) (hp i) _ (hround i hinv) ρ' S' w' a' hs' hr') fun e a2 w2 hq => ?_
    obtain ⟨ρ2, S2, s2, H2, ex, hs2, hev2, hr2, hd2, hex, hK⟩ := hq
    cases ex with
    | normal =>
     cases e <;> first | exact hex.elim | skip
     obtain ⟨j, hij, hj, hws, hwh⟩ := hK
     have hw := hs2.weak hwh (by rw [hlen]; exact hokh j hij)
     refine ⟨μ j, hj, j, ρ2.take (hp j).length, S2, hij, rfl, hw.1, ?_, ?_, hd2.trans hd⟩
     ·have h12 := hev.trans hev2
      refine ⟨?_, h12.os, h12.tape, h12.output, h12.size, h12.keep, h12.imm, fun b hb => h12.own b (hw.2 b hb)⟩
      obtain ⟨t, ht⟩ := h12.pre
      refine ⟨t.take ((hp j).length - ρ.length), ?_⟩
      rw [ht, List.take_append, List.take_of_length_le (by rw [hs.len, hlen]; omega)]
     ·rw [hlen]; exact wkS_rel hws (hoks j) hr2
    | exit n => cases e <;> first | exact hex.elim | exact ⟨ρ2, S2, s2, H2, .exit n, hs2, hev.trans hev2, hr2, hd2.trans hd, hex, hK⟩
    | ret => cases e <;> first | exact hex.elim | exact ⟨ρ2, S2, s2, H2, .ret, hs2, hev.trans hev2, hr2, hd2.trans hd, trivial, hK⟩
    | pan n => cases e <;> first | exact hex.elim | exact ⟨ρ2, S2, s2, H2, .pan n, hs2, hev.trans hev2, hr2, hd2.trans hd, hex, hK⟩
   ·have hw := hs.weak hsh (by rw [hlen]; exact hokh i0 hi0)
    have hρ : ρ.take (hp i0).length = ρ := List.take_of_length_le (by rw [hs.len, hlen]; omega)
    rw [hρ] at hw
    refine ⟨i0, ρ, S, hi0, rfl, hw.1, ⟨⟨[], by simp⟩, rfl, rfl, rfl, Nat.le_refl _, fun _ _ _ => rfl, fun b hb => .inl hb, fun b hb => .inl (hw.2 b hb)⟩, ?_, rfl⟩
    have := wkS_rel hst (hoks i0) hr
    rw [← hlen i0, hρ] at this
    exact this
  ·refine wp_loop_by (fun n a' w' => ∃ s' H' ρ' S', LoopU (execI P b) K n s' H' ∧ Sat ρ' S' H' w' ∧ Ev ρ S H w ρ' S' H' w' ∧ RelS ρ' s' a'.tmps.toList ∧ a'.defers = a.defers) ?_ n a w ⟨s, H, ρ, S, hU, hs, Ev.refl _ _ _ _, hr, rfl⟩
   rintro n a' w' ⟨s', H', ρ', S', hU, hs', hev, hr', hd⟩
   cases n with
   | zero => exact hU.elim
   | succ n =>
    refine wp_mono (ih s' H' _ hU ρ' S' w' a' hs' hr') fun e a2 w2 hq => ?_
    obtain ⟨ρ2, S2, s2, H2, ex, hs2, hev2, hr2, hd2, hex, hK⟩ := hq
    cases ex with
    | normal =>
     cases e <;> first | exact hex.elim | skip
     exact ⟨n, Nat.lt_succ_self n, s2, H2, ρ2, S2, hK, hs2, hev.trans hev2, hr2, hd2.trans hd⟩
    | exit n => cases e <;> first | exact hex.elim | exact ⟨ρ2, S2, s2, H2, .exit n, hs2, hev.trans hev2, hr2, hd2.trans hd, hex, hK⟩
    | ret => cases e <;> first | exact hex.elim | exact ⟨ρ2, S2, s2, H2, .ret, hs2, hev.trans hev2, hr2, hd2.trans hd, trivial, hK⟩
    | pan n => cases e <;> first | exact hex.elim | exact ⟨ρ2, S2, s2, H2, .pan n, hs2, hev.trans hev2, hr2, hd2.trans hd, hex, hK⟩
  ·obtain ⟨t0, hs0, hev0⟩ := Sat.pad pad hpad hs
   have hr0 := RelS_pre t0 hr
   refine wp_mono (P := P) (c := .loop b) (Q := Post (ρ ++ t0) S (H ++ pad) w a.defers K) ?_ fun e a' w' hp => hp.from hev0
   clear hs hr h0
   have hs := hs0
   have hr := hr0
   clear hs0 hr0
   generalize ρ ++ t0 = ρ at *
   generalize H ++ pad = H at *
   simp only [forceS_eq, forceH_eq] at hround
   refine wp_loop_by (fun n a' w' => ∃ i ρ' S', inv i ∧ μ i = n ∧ Sat ρ' S' (hp i) w' ∧ Ev ρ S H w ρ' S' (hp i) w' ∧ RelS ρ' (sl i) a'.tmps.toList ∧ a'.defers = a.defers) ?_ (μ i0) a w ?_
   ·rintro n a' w' ⟨i, ρ', S', hinv, rfl, hs', hev, hr', hd⟩
    refine wp_mono (ih (sl i) (hp i) _ (hround i hinv) ρ' S' w' a' hs' hr') fun e a2 w2 hq => ?_
    obtain ⟨ρ2, S2, s2, H2, ex, hs2, hev2, hr2, hd2, hex, hK⟩ := hq
    cases ex with
    | normal =>
     cases e <;> first | exact hex.elim | skip
     obtain ⟨j, hij, hj, hws, G, hT, hwh⟩ := hK
     obtain ⟨S3, hs3, hev3⟩ := hT.2 _ _ _ hs2
     have hw := hs3.weak hwh (by rw [hlen]; exact hokh j hij)
     refine ⟨μ j, hj, j, ρ2.take (hp j).length, S3, hij, rfl, hw.1, ?_, ?_, hd2.trans hd⟩
     ·have h12 := (hev.trans hev2).trans hev3
      refine ⟨?_, h12.os, h12.tape, h12.output, h12.size, h12.keep, h12.imm, fun b hb => h12.own b (hw.2 b hb)⟩
      obtain ⟨t, ht⟩ := h12.pre
      refine ⟨t.take ((hp j).length - ρ.length), ?_⟩
      rw [ht, List.take_append, List.take_of_length_le (by rw [hs.len, hlen]; omega)]
     ·rw [hlen]; exact wkS_rel hws (hoks j) hr2
    | exit n => cases e <;> first | exact hex.elim | exact ⟨ρ2, S2, s2, H2, .exit n, hs2, hev.trans hev2, hr2, hd2.trans hd, hex, hK⟩
    | ret => cases e <;> first | exact hex.elim | exact ⟨ρ2, S2, s2, H2, .ret, hs2, hev.trans hev2, hr2, hd2.trans hd, trivial, hK⟩
    | pan n => cases e <;> first | exact hex.elim | exact ⟨ρ2, S2, s2, H2, .pan n, hs2, hev.trans hev2, hr2, hd2.trans hd, hex, hK⟩
   ·obtain ⟨G, hT, hsh⟩ := hsh
    obtain ⟨S3, hs3, hev3⟩ := hT.2 _ _ _ hs
    have hw := hs3.weak hsh (by rw [hlen]; exact hokh i0 hi0)
    have hρ : ρ.take (hp i0).length = ρ := List.take_of_length_le (by rw [hs.len, hlen]; omega)
    rw [hρ] at hw
    refine ⟨i0, ρ, S3, hi0, rfl, hw.1, ⟨⟨[], by simp⟩, hev3.os, hev3.tape, hev3.output, hev3.size, hev3.keep, hev3.imm, fun b hb => hev3.own b (hw.2 b hb)⟩, ?_, rfl⟩
    have := wkS_rel hst (hoks i0) hr
    rw [← hlen i0, hρ] at this
    exact this
theorem specI_of_exec {P : Program} (hm : P.follows .mixedOrders = true) {f : FuncId} {fn : Func} {c : Code} (hf : P.funcs[f]? = some fn) (hn : (fn.name == "runtime.NumGoroutine") = false) (hb : fn.body = some c)
  {args : List AV} (hl : Nat.ble args.length fn.ntmps = true) {H : List Ent} {K : Out → List Ent → Prop} (h : initK fn.ntmps args fun s => execI P c s H (endK P fn.results.toList K)) : SpecH P f args H K := by
 refine ⟨⟨fn, hf, hn, by rw [hb]; rfl⟩, fun ρ S w vs hs hr => ?_⟩
 have hvl := RelS_len hr
 obtain ⟨s0, h, hs0⟩ := initK_rel h (Nat.le_of_ble_eq_true hl)
 have hinit : RelS ρ s0 (vs.toArray ++ Array.replicate (fn.ntmps - vs.toArray.size) undef).toList := by
  have := hs0 ρ vs hr
  simpa [hvl] using this
 refine calls_of_wp hf hb (wp_mono (execI_sound hm c _ H _ h ρ S w ⟨_, []⟩ hs hinit) ?_)
 ·intro e a w' hp
  obtain ⟨ρ1, S1, s1, H1, ex, hs1, hev, hr1, hd, hex, hK⟩ := hp
  have fin : RelS ρ1 s1 a.tmps.toList → ∀ {K' : Out → Prop}, resK P fn.results.toList s1 H1 K' → (∀ out, K' out → K out H1) → ∃ v, (results fn a.tmps).run P w' = .ok v w' ∧
    ∃ ρ' S' H' out, Sat ρ' S' H' w' ∧ Ev ρ S H w ρ' S' H' w' ∧ OutOk ρ' out (.returned v) ∧ K out H' := fun hr2 {_} hK1 hK2 => by
   obtain ⟨out, hK3, hres⟩ := resK_sound hK1
   obtain ⟨v, hrun, hv⟩ := hres ρ1 S1 w' a.tmps hs1 hr2
   exact ⟨v, hrun, ρ1, S1, H1, out, hs1, hev, hv, hK2 out hK3⟩
  cases ex with
  | normal =>
   cases e <;> first | exact hex.elim | skip
   obtain ⟨v, hrun, hR⟩ := fin hr1 (K' := fun out => K out H1) hK fun _ h => h
   exact ⟨hd, v, hrun, hR⟩
  | ret =>
   cases e <;> first | exact hex.elim | skip
   obtain ⟨v, hrun, hR⟩ := fin hr1 (K' := fun out => K out H1) hK fun _ h => h
   exact ⟨hd, v, hrun, hR⟩
  | exit n => exact hK.elim
  | pan ch =>
   cases e <;> first | exact hex.elim | skip
   have : ch = _ := hex
   subst this
   exact ⟨hd, ρ1, S1, H1, .pan ch, hs1, hev, rfl, hK⟩
theorem ReadW.slc_hi {P : Program} {o : Oper} {s : List AV} {H : List Ent} {K : AV → Prop} {t : TypeId} {x z : Operand} {a : Option Addr} {n cap : Nat} {k : IntKind} {j : Int} (ho : o.op = .slice t x none (some z) none) (hu : slcB P t = true)
  (hx : opv s x = .c (.v (.slice a n cap))) (hz : opv s z = .c (.v (.int k j))) (hj : 0 ≤ j ∧ j ≤ (cap : Int)) (h : K (.c (.v (.slice a j.toNat cap)))) : ReadW P o s H K := by
 obtain ⟨e, inf, hu, hi⟩ := slcB_spec hu
 refine ReadW.val _ (fun cs b => by rw [ho]; simp) (by rw [ho]; simp [Op.operands, allPlain, hx, hz]) (fun w _ => ?_) h
 have e1 := plainEv_v hx
 have e2 := plainEv_v hz
 have : (Instr.sliceAt t (.slice a n cap) none (some (.int k j)) none).run P w = .ok (.slice a j.toNat cap) w := by
  have ha : a.map (·.add 0) = a := by
   cases a with
   | none => rfl
   | some b => rfl
  simp [Instr.sliceAt, Instr.slice, run_underlying hu, Instr.sliceBounds, Instr.sliceBound, asIntOf, hj, sizeOf, typeInfo, hi, ha]
 refine run_op_slice ho ?_
 rw [e1]
 simpa [e2] using this
def MapIs (κ : IntKind) (es : Array MapEntry) (R : Int → Option Value) : Prop := ∀ k : Int, ∃ i, Instr.findNow (.int κ) (.int κ k) es.toList 0 = some ((R k).map fun v => (i, v))
theorem find_snoc {κ : IntKind} {k k' : Int} {v : Value} {born : Nat} : ∀ (l : List MapEntry) (i : Nat), (∀ q, Instr.findNow (.int κ) (.int κ k) l i = some (some q) → Instr.findNow (.int κ) (.int κ k) (l ++ [{ key := .int κ k', val := v, born := born }]) i = some (some q)) ∧
  (Instr.findNow (.int κ) (.int κ k) l i = some none → Instr.findNow (.int κ) (.int κ k) (l ++ [{ key := .int κ k', val := v, born := born }]) i = some (if k = k' then some (i + l.length, v) else none))
 | [], i => by
  refine ⟨(fun q h => by cases h), fun _ => ?_⟩
  by_cases h : k = k'
  ·subst h
   simp [Instr.findNow, Instr.sameNow]
  ·have hb : (k == k') = false := by simp [h]
   simp [Instr.findNow, Instr.sameNow, hb, h]
 | e :: l, i => by
  obtain ⟨h1, h2⟩ := find_snoc (κ := κ) (k := k) (k' := k') (v := v) (born := born) l (i + 1)
  simp only [List.cons_append, Instr.findNow]
  cases hs : Instr.sameNow (.int κ) (.int κ k) e.key with
  | none => exact ⟨(fun q h => by cases h), (fun h => by cases h)⟩
  | some b =>
   cases b with
   | true => exact ⟨(fun q h => h), (fun h => by cases h)⟩
   | false =>
    refine ⟨fun q h => h1 q h, fun h => ?_⟩
    rw [h2 h]
    simp only [List.length_cons]
    rw [show i + 1 + l.length = i + (l.length + 1) by omega]
theorem MapIs.nil {κ : IntKind} : MapIs κ #[] fun _ => none := fun _ => ⟨0, rfl⟩
theorem MapIs.put {κ : IntKind} {es : Array MapEntry} {R : Int → Option Value} (h : MapIs κ es R) {k' : Int} (hk : R k' = none) (v : Value) (born : Nat) : MapIs κ (es.push { key := .int κ k', val := v, born := born }) fun k => if k = k' then some v else R k := by
 intro k
 obtain ⟨i, hi⟩ := h k
 have hs := find_snoc (κ := κ) (k := k) (k' := k') (v := v) (born := born) es.toList 0
 rw [Array.toList_push]
 by_cases he : k = k'
 ·subst he
  rw [hk] at hi
  refine ⟨0 + es.toList.length, ?_⟩
  rw [hs.2 hi]
  simp
 ·show ∃ i, _ = some (Option.map (fun v => (i, v)) (if k = k' then some v else R k))
  rw [if_neg he]
  cases hr : R k with
  | none =>
   rw [hr] at hi
   exact ⟨0, by rw [hs.2 hi, if_neg he]; rfl⟩
  | some x =>
   rw [hr] at hi
   exact ⟨i, by rw [hs.1 _ hi]; rfl⟩
theorem MapIs.none {κ : IntKind} {es : Array MapEntry} {R : Int → Option Value} (h : MapIs κ es R) {k : Int} (hk : R k = .none) : Instr.findNow (.int κ) (.int κ k) es.toList 0 = some .none := by
 obtain ⟨i, hi⟩ := h k
 rw [hi, hk]
 rfl
end Go.AX
namespace Go.Proofs.YtkgmaplkomhjdaaDoor
open Go.AX Go.RowKit Go.Pre
set_option maxRecDepth 20000
abbrev boxE (pb : Nat) (x : List UInt8) : Ent := .app 9 1 [.string (bs x)] (some ⟨pb, 0, none⟩) 1 1
abbrev linesV (pb : Nat) : Value := .func (.func 30) #[] #[.pointer (some ⟨pb, 0, none⟩)]
theorem Lines_c (x : List UInt8) : SpecH Tryd.prog 17 (pvs [.string (bs x)]) [] (RetG (ι := Nat) (fun _ => True) linesV fun pb => [boxE pb x]) := by
 refine ownC hm Tryd.func17 (by kernel_rfl) rfl rfl (fun _ _ => okHB_eq rfl) (fun _ _ => Nat.le_of_ble_eq_true rfl) ?_
 refine wXB ?_
 refine BoxN.known [.string (bs x)] rfl fun pb => ?_
 refine wXB ?_
 exact ⟨pb, trivial, by simp [plainEv, opv, nth], wkE_refl _, wkH_nil _⟩
theorem YieldS.mono {P : Program} {l : Nat} {xs : List Value} {H : List Ent} {K K' : Out → List Ent → Prop} (h : YieldS P l xs H K) (hk : ∀ out H', K out H' → K' out H') : YieldS P l xs H K' :=
 fun ρ S w hs => by
  obtain ⟨fn, tmps, assign, body, hy, hR⟩ := h ρ S w hs
  exact ⟨fn, tmps, assign, body, hy, hR.mono fun _ _ ⟨ρ', S', H', out, a, b, c, d⟩ => ⟨ρ', S', H', out, a, b, c, hk _ _ d⟩⟩
set_option maxHeartbeats 1000000 in
theorem Lines1_c {l pb n : Nat} (x : List UInt8) (hx : x.length ≤ 1000000) (d e : Ent) {ι : Type} (inv : Nat → ι → Prop) (B : ι → List Ent) (hB : ∀ j, (B j).length = n) (hok : ∀ j, okH (n + 3) (B j ++ [d, e])) (j0 : ι) (h0 : inv 0 j0)
  (Y : ∀ i j z y, inv i j → (lnL x)[i]? = some z → LnAt x (i + 1) y → YieldS Tryd.prog l [.string (bs z)] (boxE pb y :: (B j ++ [d, e])) fun out H' => out = .val (.c (.v (.bool true))) ∧ ∃ j', inv (i + 1) j' ∧ H' = boxE pb y :: (B j' ++ [d, e])) :
  SpecH Tryd.prog 30 (pvs [.func (.yield l) #[] #[], .pointer (some ⟨pb, 0, none⟩)]) (boxE pb x :: (B j0 ++ [d, e])) fun out H' => out = .val (.c (.v (.tuple #[]))) ∧ ∃ j, inv (lnL x).length j ∧ H' = boxE pb [] :: (B j ++ [d, e]) := by
 refine specI_of_exec hm Tryd.func30 (by kernel_rfl) rfl rfl ?_
 refine wXS ?_
 refine LoopN.intro (Nat × List UInt8 × ι) (fun i => LnAt x i.1 i.2.1 ∧ i.2.1.length ≤ x.length ∧ inv i.1 i.2.2)
  (fun _ => mkS Tryd.f30.ntmps 0 [(0, .c (.v (.func (.yield l) #[] #[]))), (1, .c (.v (.pointer (some ⟨pb, 0, none⟩))))])
  (fun i => boxE pb i.2.1 :: (B i.2.2 ++ [d, e])) (fun i => i.2.1.length) [] rfl (fun i => by simp [hB]) (fun _ => rfl) (fun i _ => ?_)
  ⟨(0, x, j0), ⟨LnAt.zero x, Nat.le_refl _, h0⟩, ?_, ?_⟩ ?_
 ·have e : ((boxE pb x :: (B j0 ++ [d, e])) ++ []).length = n + 3 := by simp [hB]
  rw [e]
  exact ⟨trivial, hok i.2.2⟩
 ·exact wKK
 ·rw [List.append_nil]
  exact wkH_refl _
 rintro ⟨i, y, j⟩ ⟨hy, hyl, hj⟩
 have hj : inv i j := hj
 have hy : LnAt x i y := hy
 have hyl : y.length ≤ x.length := hyl
 refine wXS ?_
 rw [forceH_eq]
 refine wXS ?_
 refine LdN.one (a := some ⟨pb, 0, none⟩) (q := 0) (.string (bs y)) rfl (fun w hw => hw.1) rfl ?_
 refine wXS ?_
 refine brd_dec (fun h1 => ?_) (fun h1 => ?_)
 ·have hne : y ≠ [] := fun h => by rw [h] at h1; exact absurd h1 (by decide)
  have hyb : (bs y).size = y.length := bs_size y
  refine wXS ?_
  refine LdN.one (a := some ⟨pb, 0, none⟩) (q := 0) (.string (bs y)) rfl (fun w hw => hw.1) rfl ?_
  refine wXS ?_
  refine call1 (IndexByte_c y 10 _) ?_
  rcases ix_cases y with hx1 | ⟨k, hx1⟩
  ·rw [hx1]
   have hl := ln_last hne hx1
   obtain ⟨m1, m2, m3⟩ := hy.more hl
   refine wXS ?_
   refine LdN.one (a := some ⟨pb, 0, none⟩) (q := 0) (.string (bs y)) rfl (fun w hw => hw.1) rfl ?_
   refine wXS ?_
   refine EffW.appTo (i := 0) (q := 0) (ys := [_]) [.string (bs [])] 1 rfl rfl rfl rfl rfl rfl rfl (Nat.le_of_ble_eq_true rfl) rfl rfl ?_
   refine wXS ?_
   refine ⟨⟨rfl, rfl⟩, YieldS.mono (Y i j (y) ([]) hj m1 m2) ?_⟩
   rintro out H' ⟨rfl, j2, hj2, rfl⟩
   refine wXS ?_
   refine ⟨(i + 1, [], j2), ⟨m2, (Nat.zero_le _), hj2⟩, (List.length_pos_iff.2 hne), ?_, wkH_refl _⟩
   exact wKK
  ·rw [hx1]
   obtain ⟨hk, hl⟩ := ln_next hx1
   obtain ⟨m1, m2, m3⟩ := hy.more hl
   refine wXS ?_
   refine DrawN.plan [1, 5] [(0, 1), (2, 1), (3, 1), (4, 1), (6, 1), (7, 1), (8, 1)] [(9, 0)] (by decide +kernel) ?_
   (conv => whnf)
   refine LdN.one (a := some ⟨pb, 0, none⟩) (q := 0) (.string (bs y)) rfl (fun w hw => hw.1) rfl ?_
   (conv => whnf)
   have w1 : IntKind.i64.wrap ((k : Int) + 1) = ((k + 1 : Nat) : Int) := by rw [wrap_i64 (by omega)]; omega
   refine ReadW.sl_h (k + 1) rfl Tryd.underlying9 rfl rfl ⟨w1, by omega⟩ ?_
   (conv => whnf)
   refine LdN.one (a := some ⟨pb, 0, none⟩) (q := 0) (.string (bs y)) rfl (fun w hw => hw.1) rfl ?_
   (conv => whnf)
   refine ReadW.sl_l (k + 1) rfl Tryd.underlying9 rfl rfl ⟨w1, by omega⟩ ?_
   (conv => whnf)
   refine EffW.appTo (i := 0) (q := 0) (ys := [_]) [.string (bs (y.drop (k + 1)))] 1 rfl rfl rfl rfl rfl rfl rfl (Nat.le_of_ble_eq_true rfl) rfl rfl ?_
   refine wXS ?_
   refine ⟨⟨rfl, rfl⟩, YieldS.mono (Y i j (y.take (k + 1)) (y.drop (k + 1)) hj m1 m2) ?_⟩
   rintro out H' ⟨rfl, j2, hj2, rfl⟩
   refine wXS ?_
   refine ⟨(i + 1, y.drop (k + 1), j2), ⟨m2, (by show (y.drop (k + 1)).length ≤ x.length; rw [List.length_drop]; omega), hj2⟩, (by show (y.drop (k + 1)).length < y.length; rw [List.length_drop]; omega), ?_, wkH_refl _⟩
   exact wKK
 ·have he : y = [] := by
   have hyb : (bs y).size = y.length := bs_size y
   rw [hyb] at h1
   exact List.length_eq_zero_iff.1 (by omega)
  subst he
  refine wXS ?_
  exact ⟨rfl, j, by rw [← hy.done]; exact hj, rfl⟩
end Go.Proofs.YtkgmaplkomhjdaaDoor
namespace Go.AX
open Go.RowKit
theorem cell_alloc (w : World) (cells : List Value) (T : TypeId) (j : Nat) : (w.alloc (.cells cells.toArray T)).cell? ⟨w.heap.size, j, none⟩ = cells[j]? := by
 unfold World.cell?
 rw [heap_alloc_new]
 simp
theorem add_0 (b j : Nat) : Addr.add ⟨b, 0, none⟩ j = ⟨b, j, none⟩ := by
 unfold Addr.add
 split
 ·rename_i h; rw [h]
 ·simp
theorem specF_new {P : Program} {f : FuncId} {xs : List Value} {F : World → Prop} {T : TypeId} (ok : CallOk P f) {n : Nat} {cells : List Value} (hn : cells.length = n)
  (h : ∀ w, F w → Calls P f xs.toArray w fun e w' => e = .returned (.slice (some ⟨w.heap.size, 0, none⟩) n n) ∧ w' = w.alloc (.cells cells.toArray T)) :
  SpecF P f xs F fun v G => ∃ b, v = .slice (some ⟨b, 0, none⟩) n n ∧ ∀ w, G w → SlAt (some ⟨b, 0, none⟩) n cells w := by
 refine ⟨ok, fun S w hF hS => (h w hF.1).mono fun e w' ⟨he, hw⟩ => ⟨_, SlAt (some ⟨w.heap.size, 0, none⟩) n cells, fun b => b = w.heap.size, he, ⟨_, rfl, fun _ h => h⟩, ?_, fun b hb => .inr (by omega), fun b hb => ?_, ?_⟩⟩
 ·have hS1 : SlAt (some ⟨w.heap.size, 0, none⟩) n cells w' := ⟨hn, fun _ => rfl, fun j hj => by
   rw [hw]
   show (w.alloc (.cells cells.toArray T)).cell? (Addr.add ⟨w.heap.size, 0, none⟩ j) = _
   rw [add_0]
   exact cell_alloc w cells T j⟩
  refine ⟨hS1, fun w2 h2 => ⟨hn, fun _ => rfl, fun j hj => ?_⟩⟩
  have h1 := hS1.2.2 j hj
  rw [List.getElem?_eq_getElem (by omega)] at h1 ⊢
  refine cell?_keep h1 (h2 _ ?_)
  show (Addr.add ⟨w.heap.size, 0, none⟩ j).block = _
  rw [add_0]
 ·rw [hw, hb]
  simp
 ·rw [hw]
  exact (Below.refl _ _).alloc (Nat.le_refl _) _
end Go.AX
namespace Go.Proofs.YtkgmaplkomhjdaaDoor
open Go.AX Go.RowKit Go.Pre
set_option maxRecDepth 20000
def SpaceF (w : World) : Prop := Lib.TabIs Tryd.prog w "strings.asciiSpace" .u8 Lib.asciiSpaceTab
def PreF (w : World) : Prop := MaxF w ∧ SpaceF w
def Asc (s : List UInt8) : Prop := ∀ b ∈ s, b.toNat < 128
theorem Asc.at {s : List UInt8} (h : Asc s) : ∀ (j : Nat) b, (bs s).data.toList[j]? = some b → b.toNat < 128 := fun j b hb => h b (by rw [bs_list] at hb; exact List.mem_of_getElem? hb)
def strsC (l : List (List UInt8)) : List Value := l.map fun t => .string (bs t)
theorem strsC_get {l : List (List UInt8)} {i : Nat} {t : List UInt8} (h : l[i]? = some t) : (strsC l)[i]? = some (.string (bs t)) := by
 unfold strsC
 rw [List.getElem?_map, h]
 rfl
theorem Fields_c (s : List UInt8) (hs : s.length < 4294967281) (ha : Asc s) : SpecF Tryd.prog 29 [.string (bs s)] PreF fun v G => ∃ b, v = .slice (some ⟨b, 0, none⟩) (Lib.fields s).length (Lib.fields s).length ∧ ∀ w, G w → SlAt (some ⟨b, 0, none⟩) (Lib.fields s).length (strsC (Lib.fields s)) w :=
 specF_new (T := 9) (callOk Tryd.func29 (by kernel_rfl) rfl) (by simp [strsC]) fun w hw => (Tryd.strings_Fields (bs s) w (by rw [bs_size]; exact hs) ha.at hw.2).mono fun e w' ⟨he, hw⟩ => by
  rw [bs_list] at he hw
  exact ⟨he, hw⟩
theorem CutPrefix_c (s p : List UInt8) : ∀ H, SpecH Tryd.prog 18 (pvs [.string (bs s), .string (bs p)]) H (Ret (.tuple #[.string (bs (Lib.trimPrefix s p)), .bool (Lib.hasPrefix s p)]) H) := fun H =>
 SpecH.rawP (R := fun r => r = .tuple #[.string (bs (Lib.trimPrefix s p)), .bool (Lib.hasPrefix s p)]) (callOk Tryd.func18 (by kernel_rfl) rfl)
  (fun w _ => (Tryd.strings_CutPrefix (bs s) (bs p) w).mono fun e w' ⟨he, hw⟩ => ⟨_, he, by rw [bs_list, bs_list]; rfl, by subst hw; exact Below.refl _ _⟩) fun r hr => by subst hr; exact ⟨rfl, rfl⟩
theorem TrimPrefix_c (s p : List UInt8) : ∀ H, SpecH Tryd.prog 20 (pvs [.string (bs s), .string (bs p)]) H (Ret (.string (bs (Lib.trimPrefix s p))) H) := fun H =>
 SpecH.rawP (R := fun r => r = .string (bs (Lib.trimPrefix s p))) (callOk Tryd.func20 (by kernel_rfl) rfl)
  (fun w _ => (Tryd.strings_TrimPrefix (bs s) (bs p) w).mono fun e w' ⟨he, hw⟩ => ⟨_, he, by rw [bs_list, bs_list]; rfl, by subst hw; exact Below.refl _ _⟩) fun r hr => by subst hr; exact ⟨rfl, rfl⟩
theorem TrimLeft_c (s : List UInt8) (c : UInt8) (hc : c.toNat < 128) : ∀ H, SpecH Tryd.prog 23 (pvs [.string (bs s), .string (bs [c])]) H (Ret (.string (bs (Lib.trimLeftB s c))) H) := fun H =>
 SpecH.rawP (R := fun r => r = .string (bs (Lib.trimLeftB s c))) (callOk Tryd.func23 (by kernel_rfl) rfl)
  (fun w _ => (Tryd.strings_TrimLeft_one (bs s) c hc w).mono fun e w' ⟨he, hw⟩ => ⟨_, he, by rw [bs_list]; rfl, by subst hw; exact Below.refl _ _⟩) fun r hr => by subst hr; exact ⟨rfl, rfl⟩
theorem IndexAny_c (s p : List UInt8) (hs : s.length < 4294967281) (hp : p.length < 4294967281) (ha : Asc s) (hb : Asc p) : ∀ H, SpecH Tryd.prog 43 (pvs [.string (bs s), .string (bs p)]) H (Ret (.int .i64 (Lib.indexAny s p)) H) := fun H =>
 SpecH.rawP (R := fun r => r = .int .i64 (Lib.indexAny s p)) (callOk Tryd.func43 (by kernel_rfl) rfl)
  (fun w _ => (Tryd.strings_IndexAny_laid (bs s) (bs p) w (by rw [bs_size]; exact hs) (by rw [bs_size]; exact hp) ha.at hb.at).mono fun e w' ⟨he, hw⟩ => ⟨_, he, by rw [bs_list, bs_list], hw⟩) fun r hr => by subst hr; exact ⟨rfl, rfl⟩
theorem TrimSpace_c (s : List UInt8) (hs : s.length ≤ 9223372036854775807) (ha : Asc s) : ∀ H, (∀ w, Facts H w → SpaceF w) → SpecH Tryd.prog 19 (pvs [.string (bs s)]) H (Ret (.string (bs (Lib.trimSpace s))) H) := fun H hF =>
 SpecH.rawP (R := fun r => r = .string (bs (Lib.trimSpace s))) (callOk Tryd.func19 (by kernel_rfl) rfl)
  (fun w hw => (Tryd.strings_TrimSpace (bs s) w (by rw [bs_size]; exact hs) ha.at (hF w hw)).mono fun e w' ⟨he, hw⟩ => ⟨_, he, by rw [bs_list]; rfl, by
   subst hw
   refine ⟨rfl, rfl, rfl, ?_, fun k hk => Lib.bytesWorld_at_old w _ _ k hk⟩
   rw [Lib.bytesWorld_size]
   omega⟩) fun r hr => by subst hr; exact ⟨rfl, rfl⟩
end Go.Proofs.YtkgmaplkomhjdaaDoor
namespace Go.Proofs.YtkgmaplkomhjdaaDoor
open Go.AX Go.RowKit Go.Pre
set_option maxRecDepth 100000
def litO (o : Oper) : List UInt8 := match o.op with | .assign (.const (.string b)) => b.data.toList | _ => []
def litC (c : Code) : List UInt8 := match c with
 | .seq _ (.seq (.region _ ops _) _) => match ops.toList with | o :: _ => litO o | [] => []
 | _ => []
noncomputable def src : List UInt8 := match Tryd.f10.body with | some c => litC c | none => []
theorem src_len : src.length = 8638 := by kernel_rfl
noncomputable def lns : List (List UInt8) := lnL src
theorem lns_len : lns.length = 463 := by kernel_rfl
def ascB (l : List UInt8) : Bool := l.all fun b => Nat.blt b.toNat 128
theorem src_ascB : ascB src = true := by kernel_rfl
theorem src_asc : Asc src := fun b hb => Nat.le_of_ble_eq_true (List.all_eq_true.1 src_ascB b hb)
theorem Source_c : ∀ H, SpecH Tryd.prog 10 (pvs []) H (Ret (.string (bs src)) H) := by
 refine pureC hm Tryd.func10 (by kernel_rfl) rfl rfl ?_
 refine wX ?_
 rfl
theorem RSource_c : ∀ H, SpecH Tryd.prog 11 (pvs []) H (Ret (.string (bs src)) H) := by
 refine pureC hm Tryd.func11 (by kernel_rfl) rfl rfl ?_
 refine wX ?_
 rfl
end Go.Proofs.YtkgmaplkomhjdaaDoor
namespace Go.Pre
def classB : List UInt8 := [99, 108, 97, 115, 115, 32]
def moduleB : List UInt8 := [109, 111, 100, 117, 108, 101, 32]
def isHead (x : List UInt8) : Bool := classB.isPrefixOf x || moduleB.isPrefixOf x
def hname (x : List UInt8) : List UInt8 := (Lib.fields x).getD 1 []
abbrev Part := List UInt8 × List UInt8
def grow : List Part → List UInt8 → List Part
 | [], _ => []
 | [p], x => [(p.1, p.2 ++ x)]
 | p :: q :: l, x => p :: grow (q :: l) x
def addLn (l : List Part) (x : List UInt8) : List Part := grow (if isHead x then l ++ [(hname x, [])] else l) x
def parts (l : List (List UInt8)) : List Part := l.foldl addLn []
theorem grow_len : ∀ (l : List Part) (x : List UInt8), (grow l x).length = l.length
 | [], _ => rfl
 | [p], x => rfl
 | p :: q :: l, x => by rw [grow, List.length_cons, grow_len (q :: l) x]; rfl
theorem grow_snoc : ∀ (l : List Part) (p : Part) (x : List UInt8), grow (l ++ [p]) x = l ++ [(p.1, p.2 ++ x)]
 | [], p, x => rfl
 | [a], p, x => rfl
 | a :: b :: l, p, x => by
  show a :: grow ((b :: l) ++ [p]) x = _
  rw [grow_snoc (b :: l) p x]
  rfl
theorem grow_ne {l : List Part} (h : l ≠ []) (x : List UInt8) : ∃ m p, l = m ++ [p] ∧ grow l x = m ++ [(p.1, p.2 ++ x)] := by
 have h2 := List.dropLast_concat_getLast h
 refine ⟨l.dropLast, l.getLast h, h2.symm, ?_⟩
 have h3 := grow_snoc l.dropLast (l.getLast h) x
 rw [h2] at h3
 exact h3
def okLines (l : List (List UInt8)) : Bool := (match l with | [] => true | x :: _ => isHead x) && l.all fun x => !isHead x || Nat.ble 2 (Lib.fields x).length
end Go.Pre
namespace Go.Proofs.YtkgmaplkomhjdaaDoor
open Go.AX Go.RowKit Go.Pre
set_option maxRecDepth 100000
theorem lns_ok : okLines lns = true := by kernel_rfl
noncomputable def prt : List Part := parts lns
theorem prt_len : prt.length = 12 := by kernel_rfl
theorem lns_bd : lns.all (fun x => Nat.ble x.length 200) = true := by kernel_rfl
theorem prt_join : (prt.map Prod.snd).flatten = src := by kernel_rfl
end Go.Proofs.YtkgmaplkomhjdaaDoor
namespace Go.AX
abbrev Mk := Option (Nat × Nat)
def dfO : Obj := .deferred (some [])
def mkOk : Mk → List Ent → List Deferred → Prop
 | none, _, ds => ds = []
 | some (k, D), H, ds => ds = [{ target := .collected D, args := #[] }] ∧ H[k]? = some (obE D dfO)
def keepM : Mk → List Ent → Prop
 | none, _ => True
 | some (k, D), H => nthE H k = some (obE D dfO)
def PostM (ρ : List Loc) (S : Nat → Prop) (H : List Ent) (w : World) (K : Mk → Ex → List AV → List Ent → Prop) (e : Exit) (a' : Act) (w' : World) : Prop :=
 ∃ ρ' S' s' H' ex m, Sat ρ' S' H' w' ∧ Ev ρ S H w ρ' S' H' w' ∧ relX ex ρ' s' a'.tmps.toList ∧ mkOk m H' a'.defers ∧ exOk ex e ∧ K m ex s' H'
theorem PostM.from {ρ ρ1 : List Loc} {S S1 : Nat → Prop} {H H1 : List Ent} {w w1 : World} {K : Mk → Ex → List AV → List Ent → Prop} {e : Exit} {a' : Act} {w' : World}
  (hev : Ev ρ S H w ρ1 S1 H1 w1) (h : PostM ρ1 S1 H1 w1 K e a' w') : PostM ρ S H w K e a' w' := by
 obtain ⟨ρ', S', s', H', ex, m, h1, h2, h3, h4, h5, h6⟩ := h
 exact ⟨ρ', S', s', H', ex, m, h1, hev.trans h2, h3, h4, h5, h6⟩
def TripM (P : Program) (m : Mk) (c : Code) (s : List AV) (H : List Ent) (K : Mk → Ex → List AV → List Ent → Prop) : Prop :=
 ∀ (ρ : List Loc) (S : Nat → Prop) (w : World) (a : Act), Sat ρ S H w → RelS ρ s a.tmps.toList → mkOk m H a.defers → c.wp P (PostM ρ S H w K) a w
section
variable {P : Program} {m : Mk} {s : List AV} {H : List Ent} {K : Mk → Ex → List AV → List Ent → Prop}
theorem TripM.exec (hm : P.follows .mixedOrders = true) {c : Code} (h : AX.exec P c s H fun e s' H' => keepM m H' ∧ K m e s' H') : TripM P m c s H K := by
 intro ρ S w a hs hr hd
 refine wp_mono (exec_sound hm c s H _ h ρ S w a hs hr) fun e a' w' ⟨ρ', S', s', H', ex, h1, h2, h3, h4, h5, hk, hK⟩ => ⟨ρ', S', s', H', ex, m, h1, h2, h3, ?_, h5, hK⟩
 cases m with
 | none => exact h4.trans hd
 | some kd =>
  refine ⟨h4.trans hd.1, ?_⟩
  have hk : nthE H' kd.1 = some (obE kd.2 dfO) := hk
  rw [nthE_eq] at hk
  exact hk
theorem TripM.seq {x y : Code} (h : TripM P m x s H fun m' e s' H' => match e with | .normal => TripM P m' y s' H' K | e => K m' e s' H') : TripM P m (x.seq y) s H K := by
 intro ρ S w a hs hr hd
 refine wp_seq (wp_mono (h ρ S w a hs hr hd) fun e a' w' hp => ?_)
 obtain ⟨ρ1, S1, s1, H1, ex, m1, hs1, hev, hr1, hd1, hex, hK⟩ := hp
 cases ex with
 | normal =>
  cases e <;> first | exact hex.elim | skip
  exact wp_mono (hK ρ1 S1 w' a' hs1 hr1 hd1) fun e2 a2 w2 hp2 => hp2.from hev
 | exit n => cases e <;> first | exact hex.elim | exact ⟨ρ1, S1, s1, H1, .exit n, m1, hs1, hev, hr1, hd1, hex, hK⟩
 | ret => cases e <;> first | exact hex.elim | exact ⟨ρ1, S1, s1, H1, .ret, m1, hs1, hev, hr1, hd1, hex, hK⟩
 | pan n => cases e <;> first | exact hex.elim | exact ⟨ρ1, S1, s1, H1, .pan n, m1, hs1, hev, hr1, hd1, hex, hK⟩
theorem TripM.block {id : Nat} {b : Code} (h : TripM P m b s H fun m' e s' H' => blockK id (K m') e s' H') : TripM P m (.block id b) s H K := by
 intro ρ S w a hs hr hd
 refine wp_block (wp_mono (h ρ S w a hs hr hd) fun e a' w' hp => ?_)
 obtain ⟨ρ1, S1, s1, H1, ex, m1, hs1, hev, hr1, hd1, hex, hK⟩ := hp
 cases ex with
 | normal => cases e <;> first | exact hex.elim | exact ⟨ρ1, S1, s1, H1, .normal, m1, hs1, hev, hr1, hd1, trivial, hK⟩
 | ret => cases e <;> first | exact hex.elim | exact ⟨ρ1, S1, s1, H1, .ret, m1, hs1, hev, hr1, hd1, trivial, hK⟩
 | pan n => cases e <;> first | exact hex.elim | exact ⟨ρ1, S1, s1, H1, .pan n, m1, hs1, hev, hr1, hd1, hex, hK⟩
 | exit n =>
  cases e <;> first | exact hex.elim | skip
  rename_i q
  have hnm : n = q := hex
  subst hnm
  by_cases hid : n = id
  ·subst hid
   simp only [Exit.inBlock, if_true]
   have hK' : K m1 .normal s1 H1 := by simpa [blockK] using hK
   exact ⟨ρ1, S1, s1, H1, .normal, m1, hs1, hev, hr1, hd1, trivial, hK'⟩
  ·simp only [Exit.inBlock, if_neg hid]
   have hbq : Nat.beq n id = false := by cases hq : Nat.beq n id with | false => rfl | true => exact absurd (Nat.eq_of_beq_eq_true hq) hid
   have hK' : K m1 (.exit n) s1 H1 := by simpa [blockK, hbq] using hK
   exact ⟨ρ1, S1, s1, H1, .exit n, m1, hs1, hev, hr1, hd1, rfl, hK'⟩
def plainSB : List AV → Bool
 | [] => true
 | .c (.v _) :: s => plainSB s
 | .c .any :: s => plainSB s
 | _ :: _ => false
theorem plainSB_rel : ∀ {s : List AV} {xs : List Value} {ρ ρ' : List Loc}, plainSB s = true → RelS ρ s xs → RelS ρ' s xs
 | [], [], _, _, _, _ => trivial
 | .c (.v x) :: s, y :: ys, _, _, h, hr => ⟨hr.1, plainSB_rel (s := s) h hr.2⟩
 | .c .any :: s, y :: ys, _, _, h, hr => ⟨trivial, plainSB_rel (s := s) h hr.2⟩
 | .c (.lp _ _) :: _, _, _, _, h, _ => by cases h
 | .c (.sl _ _) :: _, _, _, _, h, _ => by cases h
 | .agg _ :: _, _, _, _, h, _ => by cases h
 | [], _ :: _, _, _, _, hr => hr.elim
 | .c (.v _) :: _, [], _, _, _, hr => hr.elim
 | .c .any :: _, [], _, _, _, hr => hr.elim
theorem TripM.range (hm : P.follows .mixedOrders = true) {t p g : Nat} {assign body : Code} {lb : Array Value} (hA : calmC assign = true) (hB : calmC body = true) (hf : nth s t = .c (.v (.func (.func g) #[] lb))) (hp : plainSB s = true)
  (run : ∀ (D l : Nat) (o : Obj),
   (∀ (x : Value) (A : List Ent) (Q : List Ent → Prop), RoundC P assign body s p x A Q → YieldS P l [x] (A ++ [obE D dfO, obE l o]) fun out H' => out = .val (.c (.v (.bool true))) ∧ ∃ B, Q B ∧ B.length = A.length ∧ H' = B ++ [obE D dfO, obE l o]) →
   SpecH P g (pvs (.func (.yield l) #[] #[] :: lb.toList)) (H ++ [obE D dfO, obE l o]) fun out H' => (∃ x, out = .val (.c (.v x))) ∧ ∃ A, A.length = H.length ∧ H' = A ++ [obE D dfO, obE l o] ∧ K (some (H.length, D)) .normal s (A ++ [obE D dfO, .dead])) :
  TripM P none (.rangeFunc (.tmp t) #[p] assign body) s H K := by
 intro ρ S w a hsat hr hd
 have hd : a.defers = [] := hd
 refine wpIn_wide.1 (wpIn_rangeFunc (n := 0) fun fn _ => ?_)
 have hev : a.eval (.tmp t) = .func (.func g) #[] lb := by
  have := opv_rel hr (.tmp t)
  have e : opv s (.tmp t) = .c (.v (.func (.func g) #[] lb)) := hf
  rw [e] at this
  exact this
 obtain ⟨o, ho⟩ : ∃ o : Obj, o = .loop { state := .ready, pending := none, fn, tmps := a.tmps, params := #[p], assign, body, defers := w.heap.size } := ⟨_, rfl⟩
 have n1 := hsat.newOb dfO
 have n2 := n1.1.newOb o
 rw [World.size_alloc] at n2
 have e2 : (H ++ [obE w.heap.size dfO]) ++ [obE (w.heap.size + 1) o] = H ++ [obE w.heap.size dfO, obE (w.heap.size + 1) o] := by simp
 rw [e2] at n2
 have hspec := run w.heap.size (w.heap.size + 1) o fun x A Q h => by
  rw [ho]
  exact yield_of_round hm hA hB (fun ρ' => plainSB_rel hp hr) h
 obtain ⟨fn', hg1, hg2, hg3⟩ := hspec.ok
 have hb : fn'.body.isNone = false := by cases hfn : fn'.body <;> simp_all
 have hen : (Instr.enterLoop fn a.tmps #[p] assign body Fence.wide.round).run P w = .ok (w.heap.size + 1, [{ target := .collected w.heap.size, args := #[] }]) ((w.alloc dfO).alloc o) := by
  rw [ho]
  exact run_enterLoop_outer fn a.tmps #[p] assign body
 refine ⟨w.heap.size + 1, [{ target := .collected w.heap.size, args := #[] }], (w.alloc dfO).alloc o, { target := .fn (.func g) lb, args := #[.func (.yield (w.heap.size + 1)) #[] #[]] }, (w.alloc dfO).alloc o, g, #[.func (.yield (w.heap.size + 1)) #[] #[]] ++ lb, (w.alloc dfO).alloc o, hen, ?_, fun _ _ => trivial, ?_, (fun h => by cases h), ?_⟩
 ·simp only [resolve, hev]
  simp [go_sem]
 ·simp only [invoke, callFunc, Sem.run_bind, Sem.run_pure, Result.andThen_ok, run_program, hg1, hg2, hb, Bool.false_eq_true, if_false]
 ·have hcall := hspec.run _ S _ _ n2.1 (pvs_rel _ _)
  have e : (Value.func (.yield (w.heap.size + 1)) #[] #[] :: lb.toList).toArray = #[.func (.yield (w.heap.size + 1)) #[] #[]] ++ lb := by
   apply Array.ext'
   simp
  rw [e] at hcall
  refine callsIn_wide.2 (hcall.mono ?_)
  rintro e w' ⟨ρ1, S1, H1, out, hs1, hev1, hout, ⟨x, rfl⟩, A, hA1, rfl, hK⟩
  obtain ⟨v, rfl, hv⟩ := hout
  have hl := hs1.ob (get_two A (obE w.heap.size dfO) (obE (w.heap.size + 1) o)).1
  rw [ho] at hl
  have hend := run_endLoop (P := P) hl (by simp)
  have h3 := hs1.setOb (get_two A (obE w.heap.size dfO) (obE (w.heap.size + 1) o)).1 (.loop { state := .exhausted, pending := none, fn, tmps := a.tmps, params := #[p], assign, body, defers := w.heap.size })
  rw [set_two] at h3
  have h4 := h3.1.setNil0 (get_two A (obE w.heap.size dfO) (obE (w.heap.size + 1) _)).1
  rw [set_two] at h4
  refine ⟨none, _, hend, ρ1, S1, s, _, .normal, some (H.length, w.heap.size), h4.1, ?_, plainSB_rel hp hr, ⟨?_, ?_⟩, trivial, hK⟩
  ·exact (((n1.2.trans n2.2).trans hev1).trans h3.2).trans h4.2
  ·show [{ target := .collected w.heap.size, args := #[] }] ++ a.defers = _
   rw [hd]
   rfl
  ·rw [← hA1]
   exact (get_two A _ _).2
end
def endM (P : Program) (rs : List ResultVar) (K : Out → List Ent → Prop) (m : Mk) (e : Ex) (s : List AV) (H : List Ent) : Prop :=
 match e with
 | .normal | .ret => match m with
  | none => resK P rs s H fun out => K out H
  | some (k, D) => resK P rs s (H.set k (obE D (.deferred none))) fun out => K out (H.set k (obE D (.deferred none)))
 | _ => False
theorem spec_of_tripM {P : Program} {f : FuncId} {fn : Func} {c : Code} (hf : P.funcs[f]? = some fn) (hn : (fn.name == "runtime.NumGoroutine") = false) (hb : fn.body = some c)
  {args : List AV} (hl : Nat.ble args.length fn.ntmps = true) {H : List Ent} {K : Out → List Ent → Prop} (h : initK fn.ntmps args fun s => TripM P none c s H (endM P fn.results.toList K)) : SpecH P f args H K := by
 refine ⟨⟨fn, hf, hn, by rw [hb]; rfl⟩, fun ρ S w vs hs hr => ?_⟩
 have hvl := RelS_len hr
 obtain ⟨s0, h, hs0⟩ := initK_rel h (Nat.le_of_ble_eq_true hl)
 have hinit : RelS ρ s0 (vs.toArray ++ Array.replicate (fn.ntmps - vs.toArray.size) undef).toList := by
  have := hs0 ρ vs hr
  simpa [hvl] using this
 refine callsIn_wide.1 (callsIn_of_wp_marks (n := 0) hf hb trivial (wpIn_wide.2 (wp_mono (h ρ S w ⟨_, []⟩ hs hinit rfl) ?_)))
 intro e a w' hp
 obtain ⟨ρ1, S1, s1, H1, ex, m1, hs1, hev, hr1, hd, hex, hK⟩ := hp
 have key : RelS ρ1 s1 a.tmps.toList → endM P fn.results.toList K m1 .ret s1 H1 →
   LeavesInM Fence.wide 0 P fn a.tmps (fun e w' => ∃ ρ' S' H' out, Sat ρ' S' H' w' ∧ Ev ρ S H w ρ' S' H' w' ∧ OutOk ρ' out e ∧ K out H') a.defers .returning w' := fun hr1 hK => by
  cases m1 with
  | none =>
   have hd : a.defers = [] := hd
   rw [hd]
   have hK : resK P fn.results.toList s1 H1 (fun out => K out H1) := hK
   obtain ⟨out, hK3, hres⟩ := resK_sound hK
   obtain ⟨v, hrun, hv⟩ := hres ρ1 S1 w' a.tmps hs1 hr1
   exact ⟨v, hrun, ρ1, S1, H1, out, hs1, hev, hv, hK3⟩
  | some kd =>
   obtain ⟨k, D⟩ := kd
   obtain ⟨hd, hk⟩ := hd
   rw [hd]
   have hob := hs1.ob hk
   have hset := hs1.setOb hk (.deferred none)
   have hK : resK P fn.results.toList s1 (H1.set k (obE D (.deferred none))) (fun out => K out (H1.set k (obE D (.deferred none)))) := hK
   obtain ⟨out, hK3, hres⟩ := resK_sound hK
   obtain ⟨v, hrun, hv⟩ := hres ρ1 S1 _ a.tmps hset.1 hr1
   exact ⟨by simp, .inl ⟨_, _, rfl, run_takeDeferred hob, v, hrun, ρ1, S1, _, out, hset.1, hev.trans hset.2, hv, hK3⟩⟩
 cases ex with
 | normal =>
  cases e <;> first | exact hex.elim | skip
  exact key hr1 hK
 | ret =>
  cases e <;> first | exact hex.elim | skip
  exact key hr1 hK
 | exit n => exact hK.elim
 | pan ch => exact hK.elim
end Go.AX
namespace Go.AX
end Go.AX
namespace Go.AX
section
variable {P : Program} {ops : Array Oper} {C : World → Prop} {kn : List Nat}
variable {K : Ex → List AV → List Ent → Prop} {ρ0 : List Loc} {S0 : Nat → Prop} {H0 : List Ent} {w0 : World} {dfs : List Deferred}
end
theorem ReadC.idxA {P : Program} {C : World → Prop} {o : Oper} {s : List AV} {K : AV → Prop} {T e : TypeId} {inf : TypeInfo} {x i : Operand} {a : Option Addr} {n cap sz : Nat} {kk : IntKind} (k : Nat) (ho : o.op = .indexAddr T x i) (hu : P.underlying T = some (.slice e)) (hi : P.info? e = some inf) (hsz : inf.size = sz)
  (hx : opv s x = .c (.v (.slice a n cap))) (hy : opv s i = .c (.v (.int kk (k : Int)))) (ha : a.isSome = true) (hk : k < n) (next : K (.c (.v (.pointer (some (elemAddr a (k * sz))))))) : ∃ x, ReadC P C o s K x := by
 cases a with
 | none => cases ha
 | some p =>
  refine ⟨.pointer (some (elemAddr (some p) (k * sz))), fun cs b e => (by rw [ho] at e; cases e), by rw [ho]; show allPlain s [x, i] = true; simp [allPlain, hx, hy], fun w _ => ?_, next⟩
  have hx2 : plainEv s x = .slice (some p) n cap := by unfold plainEv; rw [hx]
  have hy2 : plainEv s i = .int kk (k : Int) := by unfold plainEv; rw [hy]
  have h := run_indexAt (P := P) hu hi w p n cap kk (k : Int) ⟨by omega, by omega⟩
  rw [Int.toNat_natCast, hsz] at h
  exact execOp_indexAddr ho (by rw [hx2, hy2]; exact h)
end Go.AX
namespace Go.AX
theorem turn_refl (H : List Ent) : TurnS H H := ⟨rfl, fun ρ S w hs => ⟨S, hs, Ev.refl _ _ _ _⟩⟩
end Go.AX
namespace Go.AX
end Go.AX
namespace Go.AX
structure RowD where
 T : TypeId
 sz : Nat
 n : Nat
 xs : List Value
 b : Nat
 cap : Nat
def RowD.ok (r : RowD) (w : World) : Prop := RowF r.T r.sz r.n r.xs r.b r.cap w
def TurnE (H G : List Ent) : Prop := G.length = H.length ∧ ∀ (ρ : List Loc) (S : Nat → Prop) (w : World), Sat ρ S H w → Sat ρ S G w ∧ Ev ρ S H w ρ S G w
theorem TurnE.s {H G : List Ent} (h : TurnE H G) : TurnS H G := ⟨h.1, fun ρ S w hs => ⟨S, h.2 ρ S w hs⟩⟩
theorem TurnE.trans {H G J : List Ent} (h : TurnE H G) (k : TurnE G J) : TurnE H J :=
 ⟨k.1.trans h.1, fun ρ S w hs => by
  obtain ⟨h1, e1⟩ := h.2 ρ S w hs
  obtain ⟨h2, e2⟩ := k.2 ρ S w h1
  exact ⟨h2, e1.trans e2⟩⟩
theorem TurnS.trans {H G J : List Ent} (h : TurnS H G) (k : TurnS G J) : TurnS H J :=
 ⟨k.1.trans h.1, fun ρ S w hs => by
  obtain ⟨S1, h1, e1⟩ := h.2 ρ S w hs
  obtain ⟨S2, h2, e2⟩ := k.2 ρ S1 w h1
  exact ⟨S2, h2, e1.trans e2⟩⟩
def Ent.bare : Ent → Bool
 | .app .. => true
 | .mp .. => true
 | .fam .. => true
 | .dead => true
 | _ => false
end Go.AX
namespace Go.AX
def Ent.loose : Ent → Bool
 | .fact _ => true
 | e => e.bare
def looseB (e : Ent) (b : Nat) : Prop := entB [] 0 e b
theorem EntOk.loose {ρ ρ' : List Loc} {S : Nat → Prop} {w : World} {i j : Nat} {e : Ent} (he : e.loose = true) (h : EntOk ρ S w i e) : EntOk ρ' S w j e := by
 cases e <;> first | (cases he; done) | exact h
theorem entB_loose {ρ ρ' : List Loc} {i j b : Nat} {e : Ent} (he : e.loose = true) (h : entB ρ i e b) : entB ρ' j e b := by
 cases e <;> first | (cases he; done) | exact h
theorem turn_perm {H G : List Ent} (hl : H.all Ent.loose = true) (hp : H.Perm G) : TurnS H G := by
 have hlH : ∀ e ∈ H, e.loose = true := List.all_eq_true.1 hl
 have hlG : ∀ e ∈ G, e.loose = true := fun e he => hlH e (hp.mem_iff.2 he)
 refine ⟨hp.length_eq.symm, fun ρ S w hs => ⟨S, ?_, ?_⟩⟩
 ·have hpw : H.Pairwise fun e f => ∀ b, ¬ (looseB e b ∧ looseB f b) := by
   rw [List.pairwise_iff_getElem]
   intro i j hi hj hij b ⟨h1, h2⟩
   have e1 := List.getElem?_eq_getElem hi
   have e2 := List.getElem?_eq_getElem hj
   have := hs.inj i j _ _ b e1 e2 (entB_loose (hlH _ (List.getElem_mem hi)) h1) (entB_loose (hlH _ (List.getElem_mem hj)) h2)
   omega
  have hpg : G.Pairwise fun e f => ∀ b, ¬ (looseB e b ∧ looseB f b) := (hp.pairwise_iff fun {e f} h b hb => h b ⟨hb.2, hb.1⟩).1 hpw
  rw [List.pairwise_iff_getElem] at hpg
  refine ⟨by rw [hs.len, hp.length_eq], fun i e he => ?_, fun i j e f b he hf heb hfb => ?_, fun b ⟨i, e, he, heb⟩ => ?_, hs.low⟩
  ·have hm := hp.mem_iff.2 (List.mem_of_getElem? he)
   obtain ⟨j, hj⟩ := List.getElem?_of_mem hm
   exact (hs.ent j e hj).loose (hlH e hm)
  ·obtain ⟨hi, rfl⟩ := List.getElem?_eq_some_iff.1 he
   obtain ⟨hj, rfl⟩ := List.getElem?_eq_some_iff.1 hf
   have h1 := entB_loose (ρ' := []) (j := 0) (hlG _ (List.getElem_mem hi)) heb
   have h2 := entB_loose (ρ' := []) (j := 0) (hlG _ (List.getElem_mem hj)) hfb
   rcases Nat.lt_trichotomy i j with h | h | h
   ·exact absurd ⟨h1, h2⟩ (hpg i j hi hj h b)
   ·exact h
   ·exact absurd ⟨h2, h1⟩ (hpg j i hj hi h b)
  ·have hm := hp.mem_iff.2 (List.mem_of_getElem? he)
   obtain ⟨j, hj⟩ := List.getElem?_of_mem hm
   exact hs.out b ⟨j, e, hj, entB_loose (hlH e hm) heb⟩
 ·refine ⟨⟨[], by simp⟩, rfl, rfl, rfl, Nat.le_refl _, fun _ _ _ => rfl, fun _ h => .inl h, fun b ⟨i, e, he, heb⟩ => ?_⟩
  have hm := hp.mem_iff.2 (List.mem_of_getElem? he)
  obtain ⟨j, hj⟩ := List.getElem?_of_mem hm
  exact .inl ⟨j, e, hj, entB_loose (hlH e hm) heb⟩
theorem TripM.turn {P : Program} {c : Code} {s : List AV} {H G : List Ent} {K : Mk → Ex → List AV → List Ent → Prop} (hT : TurnS H G) (h : TripM P none c s G K) : TripM P none c s H K := by
 intro ρ S w a hs hr hd
 obtain ⟨S', hs', hev⟩ := hT.2 ρ S w hs
 exact wp_mono (h ρ S' w a hs' hr hd) fun e a' w' hp => hp.from hev
theorem TripM.pad {P : Program} {c : Code} {s : List AV} {H : List Ent} {K : Mk → Ex → List AV → List Ent → Prop} (pad : List Ent) (hp : padB pad = true) (h : TripM P none c s (H ++ pad) K) : TripM P none c s H K := by
 intro ρ S w a hs hr hd
 obtain ⟨t, hs', hev⟩ := Sat.pad pad hp hs
 exact wp_mono (h (ρ ++ t) S w a hs' (RelS_pre t hr) hd) fun e a' w' hp => hp.from hev
end Go.AX
namespace Go.Proofs.YtkgmaplkomhjdaaDoor
open Go.AX Go.RowKit Go.Pre
set_option maxRecDepth 20000
def partC (p : Part) : List Value := [.string (bs p.1), .string (bs p.2)]
def partsC (l : List Part) : List Value := l.flatMap partC
theorem partsC_len : ∀ l : List Part, (partsC l).length = l.length * 2
 | [] => rfl
 | p :: l => by
  show (partC p ++ partsC l).length = _
  rw [List.length_append, partsC_len l, List.length_cons]
  show 2 + _ = _
  omega
theorem partsC_app (l m : List Part) : partsC (l ++ m) = partsC l ++ partsC m := by simp [partsC]
theorem partsC_text (m : List Part) (p : Part) : (partsC (m ++ [p]))[m.length * 2 + (0 + 1)]? = some (.string (bs p.2)) := by
 rw [partsC_app, List.getElem?_append_right (by rw [partsC_len]; omega), partsC_len, show m.length * 2 + (0 + 1) - m.length * 2 = 1 by omega]
 rfl
theorem partsC_set (m : List Part) (p : Part) (z : List UInt8) : (partsC (m ++ [p])).take (m.length * 2 + (0 + 1)) ++ [Value.string (bs p.2 ++ bs z)] ++ (partsC (m ++ [p])).drop (m.length * 2 + (0 + 1) + [Value.string (bs p.2 ++ bs z)].length) = partsC (m ++ [(p.1, p.2 ++ z)]) := by
 rw [partsC_app, partsC_app, bs_app]
 have h := partsC_len m
 have h1 : (partsC m ++ partsC [p]).take (m.length * 2 + (0 + 1)) = partsC m ++ [.string (bs p.1)] := by
  rw [List.take_append, List.take_of_length_le (by omega), show m.length * 2 + (0 + 1) - (partsC m).length = 1 by omega]
  rfl
 have h2 : (partsC m ++ partsC [p]).drop (m.length * 2 + (0 + 1) + [Value.string (bs (p.2 ++ z))].length) = [] := by
  apply List.drop_of_length_le
  rw [List.length_append, h]
  show _ + 2 ≤ _ + 1
  omega
 rw [h1, h2]
 simp [partsC, partC]
theorem addLn_ne {l : List Part} (h : l ≠ []) (x : List UInt8) : addLn l x ≠ [] := fun e => by
 have h1 := congrArg List.length e
 unfold addLn at h1
 rw [grow_len] at h1
 split at h1
 ·simp at h1
 ·exact h (List.length_eq_zero_iff.1 h1)
theorem fold_ne : ∀ (r : List (List UInt8)) (l : List Part), l ≠ [] → r.foldl addLn l ≠ []
 | [], _, h => h
 | x :: r, _, h => fold_ne r _ (addLn_ne h x)
theorem parts_ne {l : List (List UInt8)} (h : okLines l = true) {i : Nat} {z : List UInt8} (hz : l[i]? = some z) (hh : isHead z = false) : parts (l.take i) ≠ [] := by
 cases l with
 | nil => cases hz
 | cons x r =>
  unfold okLines at h
  rw [Bool.and_eq_true] at h
  have hx : isHead x = true := h.1
  cases i with
  | zero =>
   obtain rfl : x = z := Option.some.inj hz
   rw [hx] at hh
   cases hh
  | succ i =>
   rw [List.take_succ_cons]
   show (List.take i r).foldl addLn (addLn [] x) ≠ []
   refine fold_ne _ _ ?_
   unfold addLn
   rw [hx]
   exact fun e => by cases e
theorem ok_head {l : List (List UInt8)} (h : okLines l = true) {z : List UInt8} (hz : z ∈ l) (hh : isHead z = true) : 2 ≤ (Lib.fields z).length := by
 unfold okLines at h
 rw [Bool.and_eq_true] at h
 have := List.all_eq_true.1 h.2 z hz
 rw [hh] at this
 exact Nat.le_of_ble_eq_true this
structure PrI where
 l : List Part
 ob : Option Nat
 cap : Nat
def PrI.ents (po : Nat) (i : PrI) : List Ent := [.fact PreF, .app 48 1 [.slice (at0 i.ob) i.l.length i.cap] (some ⟨po, 0, none⟩) 1 1, .app 37 2 (partsC i.l) (at0 i.ob) i.l.length i.cap]
structure PrInv (k : Nat) (i : PrI) : Prop where
 l : i.l = parts (lns.take k)
 len : i.l.length ≤ k
 bd : ∀ p ∈ i.l, p.2.length ≤ 200 * k
 cap : i.l.length ≤ i.cap
 nil : i.ob = none → i.l = []
theorem parts_c : SpecF Tryd.prog 25 [] PreF fun v G => ∃ b cap, v = .slice (some ⟨b, 0, none⟩) prt.length cap ∧ prt.length ≤ cap ∧ ∀ w, G w → SlAt (some ⟨b, 0, none⟩) (prt.length * 2) (partsC prt) w := by
 refine specF_of (spec_of_tripM Tryd.func25 (by kernel_rfl) rfl rfl ?_)
 show TripM _ _ _ _ _ _
 refine TripM.seq (TripM.exec hm ?_)
 refine wXB ?_
 refine ⟨trivial, ?_⟩
 refine TripM.seq (TripM.exec hm ?_)
 refine wXB ?_
 refine BoxN.known [.slice none 0 0] rfl fun po => ?_
 refine wXB ?_
 refine ⟨trivial, ?_⟩
 refine TripM.seq (TripM.seq (TripM.exec hm ?_))
 refine wXB ?_
 refine callG (Lines_c src) [] rfl trivial rfl fun pb _ => ?_
 refine wXB ?_
 refine ⟨trivial, ?_⟩
 refine TripM.block ?_
 refine TripM.pad [.app 37 2 [] none 0 0] rfl ?_
 refine TripM.turn (turn_perm (G := [boxE pb src, .fact PreF, .app 48 1 [.slice none 0 0] (some ⟨po, 0, none⟩) 1 1, .app 37 2 [] none 0 0]) rfl (List.perm_middle (l₁ := [_, _]))) ?_
 refine TripM.range hm rfl rfl rfl rfl fun D l o Y => ?_
 refine SpecH.mono (Lines1_c (n := 3) src (by rw [src_len]; decide) (obE D dfO) (obE l o) PrInv (PrI.ents po) (fun _ => rfl) (fun _ => okHB_eq rfl) ⟨[], none, 0⟩ ⟨rfl, Nat.le_refl _, (fun _ h => by cases h), Nat.le_refl _, fun _ => rfl⟩ ?_) ?_
 ·rintro i j z y hj hz hy
  refine YieldS.mono (Y (.string (bs z)) (boxE pb y :: PrI.ents po j) (fun B' => ∃ j', PrInv (i + 1) j' ∧ B' = boxE pb y :: PrI.ents po j') ?_) fun out H' ⟨ho, B', ⟨j', hj', hB⟩, _, hH⟩ => ⟨ho, j', hj', by rw [hH, hB]; rfl⟩
  obtain ⟨l, ob, cap⟩ := j
  obtain ⟨hl, hlen, hbd, hcap, hnil⟩ := hj
  have hl : l = parts (lns.take i) := hl
  have hlen : l.length ≤ i := hlen
  have hbd : ∀ p ∈ l, p.2.length ≤ 200 * i := hbd
  have hi : i < 463 := by
   have := (List.getElem?_eq_some_iff.1 hz).1
   rw [show (lnL src).length = 463 from lns_len] at this
   exact this
  have hnext : parts (lns.take (i + 1)) = addLn l z := by
   rw [List.take_add_one, show lns[i]? = some z from hz, hl]
   simp [parts]
  have hzm : z ∈ lns := List.mem_of_getElem? hz
  have hzl : z.length ≤ 200 := Nat.le_of_ble_eq_true (List.all_eq_true.1 lns_bd z hzm)
  have hza : Asc z := fun b hb => src_asc b (by rw [← lnL_flat src]; exact List.mem_flatten.2 ⟨z, hzm, hb⟩)
  have hll : l.length ≤ 463 := by omega
  intro D' l' o' o1 o2
  refine wX ?_
  refine ⟨rfl, rfl, ?_⟩
  refine wX ?_
  refine SpecF.call (Fields_c z (by omega) hza) (fun w hw => hw.1) fun v G hR => ?_
  obtain ⟨fb, rfl, hG⟩ := hR
  refine wX ?_
  refine call1 (HasPrefix_c z classB _) ?_
  refine wX ?_
  refine brd_intro (fun h1 => ?_) (fun h1 => ?_)
  ·have hh : isHead z = true := by unfold isHead; rw [h1]; rfl
   have hf2 : 2 ≤ (Lib.fields z).length := ok_head lns_ok hzm hh
   have hn : (Lib.fields z)[1]? = some (hname z) := by
    obtain ⟨y, hy⟩ : ∃ y, (Lib.fields z)[1]? = some y := ⟨_, List.getElem?_eq_getElem (by omega)⟩
    rw [hy, hname, List.getD_eq_getElem?_getD, hy]
    rfl
   refine wX ?_
   refine DrawRo.planC (fun w => SlAt (some ⟨po, 0, none⟩) 1 [.slice (at0 ob) l.length cap] w ∧ SlAt (some ⟨fb, 0, none⟩) (Lib.fields z).length (strsC (Lib.fields z)) w) [1] [(0, 1), (2, 1), (3, 1), (4, 0), (5, 0)] [(6, 0), (7, 0)] (by decide +kernel) (fun w hw => ⟨hw.2.2.1, hG w hw.2.2.2.2.2.2.1⟩) ?_
   ((conv => whnf); (repeat ((first | refine Nd.mk (fun w hw => ⟨hw.2.2.1, hG w hw.2.2.2.2.2.2.1⟩) ?_ | refine VrN.norm (wrap_i64 (by omega)) ?_ | refine VrN.keep ?_ | refine Nd.mk (by decide +kernel) ?_ | refine Nd.mk (by omega) ?_ | refine RdN.intro _ rfl (by rfl) ?_); (conv => whnf))))
   refine ReadC.one (a := some ⟨po, 0, none⟩) (q := 0) (.slice (at0 ob) l.length cap) rfl rfl rfl (fun w hw => hw.1) rfl ?_
   ((conv => whnf); (repeat ((first | refine Nd.mk (fun w hw => ⟨hw.2.2.1, hG w hw.2.2.2.2.2.2.1⟩) ?_ | refine VrN.norm (wrap_i64 (by omega)) ?_ | refine VrN.keep ?_ | refine Nd.mk (by decide +kernel) ?_ | refine Nd.mk (by omega) ?_ | refine RdN.intro _ rfl (by rfl) ?_); (conv => whnf))))
   refine ReadC.idxA (e := 9) (sz := 1) 1 rfl Tryd.underlying22 rfl rfl rfl rfl rfl (by omega) ?_
   ((conv => whnf); (repeat ((first | refine Nd.mk (fun w hw => ⟨hw.2.2.1, hG w hw.2.2.2.2.2.2.1⟩) ?_ | refine VrN.norm (wrap_i64 (by omega)) ?_ | refine VrN.keep ?_ | refine Nd.mk (by decide +kernel) ?_ | refine Nd.mk (by omega) ?_ | refine RdN.intro _ rfl (by rfl) ?_); (conv => whnf))))
   refine ReadC.one (a := some ⟨fb, 0, none⟩) (q := 1) (.string (bs (hname z))) rfl rfl rfl (fun w hw => hw.2) (strsC_get hn) ?_
   ((conv => whnf); (repeat ((first | refine Nd.mk (fun w hw => ⟨hw.2.2.1, hG w hw.2.2.2.2.2.2.1⟩) ?_ | refine VrN.norm (wrap_i64 (by omega)) ?_ | refine VrN.keep ?_ | refine Nd.mk (by decide +kernel) ?_ | refine Nd.mk (by omega) ?_ | refine RdN.intro _ rfl (by rfl) ?_); (conv => whnf))))
   refine RwN.own ?_
   ((conv => whnf); (repeat ((first | refine Nd.mk (fun w hw => ⟨hw.2.2.1, hG w hw.2.2.2.2.2.2.1⟩) ?_ | refine VrN.norm (wrap_i64 (by omega)) ?_ | refine VrN.keep ?_ | refine Nd.mk (by decide +kernel) ?_ | refine Nd.mk (by omega) ?_ | refine RdN.intro _ rfl (by rfl) ?_); (conv => whnf))))
   refine Nd.mk ⟨Nat.le_refl 1, rfl, rfl⟩ ?_
   (conv => whnf)
   refine AppN.grow 3 (partsC l) (partC (hname z, [])) rfl rfl ⟨Nat.le_refl 1, ⟨by show (l.length + 1) * 32 ≤ _; omega, by show l.length + 1 < _; omega⟩, by decide⟩ fun b8 c8 g18 g28 => ?_
   refine wX ?_
   refine EffW.appTo (i := 2) (q := 0) (ys := [_]) [.slice (some ⟨b8, 0, none⟩) (l.length + 1) c8] 1 rfl rfl rfl rfl rfl rfl rfl (Nat.le_of_ble_eq_true rfl) rfl rfl ?_
   refine wX ?_
   have e1 : partsC l ++ partC (hname z, []) = partsC (l ++ [(hname z, [])]) := by simp [partsC]
   have e2 : l.length + 1 = (l ++ [(hname z, ([] : List UInt8))]).length := by simp
   rw [e1, e2]
   have hcx : l.length + 1 ≤ c8 := g18
   have hnx : some b8 = none → l ++ [(hname z, ([] : List UInt8) ++ z)] = [] := fun h => by cases h
   have hbm := hbd
   have hbp : ([] : List UInt8).length ≤ 200 * i := Nat.zero_le _
   refine LdN.one (a := some ⟨po, 0, none⟩) (q := 0) (.slice (some ⟨b8, 0, none⟩) ((l) ++ [(hname z, ([] : List UInt8))]).length (c8)) rfl (fun w hw => hw.2.2.1) rfl ?_
   refine wX ?_
   refine LdN.one (a := some ⟨po, 0, none⟩) (q := 0) (.slice (some ⟨b8, 0, none⟩) ((l) ++ [(hname z, ([] : List UInt8))]).length (c8)) rfl (fun w hw => hw.2.2.1) rfl ?_
   refine wX ?_
   have hlm : ((l) ++ [(hname z, ([] : List UInt8))]).length = (l).length + 1 := by simp
   have w1 : IntKind.i64.wrap (((((l) ++ [(hname z, ([] : List UInt8))]).length : Nat) : Int) - 1) = (((l).length : Nat) : Int) := by rw [hlm, wrap_i64 (by omega)]; omega
   refine Nd.mk ⟨rfl, by rw [w1]; omega, by rw [w1, hlm]; omega⟩ ?_
   refine wX ?_
   refine LdN.fld (.string (bs ((hname z, ([] : List UInt8))).2)) rfl (fun w hw => hw.2.2.2.1) (by rw [w1, Int.toNat_natCast]; exact partsC_text (l) ((hname z, ([] : List UInt8)))) ?_
   refine wX ?_
   have hpl : ((hname z, ([] : List UInt8))).2.length ≤ 1000000 := Nat.zero_le _
   refine Nd.mk (by rw [bs_size, bs_size]; omega) ?_
   refine wX ?_
   refine Nd.mk ⟨rfl, by rw [w1]; omega, by rw [w1, hlm]; omega⟩ ?_
   refine wX ?_
   refine EffW.appTo (i := 3) (q := (l).length * 2 + (0 + 1)) (ys := [_]) (partsC ((l) ++ [(((hname z, ([] : List UInt8))).1, ((hname z, ([] : List UInt8))).2 ++ z)])) 2 rfl ?_ rfl rfl rfl rfl rfl ?_ ?_ rfl ?_
   ·rw [w1, Int.toNat_natCast]
    show AV.c (CV.v (.pointer (some ((elemAddr (some ⟨b8, 0, none⟩) ((l).length * 2)).add (0 + 1))))) = _
    simp [elemAddr, Addr.add]
    by_cases h0 : (l).length * 2 = 0
    ·rw [if_pos h0]
     exact ⟨rfl, h0.symm⟩
    ·rw [if_neg h0]
     exact ⟨rfl, rfl⟩
   ·show (l).length * 2 + (0 + 1) + 1 ≤ ((l) ++ [(hname z, ([] : List UInt8))]).length * 2
    rw [hlm]
    omega
   ·exact partsC_set (l) ((hname z, ([] : List UInt8))) z
   refine wX ?_
   have hlm2 : ((l) ++ [(((hname z, ([] : List UInt8))).1, ((hname z, ([] : List UInt8))).2 ++ z)]).length = ((l) ++ [(hname z, ([] : List UInt8))]).length := by simp
   refine ⟨rfl, _, ⟨⟨(l) ++ [(((hname z, ([] : List UInt8))).1, ((hname z, ([] : List UInt8))).2 ++ z)], some b8, c8⟩, ⟨?_, ?_, ?_, ?_, hnx⟩, rfl⟩, rfl, okHB_eq rfl, _, turn_refl _, ⟨wkE_refl _, wkE_refl _, ?_, ?_, wkE_refl _, wkE_refl _, wkH_nil _⟩⟩
   ·exact ((show addLn l z = _ by unfold addLn; rw [hh]; exact grow_snoc _ _ _)).symm.trans hnext.symm
   ·show ((l) ++ [(((hname z, ([] : List UInt8))).1, ((hname z, ([] : List UInt8))).2 ++ z)]).length ≤ i + 1
    have h9 : (l).length ≤ i := hlen
    rw [hlm2, hlm]
    omega
   ·intro q hq
    rcases List.mem_append.1 hq with hq | hq
    ·have := hbm q hq
     omega
    ·rw [List.mem_singleton.1 hq]
     show (((hname z, ([] : List UInt8))).2 ++ z).length ≤ _
     have h9 : ((hname z, ([] : List UInt8))).2.length ≤ 200 * i := hbp
     rw [List.length_append]
     omega
   ·show ((l) ++ [(((hname z, ([] : List UInt8))).1, ((hname z, ([] : List UInt8))).2 ++ z)]).length ≤ c8
    rw [hlm2, hlm]
    exact hcx
   ·show wkE (.app _ _ [.slice _ ((l) ++ [(hname z, ([] : List UInt8))]).length _] _ _ _) (.app _ _ [.slice _ ((l) ++ [(((hname z, ([] : List UInt8))).1, ((hname z, ([] : List UInt8))).2 ++ z)]).length _] _ _ _)
    rw [hlm2]
    exact wkE_refl _
   ·show wkE (.app _ _ _ _ ((l) ++ [(hname z, ([] : List UInt8))]).length _) (.app _ _ _ _ ((l) ++ [(((hname z, ([] : List UInt8))).1, ((hname z, ([] : List UInt8))).2 ++ z)]).length _)
    rw [hlm2]
    exact wkE_refl _
  ·refine wX ?_
   refine call1 (HasPrefix_c z moduleB _) ?_
   refine wX ?_
   refine brd_intro (fun h2 => ?_) (fun h2 => ?_)
   ·have hh : isHead z = true := by unfold isHead; rw [h2, Bool.or_true]
    have hf2 : 2 ≤ (Lib.fields z).length := ok_head lns_ok hzm hh
    have hn : (Lib.fields z)[1]? = some (hname z) := by
     obtain ⟨y, hy⟩ : ∃ y, (Lib.fields z)[1]? = some y := ⟨_, List.getElem?_eq_getElem (by omega)⟩
     rw [hy, hname, List.getD_eq_getElem?_getD, hy]
     rfl
    refine wX ?_
    refine DrawRo.planC (fun w => SlAt (some ⟨po, 0, none⟩) 1 [.slice (at0 ob) l.length cap] w ∧ SlAt (some ⟨fb, 0, none⟩) (Lib.fields z).length (strsC (Lib.fields z)) w) [1] [(0, 1), (2, 1), (3, 1), (4, 0), (5, 0)] [(6, 0), (7, 0)] (by decide +kernel) (fun w hw => ⟨hw.2.2.1, hG w hw.2.2.2.2.2.2.1⟩) ?_
    ((conv => whnf); (repeat ((first | refine Nd.mk (fun w hw => ⟨hw.2.2.1, hG w hw.2.2.2.2.2.2.1⟩) ?_ | refine VrN.norm (wrap_i64 (by omega)) ?_ | refine VrN.keep ?_ | refine Nd.mk (by decide +kernel) ?_ | refine Nd.mk (by omega) ?_ | refine RdN.intro _ rfl (by rfl) ?_); (conv => whnf))))
    refine ReadC.one (a := some ⟨po, 0, none⟩) (q := 0) (.slice (at0 ob) l.length cap) rfl rfl rfl (fun w hw => hw.1) rfl ?_
    ((conv => whnf); (repeat ((first | refine Nd.mk (fun w hw => ⟨hw.2.2.1, hG w hw.2.2.2.2.2.2.1⟩) ?_ | refine VrN.norm (wrap_i64 (by omega)) ?_ | refine VrN.keep ?_ | refine Nd.mk (by decide +kernel) ?_ | refine Nd.mk (by omega) ?_ | refine RdN.intro _ rfl (by rfl) ?_); (conv => whnf))))
    refine ReadC.idxA (e := 9) (sz := 1) 1 rfl Tryd.underlying22 rfl rfl rfl rfl rfl (by omega) ?_
    ((conv => whnf); (repeat ((first | refine Nd.mk (fun w hw => ⟨hw.2.2.1, hG w hw.2.2.2.2.2.2.1⟩) ?_ | refine VrN.norm (wrap_i64 (by omega)) ?_ | refine VrN.keep ?_ | refine Nd.mk (by decide +kernel) ?_ | refine Nd.mk (by omega) ?_ | refine RdN.intro _ rfl (by rfl) ?_); (conv => whnf))))
    refine ReadC.one (a := some ⟨fb, 0, none⟩) (q := 1) (.string (bs (hname z))) rfl rfl rfl (fun w hw => hw.2) (strsC_get hn) ?_
    ((conv => whnf); (repeat ((first | refine Nd.mk (fun w hw => ⟨hw.2.2.1, hG w hw.2.2.2.2.2.2.1⟩) ?_ | refine VrN.norm (wrap_i64 (by omega)) ?_ | refine VrN.keep ?_ | refine Nd.mk (by decide +kernel) ?_ | refine Nd.mk (by omega) ?_ | refine RdN.intro _ rfl (by rfl) ?_); (conv => whnf))))
    refine RwN.own ?_
    ((conv => whnf); (repeat ((first | refine Nd.mk (fun w hw => ⟨hw.2.2.1, hG w hw.2.2.2.2.2.2.1⟩) ?_ | refine VrN.norm (wrap_i64 (by omega)) ?_ | refine VrN.keep ?_ | refine Nd.mk (by decide +kernel) ?_ | refine Nd.mk (by omega) ?_ | refine RdN.intro _ rfl (by rfl) ?_); (conv => whnf))))
    refine Nd.mk ⟨Nat.le_refl 1, rfl, rfl⟩ ?_
    (conv => whnf)
    refine AppN.grow 3 (partsC l) (partC (hname z, [])) rfl rfl ⟨Nat.le_refl 1, ⟨by show (l.length + 1) * 32 ≤ _; omega, by show l.length + 1 < _; omega⟩, by decide⟩ fun b8 c8 g18 g28 => ?_
    refine wX ?_
    refine EffW.appTo (i := 2) (q := 0) (ys := [_]) [.slice (some ⟨b8, 0, none⟩) (l.length + 1) c8] 1 rfl rfl rfl rfl rfl rfl rfl (Nat.le_of_ble_eq_true rfl) rfl rfl ?_
    refine wX ?_
    have e1 : partsC l ++ partC (hname z, []) = partsC (l ++ [(hname z, [])]) := by simp [partsC]
    have e2 : l.length + 1 = (l ++ [(hname z, ([] : List UInt8))]).length := by simp
    rw [e1, e2]
    have hcx : l.length + 1 ≤ c8 := g18
    have hnx : some b8 = none → l ++ [(hname z, ([] : List UInt8) ++ z)] = [] := fun h => by cases h
    have hbm := hbd
    have hbp : ([] : List UInt8).length ≤ 200 * i := Nat.zero_le _
    refine LdN.one (a := some ⟨po, 0, none⟩) (q := 0) (.slice (some ⟨b8, 0, none⟩) ((l) ++ [(hname z, ([] : List UInt8))]).length (c8)) rfl (fun w hw => hw.2.2.1) rfl ?_
    refine wX ?_
    refine LdN.one (a := some ⟨po, 0, none⟩) (q := 0) (.slice (some ⟨b8, 0, none⟩) ((l) ++ [(hname z, ([] : List UInt8))]).length (c8)) rfl (fun w hw => hw.2.2.1) rfl ?_
    refine wX ?_
    have hlm : ((l) ++ [(hname z, ([] : List UInt8))]).length = (l).length + 1 := by simp
    have w1 : IntKind.i64.wrap (((((l) ++ [(hname z, ([] : List UInt8))]).length : Nat) : Int) - 1) = (((l).length : Nat) : Int) := by rw [hlm, wrap_i64 (by omega)]; omega
    refine Nd.mk ⟨rfl, by rw [w1]; omega, by rw [w1, hlm]; omega⟩ ?_
    refine wX ?_
    refine LdN.fld (.string (bs ((hname z, ([] : List UInt8))).2)) rfl (fun w hw => hw.2.2.2.1) (by rw [w1, Int.toNat_natCast]; exact partsC_text (l) ((hname z, ([] : List UInt8)))) ?_
    refine wX ?_
    have hpl : ((hname z, ([] : List UInt8))).2.length ≤ 1000000 := Nat.zero_le _
    refine Nd.mk (by rw [bs_size, bs_size]; omega) ?_
    refine wX ?_
    refine Nd.mk ⟨rfl, by rw [w1]; omega, by rw [w1, hlm]; omega⟩ ?_
    refine wX ?_
    refine EffW.appTo (i := 3) (q := (l).length * 2 + (0 + 1)) (ys := [_]) (partsC ((l) ++ [(((hname z, ([] : List UInt8))).1, ((hname z, ([] : List UInt8))).2 ++ z)])) 2 rfl ?_ rfl rfl rfl rfl rfl ?_ ?_ rfl ?_
    ·rw [w1, Int.toNat_natCast]
     show AV.c (CV.v (.pointer (some ((elemAddr (some ⟨b8, 0, none⟩) ((l).length * 2)).add (0 + 1))))) = _
     simp [elemAddr, Addr.add]
     by_cases h0 : (l).length * 2 = 0
     ·rw [if_pos h0]
      exact ⟨rfl, h0.symm⟩
     ·rw [if_neg h0]
      exact ⟨rfl, rfl⟩
    ·show (l).length * 2 + (0 + 1) + 1 ≤ ((l) ++ [(hname z, ([] : List UInt8))]).length * 2
     rw [hlm]
     omega
    ·exact partsC_set (l) ((hname z, ([] : List UInt8))) z
    refine wX ?_
    have hlm2 : ((l) ++ [(((hname z, ([] : List UInt8))).1, ((hname z, ([] : List UInt8))).2 ++ z)]).length = ((l) ++ [(hname z, ([] : List UInt8))]).length := by simp
    refine ⟨rfl, _, ⟨⟨(l) ++ [(((hname z, ([] : List UInt8))).1, ((hname z, ([] : List UInt8))).2 ++ z)], some b8, c8⟩, ⟨?_, ?_, ?_, ?_, hnx⟩, rfl⟩, rfl, okHB_eq rfl, _, turn_refl _, ⟨wkE_refl _, wkE_refl _, ?_, ?_, wkE_refl _, wkE_refl _, wkH_nil _⟩⟩
    ·exact ((show addLn l z = _ by unfold addLn; rw [hh]; exact grow_snoc _ _ _)).symm.trans hnext.symm
    ·show ((l) ++ [(((hname z, ([] : List UInt8))).1, ((hname z, ([] : List UInt8))).2 ++ z)]).length ≤ i + 1
     have h9 : (l).length ≤ i := hlen
     rw [hlm2, hlm]
     omega
    ·intro q hq
     rcases List.mem_append.1 hq with hq | hq
     ·have := hbm q hq
      omega
     ·rw [List.mem_singleton.1 hq]
      show (((hname z, ([] : List UInt8))).2 ++ z).length ≤ _
      have h9 : ((hname z, ([] : List UInt8))).2.length ≤ 200 * i := hbp
      rw [List.length_append]
      omega
    ·show ((l) ++ [(((hname z, ([] : List UInt8))).1, ((hname z, ([] : List UInt8))).2 ++ z)]).length ≤ c8
     rw [hlm2, hlm]
     exact hcx
    ·show wkE (.app _ _ [.slice _ ((l) ++ [(hname z, ([] : List UInt8))]).length _] _ _ _) (.app _ _ [.slice _ ((l) ++ [(((hname z, ([] : List UInt8))).1, ((hname z, ([] : List UInt8))).2 ++ z)]).length _] _ _ _)
     rw [hlm2]
     exact wkE_refl _
    ·show wkE (.app _ _ _ _ ((l) ++ [(hname z, ([] : List UInt8))]).length _) (.app _ _ _ _ ((l) ++ [(((hname z, ([] : List UInt8))).1, ((hname z, ([] : List UInt8))).2 ++ z)]).length _)
     rw [hlm2]
     exact wkE_refl _
   ·have hh : isHead z = false := by unfold isHead; rw [h1, h2]; rfl
    have hne : l ≠ [] := by rw [hl]; exact parts_ne lns_ok hz hh
    obtain ⟨m, p, rfl, hg⟩ := grow_ne hne z
    obtain ⟨b, rfl⟩ : ∃ b, ob = some b := by
     cases ob with
     | none => exact absurd (hnil rfl) hne
     | some b => exact ⟨b, rfl⟩
    have hnx : some b = none → m ++ [(p.1, p.2 ++ z)] = [] := fun h => by cases h
    have hbm : ∀ q ∈ m, q.2.length ≤ 200 * i := fun q hq => hbd q (List.mem_append_left _ hq)
    have hbp : p.2.length ≤ 200 * i := hbd p (List.mem_append_right _ (List.mem_singleton.2 rfl))
    have hlm0 : (m ++ [p]).length = m.length + 1 := by simp
    refine wX ?_
    have hcx : m.length + 1 ≤ cap := by rw [← hlm0]; exact hcap
    refine LdN.one (a := some ⟨po, 0, none⟩) (q := 0) (.slice (some ⟨b, 0, none⟩) ((m) ++ [p]).length (cap)) rfl (fun w hw => hw.2.2.1) rfl ?_
    refine wX ?_
    refine LdN.one (a := some ⟨po, 0, none⟩) (q := 0) (.slice (some ⟨b, 0, none⟩) ((m) ++ [p]).length (cap)) rfl (fun w hw => hw.2.2.1) rfl ?_
    refine wX ?_
    have hlm : ((m) ++ [p]).length = (m).length + 1 := by simp
    have w1 : IntKind.i64.wrap (((((m) ++ [p]).length : Nat) : Int) - 1) = (((m).length : Nat) : Int) := by rw [hlm, wrap_i64 (by omega)]; omega
    refine Nd.mk ⟨rfl, by rw [w1]; omega, by rw [w1, hlm]; omega⟩ ?_
    refine wX ?_
    refine LdN.fld (.string (bs (p).2)) rfl (fun w hw => hw.2.2.2.1) (by rw [w1, Int.toNat_natCast]; exact partsC_text (m) (p)) ?_
    refine wX ?_
    have hpl : (p).2.length ≤ 1000000 := by omega
    refine Nd.mk (by rw [bs_size, bs_size]; omega) ?_
    refine wX ?_
    refine Nd.mk ⟨rfl, by rw [w1]; omega, by rw [w1, hlm]; omega⟩ ?_
    refine wX ?_
    refine EffW.appTo (i := 3) (q := (m).length * 2 + (0 + 1)) (ys := [_]) (partsC ((m) ++ [((p).1, (p).2 ++ z)])) 2 rfl ?_ rfl rfl rfl rfl rfl ?_ ?_ rfl ?_
    ·rw [w1, Int.toNat_natCast]
     show AV.c (CV.v (.pointer (some ((elemAddr (some ⟨b, 0, none⟩) ((m).length * 2)).add (0 + 1))))) = _
     simp [elemAddr, Addr.add]
     by_cases h0 : (m).length * 2 = 0
     ·rw [if_pos h0]
      exact ⟨rfl, h0.symm⟩
     ·rw [if_neg h0]
      exact ⟨rfl, rfl⟩
    ·show (m).length * 2 + (0 + 1) + 1 ≤ ((m) ++ [p]).length * 2
     rw [hlm]
     omega
    ·exact partsC_set (m) (p) z
    refine wX ?_
    have hlm2 : ((m) ++ [((p).1, (p).2 ++ z)]).length = ((m) ++ [p]).length := by simp
    refine ⟨rfl, _, ⟨⟨(m) ++ [((p).1, (p).2 ++ z)], some b, cap⟩, ⟨?_, ?_, ?_, ?_, hnx⟩, rfl⟩, rfl, okHB_eq rfl, _, turn_refl _, ⟨wkE_refl _, wkE_refl _, ?_, ?_, wkE_refl _, wkE_refl _, wkH_nil _⟩⟩
    ·exact ((show addLn (m ++ [p]) z = _ by unfold addLn; rw [hh]; exact hg)).symm.trans hnext.symm
    ·show ((m) ++ [((p).1, (p).2 ++ z)]).length ≤ i + 1
     have h9 : (m).length ≤ i := (by omega)
     rw [hlm2, hlm]
     omega
    ·intro q hq
     rcases List.mem_append.1 hq with hq | hq
     ·have := hbm q hq
      omega
     ·rw [List.mem_singleton.1 hq]
      show ((p).2 ++ z).length ≤ _
      have h9 : (p).2.length ≤ 200 * i := hbp
      rw [List.length_append]
      omega
    ·show ((m) ++ [((p).1, (p).2 ++ z)]).length ≤ cap
     rw [hlm2, hlm]
     exact hcx
    ·show wkE (.app _ _ [.slice _ ((m) ++ [p]).length _] _ _ _) (.app _ _ [.slice _ ((m) ++ [((p).1, (p).2 ++ z)]).length _] _ _ _)
     rw [hlm2]
     exact wkE_refl _
    ·show wkE (.app _ _ _ _ ((m) ++ [p]).length _) (.app _ _ _ _ ((m) ++ [((p).1, (p).2 ++ z)]).length _)
     rw [hlm2]
     exact wkE_refl _
 ·rintro out H' ⟨rfl, j, hj, rfl⟩
  obtain ⟨l, ob, cap⟩ := j
  obtain ⟨hl, _, _, hcap, hnil⟩ := hj
  have hl : l = prt := by
   have h1 : l = parts (lns.take (lnL src).length) := hl
   rw [h1, prt, show (lnL src).length = lns.length from rfl, List.take_length]
  subst hl
  obtain ⟨b, rfl⟩ : ∃ b, ob = some b := by
   cases ob with
   | none =>
    have h1 : prt = [] := hnil rfl
    have h2 := prt_len
    rw [h1] at h2
    cases h2
   | some b => exact ⟨b, rfl⟩
  refine ⟨⟨_, rfl⟩, boxE pb [] :: PrI.ents po ⟨prt, some b, cap⟩, rfl, rfl, ?_⟩
  refine TripM.seq (TripM.exec hm ?_)
  refine wX ?_
  refine LdN.one (a := some ⟨po, 0, none⟩) (q := 0) (.slice (some ⟨b, 0, none⟩) prt.length cap) rfl (fun w hw => hw.2.2.1) rfl ?_
  refine wX ?_
  refine ⟨rfl, ?_⟩
  refine TripM.exec hm ?_
  refine wX ?_
  refine ⟨rfl, ?_⟩
  refine wX ?_
  refine fin_p (fun w => SlAt (some ⟨b, 0, none⟩) (prt.length * 2) (partsC prt) w) ⟨b, cap, rfl, hcap, fun _ h => h⟩ fun w hw => hw.2.2.2.1
end Go.Proofs.YtkgmaplkomhjdaaDoor
namespace Go.Proofs.YtkgmaplkomhjdaaDoor
open Go.AX Go.RowKit Go.Pre
set_option maxRecDepth 20000
def findP (l : List Part) (x : List UInt8) : Part := (l.find? fun p => p.1 == x).getD ([], [])
theorem partsC_get : ∀ (l : List Part) (i j : Nat) {p : Part}, j < 2 → l[i]? = some p → (partsC l)[i * 2 + j]? = (partC p)[j]?
 | q :: l, 0, j, p, hj, h => by
  obtain rfl : q = p := Option.some.inj h
  rw [Nat.zero_mul, Nat.zero_add]
  show (partC q ++ partsC l)[j]? = _
  exact List.getElem?_append_left hj
 | q :: l, i + 1, j, p, hj, h => by
  show (partC q ++ partsC l)[(i + 1) * 2 + j]? = _
  rw [List.getElem?_append_right (by show 2 ≤ _; omega), show (i + 1) * 2 + j - (partC q).length = i * 2 + j by show _ - 2 = _; omega]
  exact partsC_get l i j hj h
 | [], _, _, _, _, h => by cases h
theorem find_at {l : List Part} {q : Part → Bool} {i : Nat} {p : Part} (h : (l.take i).find? q = none) (hp : l[i]? = some p) (hq : q p = true) : l.find? q = some p := by
 have e : l = l.take i ++ p :: l.drop (i + 1) := by
  obtain ⟨hi, rfl⟩ := List.getElem?_eq_some_iff.1 hp
  rw [List.getElem_cons_drop, List.take_append_drop]
 rw [e, List.find?_append, h, List.find?_cons, hq]
 rfl
theorem find_next {l : List Part} {q : Part → Bool} {i : Nat} {p : Part} (h : (l.take i).find? q = none) (hp : l[i]? = some p) (hq : q p = false) : (l.take (i + 1)).find? q = none := by
 rw [List.take_add_one, hp, List.find?_append, h]
 simp [hq]
theorem find_c (x : List UInt8) : ∀ H, (∀ w, Facts H w → PreF w) → SpecH Tryd.prog 16 (pvs [.string (bs x)]) H (Ret (.agg #[.string (bs (findP prt x).1), .string (bs (findP prt x).2)]) H) := by
 refine factC hm Tryd.func16 (by kernel_rfl) rfl rfl ?_
 refine wX ?_
 refine SpecF.call parts_c (fun w hw => hw.1) fun v G hR => ?_
 obtain ⟨b, cap, rfl, hcap, hG⟩ := hR
 have hlen : prt.length ≤ 12 := Nat.le_of_eq prt_len
 generalize prt = P at hcap hG hlen ⊢
 refine wX ?_
 refine LoopN.intro Nat (fun i => i ≤ P.length ∧ (P.take i).find? (fun p => p.1 == x) = none)
  (fun i => mkS Tryd.f16.ntmps 0 [(0, .c (.v (.string (bs x)))), (2, .c (.lp 1 0)), (5, .c (.v (.slice (some ⟨b, 0, none⟩) P.length cap))), (6, .c (.v (.int .i64 (P.length : Int)))), (7, .c (.v (.int .i64 (i : Int))))])
  (fun _ => [.fact PreF, .blk 37 (cellsV (.agg #[.string ⟨#[]⟩, .string ⟨#[]⟩])), .fact G]) (fun i => P.length - i) [] rfl (fun _ => rfl) (fun _ => rfl) (fun _ _ => okHB_eq rfl)
  ⟨0, ⟨Nat.zero_le _, rfl⟩, ?_, wkH_refl _⟩ ?_
 ·exact wKK
 rintro i ⟨hi, hno⟩
 refine wX ?_
 refine brd_dec (fun h1 => ?_) (fun h1 => ?_)
 ·obtain ⟨p, hp⟩ : ∃ p, P[i]? = some p := ⟨_, List.getElem?_eq_getElem (by omega)⟩
  refine wX ?_
  refine Nd.mk ⟨rfl, by omega, by omega⟩ ?_
  refine wX ?_
  refine LdN.agg (partC p) rfl (fun w hw => hG w hw.2.1) rfl (fun j hj => by rw [Int.toNat_natCast]; exact partsC_get P i j hj hp) ?_
  refine wX ?_
  refine brd_intro (fun h2 => ?_) (fun h2 => ?_)
  ·have e : findP P x = p := by
    have h3 : (p.1 == x) = true := h2
    rw [findP, find_at hno hp h3]
    rfl
   refine wX ?_
   rw [e]
  ·have h3 : (p.1 == x) = false := h2
   refine wX ?_
   refine ⟨i + 1, ⟨by show i + 1 ≤ _; omega, find_next hno hp h3⟩, by show P.length - (i + 1) < P.length - i; omega, ?_, ⟨wkE_refl _, wkE_refl _, wkE_refl _, wkH_nil _⟩⟩
   (repeat' (first | exact trivial | refine And.intro (by with_reducible rfl) ?_ | (with_reducible exact wkC_refl _) | (with_reducible exact wkCs_refl _) | refine And.intro ?_ ?_))
   all_goals first | rfl | exact av_int (by omega) | exact av_int (by rw [wrap_i64 (by omega)]; omega)
 ·have e : findP P x = ([], []) := by
   have h4 : i = P.length := by omega
   rw [h4, List.take_length] at hno
   rw [findP, hno]
   rfl
  refine wX ?_
  rw [e]
  rfl
end Go.Proofs.YtkgmaplkomhjdaaDoor
namespace Go.Proofs.YtkgmaplkomhjdaaDoor
open Go.AX Go.RowKit Go.Pre
set_option maxRecDepth 20000
theorem bs_ne {x y : List UInt8} {b : Bool} (h : ((bs x).data.toList == (bs y).data.toList) = b) : b = true ↔ x = y := by
 rw [← h, bs_list, bs_list, beq_iff_eq]
def partV (l : List Part) (x : List UInt8) : Value := if (findP l x).1 = [] then .tuple #[.string (bs []), .int .i64 6] else .tuple #[.string (bs (findP l x).2), .int .i64 0]
theorem Part_c (x : List UInt8) : ∀ H, (∀ w, Facts H w → PreF w) → SpecH Tryd.prog 5 (pvs [.string (bs x)]) H (Ret (partV prt x) H) := by
 refine factC hm Tryd.func5 (by kernel_rfl) rfl rfl ?_
 refine wX ?_
 refine call1 (find_c x _ (fun w hw => hw.1)) ?_
 unfold partV
 generalize findP prt x = p
 refine wX ?_
 refine brd_intro (fun e => ?_) (fun e => ?_)
 ·have h : p.1 = [] := (bs_ne (y := []) e).1 rfl
  rw [if_pos h]
  refine wX ?_
  rfl
 ·have h : ¬ p.1 = [] := fun h => by cases (bs_ne (y := []) e).2 h
  rw [if_neg h]
  exact wZ
end Go.Proofs.YtkgmaplkomhjdaaDoor
namespace Go.Pre
def Fed (x : List UInt8) : Prop := x = [] ∨ x.getLast? = some 10
theorem Fed.drop {x : List UInt8} (h : Fed x) (n : Nat) : Fed (x.drop n) := by
 by_cases hn : x.length ≤ n
 ·exact .inl (List.drop_of_length_le hn)
 ·rcases h with h | h
  ·rw [h] at hn
   simp at hn
  ·right
   rw [List.getLast?_drop, if_neg hn]
   exact h
theorem Fed.some {x : List UInt8} (h : Fed x) (e : Lib.indexByte x 10 = -1) : x = [] := by
 rcases h with h | h
 ·exact h
 ·have h1 := lnA_no x [] e
  have hx : x ≠ [] := fun hx => by rw [hx] at h; cases h
  exfalso
  have key : ∀ y : List UInt8, (10 : UInt8) ∈ y → Lib.indexByte y 10 ≠ -1 := by
   intro y
   induction y with
   | nil => intro h; cases h
   | cons c y ih =>
    intro hm
    unfold Lib.indexByte
    by_cases hc : (c == 10) = true
    ·rw [if_pos hc]; decide
    ·rw [if_neg hc]
     have hm2 : (10 : UInt8) ∈ y := by
      rcases List.mem_cons.1 hm with h | h
      ·exact absurd (by rw [← h]; rfl) hc
      ·exact h
     have h3 : ¬ (Lib.indexByte y 10 == -1) = true := by simpa using ih hm2
     rw [if_neg h3]
     have := Lib.indexByte_ge y 10
     have := ih hm2
     omega
  exact key x (List.mem_of_getLast? h) e
theorem split_from : ∀ (f : Nat) (s : List UInt8), s.length < f → Fed s → Lib.countFrom [10] f s = (lnL s).length ∧ Lib.splitK [10] 1 (Lib.countFrom [10] f s) s = lnL s ++ [[]]
 | 0, _, h, _ => absurd h (Nat.not_lt_zero _)
 | f + 1, s, h, hf => by
  have hi : Lib.index s [10] = Lib.indexByte s 10 := Lib.index_one s 10
  unfold Lib.countFrom
  rcases ix_cases s with e | ⟨n, e⟩
  ·obtain rfl := hf.some e
   rw [hi, e]
   exact ⟨rfl, rfl⟩
  ·obtain ⟨h1, h2⟩ := ln_next e
   have h3 : ¬ (Lib.index s [10] == -1) = true := by rw [hi, e]; simp
   have hd : ((Lib.index s [10]).toNat + [(10 : UInt8)].length) = n + 1 := by rw [hi, e]; rfl
   rw [if_neg h3, hd]
   obtain ⟨i1, i2⟩ := split_from f (s.drop (n + 1)) (by rw [List.length_drop]; omega) (hf.drop _)
   refine ⟨by rw [h2, i1, List.length_cons]; omega, ?_⟩
   rw [Nat.add_comm 1, Lib.splitK, if_neg h3, hd, i2, h2, hi, e]
   rfl
theorem split_lnL {s : List UInt8} (h : Fed s) : Lib.count s [10] = (lnL s).length ∧ Lib.splitK [10] 1 (Lib.count s [10]) s = lnL s ++ [[]] := split_from _ s (by omega) h
theorem grow_names : ∀ (l : List Part) (x : List UInt8), (grow l x).map Prod.fst = l.map Prod.fst
 | [], _ => rfl
 | [_], _ => rfl
 | p :: q :: l, x => by
  show p.1 :: (grow (q :: l) x).map Prod.fst = _
  rw [grow_names (q :: l) x]
  rfl
def pick (n : List UInt8) (s : Bool × List UInt8) (x : List UInt8) : Bool × List UInt8 :=
 let b := if isHead x then hname x == n else s.1
 (b, if b then s.2 ++ x else s.2)
def lastIs (n : List UInt8) (l : List Part) : Bool := match l.getLast? with | some p => p.1 == n | none => false
def textOf (n : List UInt8) (l : List Part) : List UInt8 := ((l.filter fun p => p.1 == n).map Prod.snd).flatten
theorem textOf_snoc (n : List UInt8) (l : List Part) (p : Part) : textOf n (l ++ [p]) = if p.1 == n then textOf n l ++ p.2 else textOf n l := by
 unfold textOf
 rw [List.filter_append]
 by_cases h : (p.1 == n) = true
 ·rw [if_pos h, List.filter_cons_of_pos (p := fun p : Part => p.1 == n) h]
  simp
 ·rw [if_neg h, List.filter_cons_of_neg (p := fun p : Part => p.1 == n) h]
  simp
theorem pick_one (n : List UInt8) (l : List Part) (x : List UInt8) (h : l ≠ [] ∨ isHead x = true) : pick n (lastIs n l, textOf n l) x = (lastIs n (addLn l x), textOf n (addLn l x)) := by
 unfold pick addLn
 by_cases hx : isHead x = true
 ·rw [if_pos hx, if_pos hx, grow_snoc]
  have e : lastIs n (l ++ [(hname x, [] ++ x)]) = (hname x == n) := by unfold lastIs; rw [List.getLast?_concat]
  rw [e, textOf_snoc]
  rfl
 ·rw [if_neg hx, if_neg hx]
  have hl : l ≠ [] := h.resolve_right hx
  obtain ⟨m, p, e1, e2⟩ := grow_ne hl x
  rw [e2, e1]
  have ea : lastIs n (m ++ [p]) = (p.1 == n) := by unfold lastIs; rw [List.getLast?_concat]
  have eb : lastIs n (m ++ [(p.1, p.2 ++ x)]) = (p.1 == n) := by unfold lastIs; rw [List.getLast?_concat]
  rw [ea, eb, textOf_snoc, textOf_snoc]
  show (p.1 == n, if (p.1 == n) = true then _ else _) = (p.1 == n, _)
  by_cases hp : (p.1 == n) = true
  ·rw [if_pos hp, if_pos hp, if_pos hp, List.append_assoc]
  ·rw [if_neg hp, if_neg hp, if_neg hp]
theorem addLn_not {l : List Part} (h : l ≠ []) (x : List UInt8) : addLn l x ≠ [] := fun e => by
 have h1 := congrArg List.length e
 unfold addLn at h1
 rw [grow_len] at h1
 split at h1
 ·simp at h1
 ·exact h (List.length_eq_zero_iff.1 h1)
theorem pick_fold (n : List UInt8) : ∀ (r : List (List UInt8)) (l : List Part), l ≠ [] → r.foldl (pick n) (lastIs n l, textOf n l) = (lastIs n (r.foldl addLn l), textOf n (r.foldl addLn l))
 | [], _, _ => rfl
 | x :: r, l, h => by
  rw [List.foldl_cons, List.foldl_cons, pick_one n l x (.inl h)]
  exact pick_fold n r _ (addLn_not h x)
theorem pick_parts (n : List UInt8) {l : List (List UInt8)} (h : okLines l = true) : l.foldl (pick n) (false, []) = (lastIs n (parts l), textOf n (parts l)) := by
 cases l with
 | nil => rfl
 | cons x r =>
  unfold okLines at h
  rw [Bool.and_eq_true] at h
  have hx : isHead x = true := h.1
  rw [parts, List.foldl_cons, List.foldl_cons]
  have h1 := pick_one n [] x (.inr hx)
  have h2 : pick n (false, []) x = (lastIs n (addLn [] x), textOf n (addLn [] x)) := h1
  rw [h2]
  refine pick_fold n r _ ?_
  unfold addLn
  rw [hx]
  exact fun e => by cases e
theorem names_step (l : List Part) (x : List UInt8) : (addLn l x).map Prod.fst = l.map Prod.fst ++ (if isHead x then [hname x] else []) := by
 unfold addLn
 rw [grow_names]
 split <;> simp
theorem names_fold : ∀ (r : List (List UInt8)) (l : List Part), (r.foldl addLn l).map Prod.fst = l.map Prod.fst ++ (r.filter isHead).map hname
 | [], l => by simp
 | x :: r, l => by
  rw [List.foldl_cons, names_fold r, names_step]
  by_cases h : isHead x = true
  ·rw [if_pos h, List.filter_cons_of_pos h]; simp
  ·rw [if_neg h, List.filter_cons_of_neg h]; simp
theorem names_parts (l : List (List UInt8)) : (parts l).map Prod.fst = (l.filter isHead).map hname := by
 rw [parts, names_fold]
 rfl
theorem textOf_find : ∀ (l : List Part), (l.map Prod.fst).Nodup → ∀ n : List UInt8, textOf n l = ((l.find? fun p => p.1 == n).getD ([], [])).2
 | [], _, _ => rfl
 | p :: l, h, n => by
  rw [List.map_cons, List.nodup_cons] at h
  unfold textOf
  by_cases hp : (p.1 == n) = true
  ·rw [List.filter_cons_of_pos (p := fun p : Part => p.1 == n) hp, List.find?_cons_of_pos (p := fun p : Part => p.1 == n) hp]
   have hf : l.filter (fun p => p.1 == n) = [] := by
    rw [List.filter_eq_nil_iff]
    intro q hq hqn
    refine h.1 ?_
    rw [eq_of_beq hp, ← eq_of_beq hqn]
    exact List.mem_map_of_mem hq
   rw [hf]
   simp
  ·rw [List.filter_cons_of_neg (p := fun p : Part => p.1 == n) hp, List.find?_cons_of_neg (p := fun p : Part => p.1 == n) hp]
   exact textOf_find l h.2 n
def defB : List UInt8 := [100, 101, 102, 32]
def selfB : List UInt8 := [115, 101, 108, 102, 46]
def isDefP (x : List UInt8) : Bool := Lib.hasPrefix (Lib.trimSpace x) defB
def restP (x : List UInt8) : List UInt8 := Lib.trimPrefix (Lib.trimPrefix (Lib.trimSpace x) defB) selfB
def nameP (x : List UInt8) : List UInt8 := (Lib.cut (Lib.cut (restP x) [40]).1 [32]).1
def isDefR (x : List UInt8) : Bool := Lib.hasPrefix (Lib.trimLeftB x 32) defB
def restR (x : List UInt8) : List UInt8 := Lib.trimPrefix (Lib.trimPrefix (Lib.trimLeftB x 32) defB) selfB
def nameR (x : List UInt8) : List UInt8 := (restR x).take (Lib.indexAny (restR x) [40, 32, 10]).toNat
def okDef (x : List UInt8) : Bool := (isDefP x == isDefR x) && (!isDefR x || (nameP x == nameR x && decide (0 ≤ Lib.indexAny (restR x) [40, 32, 10]))) && Nat.ble x.length 200
def defsP (l : List (List UInt8)) : List (List UInt8) := (l.filter isDefP).map nameP
def defsR (l : List (List UInt8)) : List (List UInt8) := (l.filter isDefR).map nameR
theorem okDef_iff {x : List UInt8} (h : okDef x = true) : isDefP x = isDefR x ∧ (isDefR x = true → nameP x = nameR x ∧ 0 ≤ Lib.indexAny (restR x) [40, 32, 10]) ∧ x.length ≤ 200 := by
 unfold okDef at h
 rw [Bool.and_eq_true, Bool.and_eq_true, beq_iff_eq] at h
 obtain ⟨⟨h1, h2⟩, h3⟩ := h
 refine ⟨h1, fun h4 => ?_, Nat.le_of_ble_eq_true h3⟩
 rw [h4, Bool.not_true, Bool.false_or, Bool.and_eq_true, beq_iff_eq, decide_eq_true_iff] at h2
 exact h2
theorem defs_eq : ∀ {l : List (List UInt8)}, l.all okDef = true → defsP l = defsR l
 | [], _ => rfl
 | x :: l, h => by
  rw [List.all_cons, Bool.and_eq_true] at h
  obtain ⟨h1, h2, _⟩ := okDef_iff h.1
  have ih := defs_eq h.2
  unfold defsP defsR at ih ⊢
  cases hx : isDefR x with
  | true => rw [List.filter_cons_of_pos (by rw [h1, hx]), List.filter_cons_of_pos hx, List.map_cons, List.map_cons, ih, (h2 hx).1]
  | false => rw [List.filter_cons_of_neg (by rw [h1, hx]; decide), List.filter_cons_of_neg (by rw [hx]; decide), ih]
def ndB : List (List UInt8) → Bool
 | [] => true
 | x :: l => l.all (fun y => !(x == y)) && ndB l
theorem ndB_ok : ∀ {l : List (List UInt8)}, ndB l = true → l.Nodup
 | [], _ => List.nodup_nil
 | x :: l, h => by
  unfold ndB at h
  rw [Bool.and_eq_true] at h
  refine List.nodup_cons.2 ⟨fun hm => ?_, ndB_ok h.2⟩
  have := List.all_eq_true.1 h.1 x hm
  simp at this
def okPart (p : Part) : Bool := (lnL p.2).all okDef && (p.2.getLast? == some 10) && Nat.ble p.2.length 5000 && !p.1.isEmpty
theorem okPart_iff {p : Part} (h : okPart p = true) : (lnL p.2).all okDef = true ∧ p.2.getLast? = some 10 ∧ p.2.length ≤ 5000 ∧ p.1 ≠ [] := by
 unfold okPart at h
 rw [Bool.and_eq_true, Bool.and_eq_true, Bool.and_eq_true, beq_iff_eq] at h
 obtain ⟨⟨⟨h1, h2⟩, h3⟩, h4⟩ := h
 refine ⟨h1, h2, Nat.le_of_ble_eq_true h3, fun e => ?_⟩
 rw [e] at h4
 cases h4
end Go.Pre
namespace Go.Proofs.YtkgmaplkomhjdaaDoor
open Go.AX Go.RowKit Go.Pre
set_option maxRecDepth 100000
theorem src_last : (src.getLast? == some 10) = true := by kernel_rfl
theorem src_fed : Fed src := .inr (eq_of_beq src_last)
theorem src_count : src.count 10 = 463 := by kernel_rfl
theorem prt_ok : prt.all okPart = true := by kernel_rfl
theorem prt_ndB : ndB (prt.map Prod.fst) = true := by kernel_rfl
theorem prt_nd : (prt.map Prod.fst).Nodup := ndB_ok prt_ndB
end Go.Proofs.YtkgmaplkomhjdaaDoor
namespace Go.Proofs.YtkgmaplkomhjdaaDoor
open Go.AX Go.RowKit Go.Pre
set_option maxRecDepth 20000
theorem bs_back (b : ByteArray) : bs b.data.toList = b := by
 cases b
 rfl
theorem strsC_of (l : List ByteArray) : l.map Value.string = strsC (l.map fun b => b.data.toList) := by
 unfold strsC
 rw [List.map_map]
 exact List.map_congr_left fun b _ => by show _ = Value.string (bs b.data.toList); rw [bs_back]
theorem genSplit_c (s : List UInt8) (hs : s.length < 4294967281) (hf : Fed s) : SpecF Tryd.prog 45 [.string (bs s), .string (bs [10]), .int .i64 1, .int .i64 (-1)] MaxF fun v G => ∃ b, v = .slice (some ⟨b, 0, none⟩) ((lnL s).length + 1) ((lnL s).length + 1) ∧ ∀ w, G w → SlAt (some ⟨b, 0, none⟩) ((lnL s).length + 1) (strsC (lnL s ++ [[]])) w :=
 specF_new (T := 9) (callOk Tryd.func45 (by kernel_rfl) rfl) (by simp [strsC]) fun w hw => by
  obtain ⟨m, hm⟩ := hw
  obtain ⟨h1, h2⟩ := split_lnL hf
  have hc : Lib.countB (bs s) (bs [10]) = (lnL s).length := by rw [Lib.countB, bs_list, bs_list]; exact h1
  have hle := Lib.countB_le (bs [10]) (by decide) (bs s).size (bs s) (Nat.le_refl _)
  have hd := Lib.splitB_data (bs [10]) 1 (lnL s).length (bs s)
  rw [bs_list, bs_list, ← h1, h2] at hd
  have hn : (Lib.splitB (bs [10]) 1 (lnL s).length (bs s)).length = (lnL s).length + 1 := by
   have := congrArg List.length hd
   rw [List.length_map, h1] at this
   rw [this]
   simp
  refine (Tryd.strings_genSplit (bs s) (bs [10]) 1 (-1) ((lnL s).length + 1) m w (by rw [bs_size]; exact hs) hm (by decide) (by decide) (by decide) (by decide) (by rw [if_pos (by decide), hc]; omega)).mono fun e w' ⟨he, hw⟩ => ⟨?_, ?_⟩
  ·rw [he, Nat.add_sub_cancel, hn]
  ·rw [hw, Nat.add_sub_cancel]
   congr 2
   unfold Lib.cellsOf
   rw [hn, Nat.sub_self, List.replicate_zero, List.append_nil, strsC_of]
   rw [h1] at hd
   rw [hd]
theorem SplitAfter_c (s : List UInt8) (hs : s.length < 4294967281) (hf : Fed s) : SpecF Tryd.prog 28 [.string (bs s), .string (bs [10])] MaxF fun v G => ∃ b, v = .slice (some ⟨b, 0, none⟩) ((lnL s).length + 1) ((lnL s).length + 1) ∧ ∀ w, G w → SlAt (some ⟨b, 0, none⟩) ((lnL s).length + 1) (strsC (lnL s ++ [[]])) w := by
 refine specF hm Tryd.func28 (by kernel_rfl) rfl rfl ?_
 refine wX ?_
 refine SpecF.call (genSplit_c s hs hf) (fun w hw => hw.1) fun v G hR => ?_
 obtain ⟨b, rfl, hG⟩ := hR
 refine wX ?_
 exact fin_p G ⟨b, rfl, hG⟩ fun w hw => hw.2.1
theorem SlAt.front {a : Option Addr} {L : List (List UInt8)} {y : List UInt8} {w : World} (h : SlAt a (L.length + 1) (strsC (L ++ [y])) w) : SlAt a L.length (strsC L) w := by
 obtain ⟨_, h2, h3⟩ := h
 refine ⟨by simp [strsC], fun _ => h2 (by omega), fun j hj => ?_⟩
 have := h3 j (by omega)
 rw [this]
 simp [strsC, List.getElem?_append_left, hj]
theorem lines_c (s : List UInt8) (hs : s.length ≤ 1000000) (hf : Fed s) : SpecF Tryd.prog 14 [.string (bs s)] MaxF fun v G => ∃ b cap, v = .slice (some ⟨b, 0, none⟩) (lnL s).length cap ∧ (lnL s).length ≤ 1000000 ∧ ∀ w, G w → SlAt (some ⟨b, 0, none⟩) (lnL s).length (strsC (lnL s)) w := by
 refine specF hm Tryd.func14 (by kernel_rfl) rfl rfl ?_
 have hle : (lnL s).length ≤ s.length := by
  have h := (split_lnL hf).1
  have hle := Lib.countB_le (bs [10]) (by decide) (bs s).size (bs s) (Nat.le_refl _)
  rw [Lib.countB, bs_list, bs_list, bs_size] at hle
  omega
 refine wX ?_
 refine SpecF.call (SplitAfter_c s (by omega) hf) (fun w hw => hw.1) fun v G hR => ?_
 obtain ⟨b, rfl, hG⟩ := hR
 generalize hL : lnL s = L at *
 refine wX ?_
 have w1 : IntKind.i64.wrap (((L.length + 1 : Nat) : Int) - 1) = (L.length : Int) := by rw [wrap_i64 (by omega)]; omega
 rw [w1]
 refine ReadW.slc_hi (j := (L.length : Int)) rfl (by kernel_rfl) rfl rfl ⟨by omega, by omega⟩ ?_
 refine wX ?_
 refine fin_p (fun w => SlAt (some ⟨b, 0, none⟩) L.length (strsC L) w) ⟨b, _, rfl, by omega, fun _ h => h⟩ fun w hw => ?_
 exact SlAt.front (hG w hw.2.1)
theorem rhead_c (z : List UInt8) (hz : z.length ≤ 200) (ha : Asc z) (hf : isHead z = true → 2 ≤ (Lib.fields z).length) : ∀ H, (∀ w, Facts H w → PreF w) → SpecH Tryd.prog 15 (pvs [.string (bs z)]) H (Ret (.string (bs (if isHead z then hname z else []))) H) := by
 refine factC hm Tryd.func15 (by kernel_rfl) rfl rfl ?_
 refine wX ?_
 refine SpecF.call (Fields_c z (by omega) ha) (fun w hw => hw.1) fun v G hR => ?_
 obtain ⟨fb, rfl, hG⟩ := hR
 refine wX ?_
 refine call1 (HasPrefix_c z classB _) ?_
 refine wX ?_
 cases h1 : classB.isPrefixOf z with
 | true =>
  have hh : isHead z = true := by unfold isHead; rw [h1]; rfl
  have hf2 : 2 ≤ (Lib.fields z).length := hf hh
  have hn : (Lib.fields z)[1]? = some (hname z) := by
   obtain ⟨y, hy⟩ : ∃ y, (Lib.fields z)[1]? = some y := ⟨_, List.getElem?_eq_getElem (by omega)⟩
   rw [hy, hname, List.getD_eq_getElem?_getD, hy]
   rfl
  rw [hh]
  refine wX ?_
  refine Nd.mk ⟨rfl, by decide, by omega⟩ ?_
  refine wX ?_
  refine LdN.one (a := some ⟨fb, 0, none⟩) (q := 1) (.string (bs (hname z))) rfl (fun w hw => hG w hw.2.1) (strsC_get hn) ?_
  refine wX ?_
  rfl
 | false =>
  refine wX ?_
  refine call1 (HasPrefix_c z moduleB _) ?_
  cases h2 : moduleB.isPrefixOf z with
  | true =>
   have hh : isHead z = true := by unfold isHead; rw [h2, Bool.or_true]
   have hf2 : 2 ≤ (Lib.fields z).length := hf hh
   have hn : (Lib.fields z)[1]? = some (hname z) := by
    obtain ⟨y, hy⟩ : ∃ y, (Lib.fields z)[1]? = some y := ⟨_, List.getElem?_eq_getElem (by omega)⟩
    rw [hy, hname, List.getD_eq_getElem?_getD, hy]
    rfl
   rw [hh]
   refine wX ?_
   refine Nd.mk ⟨rfl, by decide, by omega⟩ ?_
   refine wX ?_
   refine LdN.one (a := some ⟨fb, 0, none⟩) (q := 1) (.string (bs (hname z))) rfl (fun w hw => hG w hw.2.1) (strsC_get hn) ?_
   refine wX ?_
   rfl
  | false =>
   have hh : isHead z = false := by unfold isHead; rw [h1, h2]; rfl
   rw [hh]
   refine wX ?_
   rfl
theorem mem_trimPrefix {x p : List UInt8} {b : UInt8} (h : b ∈ Lib.trimPrefix x p) : b ∈ x := by
 unfold Lib.trimPrefix at h
 split at h
 ·exact List.mem_of_mem_drop h
 ·exact h
theorem mem_trimLeft {x : List UInt8} {c b : UInt8} (h : b ∈ Lib.trimLeftB x c) : b ∈ x := (List.dropWhile_sublist _).subset h
theorem len_trimPrefix (x p : List UInt8) : (Lib.trimPrefix x p).length ≤ x.length := by
 unfold Lib.trimPrefix
 split
 ·rw [List.length_drop]; omega
 ·exact Nat.le_refl _
theorem len_trimLeft (x : List UInt8) (c : UInt8) : (Lib.trimLeftB x c).length ≤ x.length := (List.dropWhile_sublist _).length_le
theorem indexAny_le (x p : List UInt8) : Lib.indexAny x p ≤ x.length := by
 induction x with
 | nil => exact (by decide : (-1 : Int) ≤ 0)
 | cons c x ih =>
  unfold Lib.indexAny
  rw [List.length_cons]
  split
  ·omega
  ·split <;> omega
theorem named_c (z : List UInt8) (hz : z.length ≤ 200) (ha : Asc z) (hi : 0 ≤ Lib.indexAny (restR z) [40, 32, 10]) : ∀ H, (∀ w, Facts H w → PreF w) → SpecH Tryd.prog 24 (pvs [.string (bs z)]) H (Ret (.string (bs (nameR z))) H) := by
 refine factC hm Tryd.func24 (by kernel_rfl) rfl rfl ?_
 refine wX ?_
 refine call1 (TrimLeft_c z 32 (by decide) _) ?_
 refine wX ?_
 refine call1 (TrimPrefix_c _ defB _) ?_
 refine wX ?_
 refine call1 (TrimPrefix_c _ selfB _) ?_
 refine wX ?_
 show SpecH _ _ (pvs [.string (bs (restR z)), .string (bs [40, 32, 10])]) _ _
 have hm : ∀ b ∈ restR z, b ∈ z := fun b hb => mem_trimLeft (mem_trimPrefix (mem_trimPrefix hb))
 have hrl : (restR z).length ≤ z.length := Nat.le_trans (len_trimPrefix _ _) (Nat.le_trans (len_trimPrefix _ _) (len_trimLeft _ _))
 refine call1 (IndexAny_c (restR z) [40, 32, 10] (by omega) (by decide) (fun b hb => ha b (hm b hb)) (fun b hb => by revert b; decide) _) ?_
 have hle := indexAny_le (restR z) [40, 32, 10]
 obtain ⟨k, hk⟩ : ∃ k : Nat, Lib.indexAny (restR z) [40, 32, 10] = (k : Int) := ⟨_, (Int.toNat_of_nonneg hi).symm⟩
 unfold nameR
 rw [hk] at hle ⊢
 rw [Int.toNat_natCast]
 refine wX ?_
 refine ReadW.sl_h k rfl Tryd.underlying9 rfl rfl ⟨rfl, Int.ofNat_le.1 hle⟩ ?_
 refine wX ?_
 rfl
end Go.Proofs.YtkgmaplkomhjdaaDoor
namespace Go.Proofs.YtkgmaplkomhjdaaDoor
open Go.AX Go.RowKit Go.Pre
set_option maxRecDepth 20000
theorem Lines0_c : ∀ H, SpecH Tryd.prog 26 (pvs []) H (Ret (.int .i64 463) H) := by
 refine pureC hm Tryd.func26 (by kernel_rfl) rfl rfl ?_
 refine wX ?_
 refine call1 (Count1_c src 10 _) ?_
 rw [src_count]
 refine wX ?_
 rfl
structure NmS where
 i : Nat
 a : Option Addr
 cap : Nat
theorem Names_c : SpecF Tryd.prog 12 [] PreF fun v G => ∃ a cap, v = .slice a prt.length cap ∧ ∀ w, G w → SlAt a prt.length (strsC (prt.map Prod.fst)) w := by
 refine specF hm Tryd.func12 (by kernel_rfl) rfl rfl ?_
 refine wX ?_
 refine SpecF.call parts_c (fun w hw => hw.1) fun v G hR => ?_
 obtain ⟨b, cap, rfl, hcap, hG⟩ := hR
 have hlen : prt.length ≤ 12 := Nat.le_of_eq prt_len
 generalize prt = P at hcap hG hlen ⊢
 refine wX ?_
 refine LoopN.intro NmS (fun s => s.i ≤ P.length ∧ s.i ≤ s.cap)
  (fun s => mkS Tryd.f12.ntmps 0 [(0, .c (.v (.slice none 0 0))), (1, .c (.v (.slice s.a s.i s.cap))), (4, .c (.v (.slice (some ⟨b, 0, none⟩) P.length cap))), (5, .c (.v (.int .i64 (P.length : Int)))), (6, .c (.v (.int .i64 (s.i : Int))))])
  (fun s => [.fact PreF, .fact G, .app 9 1 (strsC ((P.map Prod.fst).take s.i)) s.a s.i s.cap]) (fun s => P.length - s.i) [.app 9 1 [] none 0 0] rfl (fun _ => rfl) (fun _ => rfl) (fun _ _ => okHB_eq rfl)
  ⟨⟨0, none, 0⟩, ⟨Nat.zero_le _, Nat.le_refl _⟩, ?_, wkH_refl _⟩ ?_
 ·exact wKK
 rintro ⟨i, a, c⟩ ⟨hi, hc⟩
 have hi : i ≤ P.length := hi
 have hc : i ≤ c := hc
 refine wX ?_
 refine brd_dec (fun h1 => ?_) (fun h1 => ?_)
 ·have h1 : (i : Int) < (P.length : Int) := h1
  obtain ⟨p, hp⟩ : ∃ p, P[i]? = some p := ⟨_, List.getElem?_eq_getElem (by omega)⟩
  refine wX ?_
  refine Nd.mk ⟨rfl, by show 0 ≤ (i : Int); omega, by show (i : Int) < _; omega⟩ ?_
  refine wX ?_
  refine LdN.agg (partC p) rfl (fun w hw => hG w hw.2.1) rfl (fun j hj => by show (partsC P)[((i : Int)).toNat * 2 + j]? = _; rw [Int.toNat_natCast]; exact partsC_get P i j hj hp) ?_
  refine wX ?_
  refine Nd.mk ⟨Nat.le_refl 1, rfl, rfl⟩ ?_
  (conv => whnf)
  refine AppN.grow 2 (strsC ((P.map Prod.fst).take i)) [.string (bs p.1)] rfl rfl ⟨Nat.le_refl 1, ⟨by show (i + 1) * 16 ≤ _; omega, by show i + 1 < _; omega⟩, by decide⟩ fun b' c' g1 g2 => ?_
  refine wX ?_
  have e1 : strsC ((P.map Prod.fst).take i) ++ [Value.string (bs p.1)] = strsC ((P.map Prod.fst).take (i + 1)) := by
   rw [List.take_add_one, List.getElem?_map, hp]
   simp [strsC]
  rw [e1]
  refine ⟨⟨i + 1, some ⟨b', 0, none⟩, c'⟩, ⟨by show i + 1 ≤ _; omega, g1⟩, by show P.length - (i + 1) < P.length - i; omega, ?_, ⟨wkE_refl _, wkE_refl _, wkE_refl _, wkH_nil _⟩⟩
  (repeat' (first | exact trivial | refine And.intro (by with_reducible rfl) ?_ | (with_reducible exact wkC_refl _) | (with_reducible exact wkCs_refl _) | refine And.intro ?_ ?_))
  all_goals first | rfl | exact av_int (by show IntKind.i64.wrap ((i : Int) + 1) = ((i + 1 : Nat) : Int); rw [wrap_i64 (by omega)]; omega)
 ·have h1 : ¬ (i : Int) < (P.length : Int) := h1
  obtain rfl : i = P.length := by omega
  refine wX ?_
  refine fin_p (fun w => SlAt a P.length (strsC (P.map Prod.fst)) w) ⟨a, c, rfl, fun w h => h⟩ fun w hw => ?_
  have h3 := hw.2.2.1
  rw [List.take_of_length_le (by simp), Nat.mul_one] at h3
  exact h3
end Go.Proofs.YtkgmaplkomhjdaaDoor
namespace Go.Proofs.YtkgmaplkomhjdaaDoor
open Go.AX Go.RowKit Go.Pre
set_option maxRecDepth 20000
structure LnOk (z : List UInt8) : Prop where
 len : z.length ≤ 200
 asc : Asc z
 two : isHead z = true → 2 ≤ (Lib.fields z).length
 name : isHead z = true → hname z ≠ []
theorem lns_all : ∀ z ∈ lns, LnOk z := fun z hz => {
 len := Nat.le_of_ble_eq_true (List.all_eq_true.1 lns_bd z hz)
 asc := fun b hb => src_asc b (by rw [← lnL_flat src]; exact List.mem_flatten.2 ⟨z, hz, hb⟩)
 two := ok_head lns_ok hz
 name := fun h => by
  have h1 : hname z ∈ prt.map Prod.fst := by
   rw [prt, names_parts]
   exact List.mem_map_of_mem (List.mem_filter.2 ⟨hz, h⟩)
  obtain ⟨p, hp, he⟩ := List.mem_map.1 h1
  rw [← he]
  exact (okPart_iff (List.all_eq_true.1 prt_ok p hp)).2.2.2 }
theorem slines_c : SpecF Tryd.prog 14 [.string (bs src)] PreF fun v G => ∃ b cap, v = .slice (some ⟨b, 0, none⟩) lns.length cap ∧ lns.length ≤ 463 ∧ ∀ w, G w → SlAt (some ⟨b, 0, none⟩) lns.length (strsC lns) w :=
 ⟨(lines_c src (by rw [src_len]; decide) src_fed).ok, fun S w hw hS => ((lines_c src (by rw [src_len]; decide) src_fed).run S w ⟨hw.1.1, fun w2 h2 => (hw.2 w2 h2).1⟩ hS).mono fun e w' h => by
  obtain ⟨v, G, D, he, ⟨b, cap, hv, _, hG⟩, hr⟩ := h
  exact ⟨v, G, D, he, ⟨b, cap, hv, Nat.le_of_eq lns_len, hG⟩, hr⟩⟩
theorem RLines_c : ∀ H, (∀ w, Facts H w → PreF w) → SpecH Tryd.prog 27 (pvs []) H (Ret (.int .i64 463) H) := by
 refine factC hm Tryd.func27 (by kernel_rfl) rfl rfl ?_
 refine wX ?_
 refine SpecF.call slines_c (fun w hw => hw.1) fun v G hR => ?_
 obtain ⟨b, cap, rfl, hcap, hG⟩ := hR
 rw [lns_len]
 refine wX ?_
 rfl
def hdn (L : List (List UInt8)) (i : Nat) : List (List UInt8) := ((L.take i).filter isHead).map hname
theorem hdn_len (L : List (List UInt8)) (i : Nat) : (hdn L i).length ≤ i := by
 unfold hdn
 rw [List.length_map]
 exact Nat.le_trans (List.length_filter_le _ _) (by rw [List.length_take]; omega)
theorem hdn_next {L : List (List UInt8)} {i : Nat} {z : List UInt8} (h : L[i]? = some z) : hdn L (i + 1) = hdn L i ++ (if isHead z then [hname z] else []) := by
 unfold hdn
 rw [List.take_add_one, h]
 cases hz : isHead z <;> simp [hz]
structure RnS where
 i : Nat
 a : Option Addr
 cap : Nat
theorem RNames_c : SpecF Tryd.prog 4 [] PreF fun v G => ∃ a cap, v = .slice a (prt.map Prod.fst).length cap ∧ (a = none → prt.map Prod.fst = []) ∧ ∀ w, G w → SlAt a (prt.map Prod.fst).length (strsC (prt.map Prod.fst)) w := by
 refine specF hm Tryd.func4 (by kernel_rfl) rfl rfl ?_
 refine wX ?_
 refine SpecF.call slines_c (fun w hw => hw.1) fun v G hR => ?_
 obtain ⟨b, lc, rfl, hlc, hG⟩ := hR
 have hok := lns_all
 have hp : prt.map Prod.fst = hdn lns lns.length := by rw [prt, names_parts, hdn, List.take_length]
 rw [hp]
 clear hp
 generalize lns = L at *
 refine wX ?_
 refine LoopN.intro RnS (fun s => s.i ≤ L.length ∧ (hdn L s.i).length ≤ s.cap ∧ (s.a = none → hdn L s.i = []))
  (fun s => mkS Tryd.f4.ntmps 0 [(0, .c (.v (.slice none 0 0))), (1, .c (.v (.slice (some ⟨b, 0, none⟩) L.length lc))), (2, .c (.v (.slice s.a (hdn L s.i).length s.cap))), (3, .c (.v (.int .i64 (s.i : Int))))])
  (fun s => [.fact PreF, .fact G, .app 9 1 (strsC (hdn L s.i)) s.a (hdn L s.i).length s.cap]) (fun s => L.length - s.i) [.app 9 1 [] none 0 0] rfl (fun _ => rfl) (fun _ => rfl) (fun _ _ => okHB_eq rfl)
  ⟨⟨0, none, 0⟩, ⟨Nat.zero_le _, Nat.le_refl _, fun _ => rfl⟩, ?_, wkH_refl _⟩ ?_
 ·exact wKK
 rintro ⟨i, a, c⟩ ⟨hi, hc, hna⟩
 have hna : a = none → hdn L i = [] := hna
 have hi : i ≤ L.length := hi
 have hc : (hdn L i).length ≤ c := hc
 have hn := hdn_len L i
 refine wX ?_
 refine brd_dec (fun h1 => ?_) (fun h1 => ?_)
 ·have h1 : (i : Int) < (L.length : Int) := h1
  obtain ⟨z, hz⟩ : ∃ z, L[i]? = some z := ⟨_, List.getElem?_eq_getElem (by omega)⟩
  obtain ⟨z1, z2, z3, z4⟩ := hok z (List.mem_of_getElem? hz)
  have hx := hdn_next hz
  refine wX ?_
  refine Nd.mk ⟨rfl, by show 0 ≤ (i : Int); omega, by show (i : Int) < _; omega⟩ ?_
  refine wX ?_
  refine LdN.one (.string (bs z)) rfl (fun w hw => hG w hw.2.1) (by show (strsC L)[(i : Int).toNat * 1]? = _; rw [Int.toNat_natCast, Nat.mul_one]; exact strsC_get hz) ?_
  refine wX ?_
  refine call1 (rhead_c z z1 z2 z3 _ (fun w hw => hw.1)) ?_
  cases hh : isHead z with
  | true =>
   rw [hh] at hx
   have hne := z4 hh
   refine wX ?_
   refine brd_intro (fun e => ?_) (fun e => ?_)
   ·refine wX ?_
    refine Nd.mk ⟨Nat.le_refl 1, rfl, rfl⟩ ?_
    (conv => whnf)
    refine AppN.grow 2 (strsC (hdn L i)) [.string (bs (hname z))] rfl rfl ⟨Nat.le_refl 1, ⟨by show ((hdn L i).length + 1) * 16 ≤ _; omega, by show (hdn L i).length + 1 < _; omega⟩, by decide⟩ fun b' c' g1 g2 => ?_
    refine wX ?_
    have e1 : strsC (hdn L i) ++ [Value.string (bs (hname z))] = strsC (hdn L (i + 1)) := by
     rw [hx]
     simp [strsC]
    have e2 : (hdn L i).length + 1 = (hdn L (i + 1)).length := by rw [hx]; simp
    rw [e1]
    refine ⟨⟨i + 1, some ⟨b', 0, none⟩, c'⟩, ⟨by show i + 1 ≤ _; omega, by show (hdn L (i + 1)).length ≤ c'; rw [← e2]; exact g1, fun h => by cases h⟩, by show L.length - (i + 1) < L.length - i; omega, ?_, ⟨wkE_refl _, wkE_refl _, ?_, wkH_nil _⟩⟩
    ·(repeat' (first | exact trivial | refine And.intro (by with_reducible rfl) ?_ | (with_reducible exact wkC_refl _) | (with_reducible exact wkCs_refl _) | refine And.intro ?_ ?_))
     all_goals first | rfl | (show AV.c (CV.v (.slice _ ((hdn L i).length + 1) c')) = AV.c (CV.v (.slice _ (hdn L (i + 1)).length c')); rw [e2])
    ·show wkE (.app _ _ _ _ ((hdn L i).length + 1) _) (.app _ _ _ _ (hdn L (i + 1)).length _)
     rw [e2]
     exact wkE_refl _
   ·exfalso
    rw [if_pos rfl, bs_list] at e
    simp at e
    exact hne e
  | false =>
   rw [hh] at hx
   have e2 : hdn L i = hdn L (i + 1) := by rw [hx]; simp
   refine wX ?_
   refine ⟨⟨i + 1, a, c⟩, ⟨by show i + 1 ≤ _; omega, by show (hdn L (i + 1)).length ≤ c; rw [← e2]; exact hc, fun h => e2.symm.trans (hna h)⟩, by show L.length - (i + 1) < L.length - i; omega, ?_, ⟨wkE_refl _, wkE_refl _, ?_, wkH_nil _⟩⟩
   ·(repeat' (first | exact trivial | refine And.intro (by with_reducible rfl) ?_ | (with_reducible exact wkC_refl _) | (with_reducible exact wkCs_refl _) | refine And.intro ?_ ?_))
    all_goals first | rfl | (show AV.c (CV.v (.slice _ (hdn L i).length c)) = AV.c (CV.v (.slice _ (hdn L (i + 1)).length c)); rw [e2])
   ·show wkE (.app _ _ (strsC (hdn L i)) _ (hdn L i).length _) (.app _ _ (strsC (hdn L (i + 1))) _ (hdn L (i + 1)).length _)
    rw [e2]
    exact wkE_refl _
 ·have h1 : ¬ (i : Int) < (L.length : Int) := h1
  obtain rfl : i = L.length := by omega
  refine wX ?_
  refine fin_p (fun w => SlAt a (hdn L L.length).length (strsC (hdn L L.length)) w) ⟨a, c, rfl, hna, fun w h => h⟩ fun w hw => ?_
  have h3 := hw.2.2.1
  rw [Nat.mul_one] at h3
  exact h3
def txV (t : List UInt8) : Value := if t = [] then .tuple #[.string (bs []), .int .i64 6] else .tuple #[.string (bs t), .int .i64 0]
def stR (x : List UInt8) (L : List (List UInt8)) (i : Nat) : Bool × List UInt8 := (L.take i).foldl (pick x) (false, [])
theorem stR_next {x : List UInt8} {L : List (List UInt8)} {i : Nat} {z : List UInt8} (h : L[i]? = some z) : stR x L (i + 1) = pick x (stR x L i) z := by
 unfold stR
 rw [List.take_add_one, h]
 simp
theorem stR_len (x : List UInt8) {L : List (List UInt8)} (hL : ∀ z ∈ L, LnOk z) : ∀ i, i ≤ L.length → (stR x L i).2.length ≤ 200 * i
 | 0, _ => by simp [stR]
 | i + 1, h => by
  obtain ⟨z, hz⟩ : ∃ z, L[i]? = some z := ⟨_, List.getElem?_eq_getElem (by omega)⟩
  have ih := stR_len x hL i (by omega)
  have hz2 := (hL z (List.mem_of_getElem? hz)).len
  rw [stR_next hz]
  unfold pick
  show (if (if isHead z then hname z == x else (stR x L i).1) = true then (stR x L i).2 ++ z else (stR x L i).2).length ≤ _
  generalize (if isHead z then hname z == x else (stR x L i).1) = bb
  cases bb with
  | true => rw [if_pos rfl, List.length_append]; omega
  | false => rw [if_neg (by decide)]; omega
theorem RPart0_c (x : List UInt8) : ∀ H, (∀ w, Facts H w → PreF w) → SpecH Tryd.prog 6 (pvs [.string (bs x)]) H (Ret (txV (stR x lns lns.length).2) H) := by
 refine factC hm Tryd.func6 (by kernel_rfl) rfl rfl ?_
 refine wX ?_
 refine SpecF.call slines_c (fun w hw => hw.1) fun v G hR => ?_
 obtain ⟨b, lc, rfl, hlc, hG⟩ := hR
 have hok := lns_all
 generalize lns = L at *
 refine wX ?_
 refine LoopN.intro Nat (fun i => i ≤ L.length)
  (fun i => mkS Tryd.f6.ntmps 0 [(0, .c (.v (.string (bs x)))), (2, .c (.v (.string ⟨#[]⟩))), (3, .c (.v (.int .i64 0))), (4, .c (.v (.slice (some ⟨b, 0, none⟩) L.length lc))), (5, .c (.v (.string (bs (stR x L i).2)))), (6, .c (.v (.bool (stR x L i).1))), (7, .c (.v (.int .i64 (i : Int))))])
  (fun _ => [.fact PreF, .fact G]) (fun i => L.length - i) [] rfl (fun _ => rfl) (fun _ => rfl) (fun _ _ => okHB_eq rfl)
  ⟨0, Nat.zero_le _, ?_, wkH_refl _⟩ ?_
 ·exact wKK
 rintro i hi
 have hi : i ≤ L.length := hi
 have hlen := stR_len x hok i hi
 refine wX ?_
 refine brd_dec (fun h1 => ?_) (fun h1 => ?_)
 ·obtain ⟨z, hz⟩ : ∃ z, L[i]? = some z := ⟨_, List.getElem?_eq_getElem (by omega)⟩
  obtain ⟨z1, z2, z3, z4⟩ := hok z (List.mem_of_getElem? hz)
  have hx := stR_next (x := x) hz
  refine wX ?_
  refine Nd.mk ⟨rfl, by omega, by omega⟩ ?_
  refine wX ?_
  refine LdN.one (.string (bs z)) rfl (fun w hw => hG w hw.2.1) (by show (strsC L)[(i : Int).toNat * 1]? = _; rw [Int.toNat_natCast, Nat.mul_one]; exact strsC_get hz) ?_
  refine wX ?_
  refine call1 (rhead_c z z1 z2 z3 _ (fun w hw => hw.1)) ?_
  cases hh : isHead z with
  | true =>
   have hne := z4 hh
   rw [if_pos rfl]
   refine wX ?_
   refine brd_intro (fun e => ?_) (fun e => ?_)
   ·refine wX ?_
    rw [bs_list, bs_list]
    cases hb : (hname z == x) with
    | true =>
     have e : stR x L (i + 1) = (true, (stR x L i).2 ++ z) := by rw [hx]; unfold pick; simp [hh, hb]
     refine wX ?_
     refine Nd.mk ⟨rfl, by omega, by omega⟩ ?_
     refine wX ?_
     refine LdN.one (.string (bs z)) rfl (fun w hw => hG w hw.2.1) (by show (strsC L)[(i : Int).toNat * 1]? = _; rw [Int.toNat_natCast, Nat.mul_one]; exact strsC_get hz) ?_
     refine wX ?_
     refine Nd.mk (by rw [bs_size, bs_size]; omega) ?_
     refine wX ?_
     refine ⟨i + 1, by show i + 1 ≤ _; omega, by show L.length - (i + 1) < L.length - i; omega, ?_, wkH_refl _⟩
     (repeat' (first | exact trivial | refine And.intro (by with_reducible rfl) ?_ | (with_reducible exact wkC_refl _) | (with_reducible exact wkCs_refl _) | refine And.intro ?_ ?_))
     all_goals first | rfl | (rw [e]; try rw [← bs_app]) | exact av_int (by rw [wrap_i64 (by omega)]; omega)
    | false =>
     have e : stR x L (i + 1) = (false, (stR x L i).2) := by rw [hx]; unfold pick; simp [hh, hb]
     refine wX ?_
     refine ⟨i + 1, by show i + 1 ≤ _; omega, by show L.length - (i + 1) < L.length - i; omega, ?_, wkH_refl _⟩
     (repeat' (first | exact trivial | refine And.intro (by with_reducible rfl) ?_ | (with_reducible exact wkC_refl _) | (with_reducible exact wkCs_refl _) | refine And.intro ?_ ?_))
     all_goals first | rfl | rw [e] | exact av_int (by rw [wrap_i64 (by omega)]; omega)
   ·exfalso
    rw [bs_list] at e
    simp at e
    exact hne e
  | false =>
   rw [if_neg (by decide)]
   refine wX ?_
   cases hb : (stR x L i).1 with
   | true =>
    have e : stR x L (i + 1) = (true, (stR x L i).2 ++ z) := by rw [hx]; unfold pick; simp [hh, hb]
    refine wX ?_
    refine Nd.mk ⟨rfl, by omega, by omega⟩ ?_
    refine wX ?_
    refine LdN.one (.string (bs z)) rfl (fun w hw => hG w hw.2.1) (by show (strsC L)[(i : Int).toNat * 1]? = _; rw [Int.toNat_natCast, Nat.mul_one]; exact strsC_get hz) ?_
    refine wX ?_
    refine Nd.mk (by rw [bs_size, bs_size]; omega) ?_
    refine wX ?_
    refine ⟨i + 1, by show i + 1 ≤ _; omega, by show L.length - (i + 1) < L.length - i; omega, ?_, wkH_refl _⟩
    (repeat' (first | exact trivial | refine And.intro (by with_reducible rfl) ?_ | (with_reducible exact wkC_refl _) | (with_reducible exact wkCs_refl _) | refine And.intro ?_ ?_))
    all_goals first | rfl | (rw [e]; try rw [← bs_app]) | exact av_int (by rw [wrap_i64 (by omega)]; omega)
   | false =>
    have e : stR x L (i + 1) = (false, (stR x L i).2) := by rw [hx]; unfold pick; simp [hh, hb]
    refine wX ?_
    refine ⟨i + 1, by show i + 1 ≤ _; omega, by show L.length - (i + 1) < L.length - i; omega, ?_, wkH_refl _⟩
    (repeat' (first | exact trivial | refine And.intro (by with_reducible rfl) ?_ | (with_reducible exact wkC_refl _) | (with_reducible exact wkCs_refl _) | refine And.intro ?_ ?_))
    all_goals first | rfl | rw [e] | exact av_int (by rw [wrap_i64 (by omega)]; omega)
 ·obtain rfl : i = L.length := by omega
  generalize (stR x L L.length).2 = t
  refine wX ?_
  unfold txV
  refine brd_intro (fun e => ?_) (fun e => ?_)
  ·have h : t = [] := (bs_ne (y := []) e).1 rfl
   rw [if_pos h]
   refine wX ?_
   rfl
  ·have h : ¬ t = [] := fun h => by cases (bs_ne (y := []) e).2 h
   rw [if_neg h]
   exact wZ
end Go.Proofs.YtkgmaplkomhjdaaDoor
namespace Go.Proofs.YtkgmaplkomhjdaaDoor
open Go.AX Go.RowKit Go.Pre
set_option maxRecDepth 20000
structure PtOk (p : Part) : Prop where
 defs : (lnL p.2).all okDef = true
 fed : Fed p.2
 ne : p.2 ≠ []
 len : p.2.length ≤ 5000
 name : p.1 ≠ []
 asc : Asc p.2
theorem prt_all : ∀ p ∈ prt, PtOk p := fun p hp => by
 obtain ⟨h1, h2, h3, h4⟩ := okPart_iff (List.all_eq_true.1 prt_ok p hp)
 refine ⟨h1, .inr h2, (fun e => by rw [e] at h2; cases h2), h3, h4, fun b hb => src_asc b ?_⟩
 rw [← prt_join]
 exact List.mem_flatten.2 ⟨p.2, List.mem_map_of_mem hp, hb⟩
theorem find_or (x : List UInt8) : findP prt x = ([], []) ∨ PtOk (findP prt x) := by
 unfold findP
 cases h : prt.find? fun p => p.1 == x with
 | none => exact .inl rfl
 | some p => exact .inr (prt_all p (List.mem_of_find?_eq_some h))
theorem txV_part (x : List UInt8) : txV (stR x lns lns.length).2 = partV prt x := by
 have h1 : stR x lns lns.length = (lastIs x prt, textOf x prt) := by
  unfold stR
  rw [List.take_length]
  exact pick_parts x lns_ok
 rw [h1]
 show txV (textOf x prt) = _
 rw [textOf_find prt prt_nd x]
 show txV (findP prt x).2 = _
 unfold txV partV
 rcases find_or x with h | h
 ·rw [h]
 ·rw [if_neg h.ne, if_neg h.name]
theorem RPart_c (x : List UInt8) : ∀ H, (∀ w, Facts H w → PreF w) → SpecH Tryd.prog 6 (pvs [.string (bs x)]) H (Ret (partV prt x) H) := fun H hF => by
 have h := RPart0_c x H hF
 rw [txV_part] at h
 exact h
noncomputable def defL (x : List UInt8) : List (List UInt8) := defsR (lnL (findP prt x).2)
noncomputable def defE (x : List UInt8) : Int := if (findP prt x).1 = [] then 6 else 0
def DefR (x : List UInt8) (v : Value) (G : World → Prop) : Prop := ∃ a cap, v = .tuple #[.slice a (defL x).length cap, .int .i64 (defE x)] ∧ ∀ w, G w → SlAt a (defL x).length (strsC (defL x)) w
def dfn (L : List (List UInt8)) (i : Nat) : List (List UInt8) := defsR (L.take i)
theorem dfn_len (L : List (List UInt8)) (i : Nat) : (dfn L i).length ≤ i := by
 unfold dfn defsR
 rw [List.length_map]
 exact Nat.le_trans (List.length_filter_le _ _) (by rw [List.length_take]; omega)
theorem dfn_next {L : List (List UInt8)} {i : Nat} {z : List UInt8} (h : L[i]? = some z) : dfn L (i + 1) = dfn L i ++ (if isDefR z then [nameR z] else []) := by
 unfold dfn defsR
 rw [List.take_add_one, h]
 cases hz : isDefR z <;> simp [hz]
theorem RDefines_c (x : List UInt8) : SpecF Tryd.prog 8 [.string (bs x)] PreF (DefR x) := by
 refine specF hm Tryd.func8 (by kernel_rfl) rfl rfl ?_
 refine wX ?_
 refine call1 (RPart_c x _ (fun w hw => hw.1)) ?_
 have hfo := find_or x
 unfold partV DefR defE defL
 generalize findP prt x = p at *
 by_cases hp : p.1 = []
 ·have hp2 : p = ([], []) := hfo.resolve_right fun h => h.name hp
  subst hp2
  rw [if_pos rfl, if_pos rfl]
  refine wX ?_
  exact fin_p (fun _ => True) ⟨none, 0, rfl, fun w _ => SlAt.nil⟩ fun _ _ => trivial
 have hP : PtOk p := hfo.resolve_left fun h => hp (by rw [h])
 rw [if_neg hp, if_neg hp]
 have hLA : ∀ z ∈ lnL p.2, Asc z := fun z hz b hb => hP.asc b (by rw [← lnL_flat p.2]; exact List.mem_flatten.2 ⟨z, hz, hb⟩)
 have hLL := hP.defs
 refine wX ?_
 refine SpecF.call (lines_c p.2 (by have := hP.len; omega) hP.fed) (fun w hw => hw.1.1) fun v G hR => ?_
 obtain ⟨b, lc, rfl, hlc, hG⟩ := hR
 generalize lnL p.2 = L at *
 refine wX ?_
 refine LoopN.intro RnS (fun s => s.i ≤ L.length ∧ (dfn L s.i).length ≤ s.cap)
  (fun s => mkS Tryd.f8.ntmps 0 [(2, .c (.v (.slice none 0 0))), (3, .c (.v (.int .i64 0))), (6, .c (.v (.slice (some ⟨b, 0, none⟩) L.length lc))), (7, .c (.v (.slice s.a (dfn L s.i).length s.cap))), (8, .c (.v (.int .i64 (s.i : Int))))])
  (fun s => [.fact PreF, .fact G, .app 9 1 (strsC (dfn L s.i)) s.a (dfn L s.i).length s.cap]) (fun s => L.length - s.i) [.app 9 1 [] none 0 0] rfl (fun _ => rfl) (fun _ => rfl) (fun _ _ => okHB_eq rfl)
  ⟨⟨0, none, 0⟩, ⟨Nat.zero_le _, Nat.le_refl _⟩, ?_, wkH_refl _⟩ ?_
 ·exact wKK
 rintro ⟨i, a, c⟩ ⟨hi, hc⟩
 have hi : i ≤ L.length := hi
 have hc : (dfn L i).length ≤ c := hc
 have hn := dfn_len L i
 refine wX ?_
 refine brd_dec (fun h1 => ?_) (fun h1 => ?_)
 ·have h1 : (i : Int) < (L.length : Int) := h1
  obtain ⟨z, hz⟩ : ∃ z, L[i]? = some z := ⟨_, List.getElem?_eq_getElem (by omega)⟩
  have hzm := List.mem_of_getElem? hz
  obtain ⟨_, z2, z3⟩ := okDef_iff (List.all_eq_true.1 hLL z hzm)
  have z1 := hLA z hzm
  have hx := dfn_next hz
  refine wX ?_
  refine Nd.mk ⟨rfl, by show 0 ≤ (i : Int); omega, by show (i : Int) < _; omega⟩ ?_
  refine wX ?_
  refine LdN.one (.string (bs z)) rfl (fun w hw => hG w hw.2.1) (by show (strsC L)[(i : Int).toNat * 1]? = _; rw [Int.toNat_natCast, Nat.mul_one]; exact strsC_get hz) ?_
  refine wX ?_
  refine call1 (TrimLeft_c z 32 (by decide) _) ?_
  refine wX ?_
  refine call1 (HasPrefix_c (Lib.trimLeftB z 32) defB _) ?_
  refine wX ?_
  refine brd_intro (fun hd => ?_) (fun hd => ?_)
  ·have hd : isDefR z = true := hd
   obtain ⟨_, z4⟩ := z2 hd
   rw [hd, if_pos rfl] at hx
   refine wX ?_
   refine Nd.mk ⟨rfl, by show 0 ≤ (i : Int); omega, by show (i : Int) < _; omega⟩ ?_
   refine wX ?_
   refine LdN.one (.string (bs z)) rfl (fun w hw => hG w hw.2.1) (by show (strsC L)[(i : Int).toNat * 1]? = _; rw [Int.toNat_natCast, Nat.mul_one]; exact strsC_get hz) ?_
   refine wX ?_
   refine call1 (named_c z z3 z1 z4 _ (fun w hw => hw.1)) ?_
   refine wX ?_
   refine Nd.mk ⟨Nat.le_refl 1, rfl, rfl⟩ ?_
   (conv => whnf)
   refine AppN.grow 2 (strsC (dfn L i)) [.string (bs (nameR z))] rfl rfl ⟨Nat.le_refl 1, ⟨by show ((dfn L i).length + 1) * 16 ≤ _; omega, by show (dfn L i).length + 1 < _; omega⟩, by decide⟩ fun b' c' g1 g2 => ?_
   refine wX ?_
   have e1 : strsC (dfn L i) ++ [Value.string (bs (nameR z))] = strsC (dfn L (i + 1)) := by
    rw [hx]
    simp [strsC]
   have e2 : (dfn L i).length + 1 = (dfn L (i + 1)).length := by rw [hx]; simp
   rw [e1]
   refine ⟨⟨i + 1, some ⟨b', 0, none⟩, c'⟩, ⟨by show i + 1 ≤ _; omega, by show (dfn L (i + 1)).length ≤ c'; rw [← e2]; exact g1⟩, by show L.length - (i + 1) < L.length - i; omega, ?_, ⟨wkE_refl _, wkE_refl _, ?_, wkH_nil _⟩⟩
   ·(repeat' (first | exact trivial | refine And.intro (by with_reducible rfl) ?_ | (with_reducible exact wkC_refl _) | (with_reducible exact wkCs_refl _) | refine And.intro ?_ ?_))
    all_goals first | rfl | (show AV.c (CV.v (.slice _ ((dfn L i).length + 1) c')) = AV.c (CV.v (.slice _ (dfn L (i + 1)).length c')); rw [e2])
   ·show wkE (.app _ _ _ _ ((dfn L i).length + 1) _) (.app _ _ _ _ (dfn L (i + 1)).length _)
    rw [e2]
    exact wkE_refl _
  ·have hd : isDefR z = false := hd
   rw [hd, if_neg (by decide), List.append_nil] at hx
   have e2 : dfn L i = dfn L (i + 1) := hx.symm
   refine wX ?_
   refine ⟨⟨i + 1, a, c⟩, ⟨by show i + 1 ≤ _; omega, by show (dfn L (i + 1)).length ≤ c; rw [← e2]; exact hc⟩, by show L.length - (i + 1) < L.length - i; omega, ?_, ⟨wkE_refl _, wkE_refl _, ?_, wkH_nil _⟩⟩
   ·(repeat' (first | exact trivial | refine And.intro (by with_reducible rfl) ?_ | (with_reducible exact wkC_refl _) | (with_reducible exact wkCs_refl _) | refine And.intro ?_ ?_))
    all_goals first | rfl | (show AV.c (CV.v (.slice _ (dfn L i).length c)) = AV.c (CV.v (.slice _ (dfn L (i + 1)).length c)); rw [e2])
   ·show wkE (.app _ _ (strsC (dfn L i)) _ (dfn L i).length _) (.app _ _ (strsC (dfn L (i + 1))) _ (dfn L (i + 1)).length _)
    rw [e2]
    exact wkE_refl _
 ·have h1 : ¬ (i : Int) < (L.length : Int) := h1
  obtain rfl : i = L.length := by omega
  have e3 : dfn L L.length = defsR L := by unfold dfn; rw [List.take_length]
  rw [e3]
  refine wX ?_
  refine fin_p (fun w => SlAt a (defsR L).length (strsC (defsR L)) w) ⟨a, c, rfl, fun w h => h⟩ fun w hw => ?_
  have h3 : SlAt a ((defsR L).length * 1) (strsC (defsR L)) w := hw.2.2.1
  rw [Nat.mul_one] at h3
  exact h3
end Go.Proofs.YtkgmaplkomhjdaaDoor
namespace Go.Proofs.YtkgmaplkomhjdaaDoor
open Go.AX Go.RowKit Go.Pre
set_option maxRecDepth 20000
def dfp (L : List (List UInt8)) (i : Nat) : List (List UInt8) := defsP (L.take i)
theorem dfp_len (L : List (List UInt8)) (i : Nat) : (dfp L i).length ≤ i := by
 unfold dfp defsP
 rw [List.length_map]
 exact Nat.le_trans (List.length_filter_le _ _) (by rw [List.length_take]; omega)
theorem dfp_next {L : List (List UInt8)} {i : Nat} {z : List UInt8} (h : L[i]? = some z) : dfp L (i + 1) = dfp L i ++ (if isDefP z then [nameP z] else []) := by
 unfold dfp defsP
 rw [List.take_add_one, h]
 cases hz : isDefP z <;> simp [hz]
theorem lnL_len {s : List UInt8} (hf : Fed s) : (lnL s).length ≤ s.length := by
 have h := (split_lnL hf).1
 have hle := Lib.countB_le (bs [10]) (by decide) (bs s).size (bs s) (Nat.le_refl _)
 rw [Lib.countB, bs_list, bs_list, bs_size] at hle
 omega
theorem len_trimSpace (x : List UInt8) : (Lib.trimSpace x).length ≤ x.length := by
 unfold Lib.trimSpace
 rw [List.length_reverse]
 refine Nat.le_trans (List.dropWhile_sublist _).length_le ?_
 rw [List.length_reverse]
 exact (List.dropWhile_sublist _).length_le
theorem len_cut (x p : List UInt8) : (Lib.cut x p).1.length ≤ x.length := by
 unfold Lib.cut
 split
 ·show (x.take _).length ≤ _
  rw [List.length_take]; omega
 ·exact Nat.le_refl _
structure DpI where
 l : List (List UInt8)
 a : Option Addr
 cap : Nat
def DpI.ents (pp po : Nat) (p : Part) (i : DpI) : List Ent := [.fact PreF, .app 37 2 (partC p) (some ⟨pp, 0, none⟩) 1 1, .app 22 1 [.slice i.a i.l.length i.cap] (some ⟨po, 0, none⟩) 1 1, .app 9 1 (strsC i.l) i.a i.l.length i.cap]
theorem Defines_c (x : List UInt8) : SpecF Tryd.prog 7 [.string (bs x)] PreF (DefR x) := by
 refine specF_of (spec_of_tripM Tryd.func7 (by kernel_rfl) rfl rfl ?_)
 show TripM _ _ _ _ _ _
 refine TripM.seq (TripM.exec hm ?_)
 refine wXB ?_
 refine ⟨trivial, ?_⟩
 refine TripM.seq (TripM.exec hm ?_)
 refine wXB ?_
 refine call1 (find_c x _ (fun w hw => hw.1)) ?_
 have hfo := find_or x
 unfold DefR defE defL
 generalize findP prt x = p at *
 refine wXB ?_
 refine BoxN.known [.string (bs []), .string (bs [])] rfl fun pp => ?_
 refine wXB ?_
 refine EffW.appTo (i := 1) (q := 0) (ys := partC p) (partC p) 2 rfl rfl rfl rfl rfl rfl rfl (Nat.le_of_ble_eq_true rfl) rfl rfl ?_
 refine wXB ?_
 refine ⟨trivial, ?_⟩
 refine TripM.seq (TripM.exec hm ?_)
 refine wXB ?_
 refine LdN.one (a := some ⟨pp, 0, none⟩) (q := 0) (.string (bs p.1)) rfl (fun w hw => hw.2.1) rfl ?_
 refine wXB ?_
 by_cases hp : p.1 = []
 ·have hp2 : p = ([], []) := hfo.resolve_right fun h => h.name hp
  subst hp2
  refine wX ?_
  refine ⟨trivial, ?_⟩
  refine wX ?_
  exact fin_p (fun _ => True) ⟨none, 0, rfl, fun w _ => SlAt.nil⟩ fun _ _ => trivial
 have hP : PtOk p := hfo.resolve_left fun h => hp (by rw [h])
 have hLA : ∀ z ∈ lnL p.2, Asc z := fun z hz b hb => hP.asc b (by rw [← lnL_flat p.2]; exact List.mem_flatten.2 ⟨z, hz, hb⟩)
 have hLL := hP.defs
 have hlen := hP.len
 refine brd_intro (fun e => absurd ((bs_ne (y := []) e).1 rfl) hp) (fun e => ?_)
 refine wXB ?_
 refine ⟨trivial, ?_⟩
 refine TripM.seq (TripM.exec hm ?_)
 refine wXB ?_
 refine BoxN.known [.slice none 0 0] rfl fun po => ?_
 refine wXB ?_
 refine ⟨trivial, ?_⟩
 refine TripM.seq (TripM.seq (TripM.exec hm ?_))
 refine wXB ?_
 refine LdN.fld (a := some ⟨pp, 0, none⟩) (q := 0) (fo := 1) (.string (bs p.2)) rfl (fun w hw => hw.2.1) rfl ?_
 refine wXB ?_
 refine callG (Lines_c p.2) [] rfl trivial rfl fun pb _ => ?_
 refine wXB ?_
 refine ⟨trivial, ?_⟩
 refine TripM.block ?_
 refine TripM.pad [.app 9 1 [] none 0 0] rfl ?_
 refine TripM.turn (turn_perm (G := boxE pb p.2 :: DpI.ents pp po p ⟨[], none, 0⟩) rfl (List.perm_middle (l₁ := [_, _, _]))) ?_
 refine TripM.range hm rfl rfl rfl rfl fun D l o Y => ?_
 refine SpecH.mono (Lines1_c (n := 4) p.2 (by omega) (obE D dfO) (obE l o) (fun k j => j.l = dfp (lnL p.2) k ∧ j.l.length ≤ j.cap) (DpI.ents pp po p) (fun _ => rfl) (fun _ => okHB_eq rfl) ⟨[], none, 0⟩ ⟨rfl, Nat.le_refl _⟩ ?_) ?_
 ·rintro i j z y ⟨hj1, hj2⟩ hz hy
  refine YieldS.mono (Y (.string (bs z)) (boxE pb y :: DpI.ents pp po p j) (fun B' => ∃ j', (j'.l = dfp (lnL p.2) (i + 1) ∧ j'.l.length ≤ j'.cap) ∧ B' = boxE pb y :: DpI.ents pp po p j') ?_) fun out H' ⟨ho, B', ⟨j', hj', hB⟩, _, hH⟩ => ⟨ho, j', hj', by rw [hH, hB]; rfl⟩
  obtain ⟨l, a, cap⟩ := j
  have hl : l = dfp (lnL p.2) i := hj1
  have hcap : l.length ≤ cap := hj2
  have hll : l.length ≤ i := by rw [hl]; exact dfp_len _ _
  have hzm := List.mem_of_getElem? hz
  have hza := hLA z hzm
  obtain ⟨_, _, hzl⟩ := okDef_iff (List.all_eq_true.1 hLL z hzm)
  have hx := dfp_next hz
  have hi : i < (lnL p.2).length := (List.getElem?_eq_some_iff.1 hz).1
  have hln := lnL_len hP.fed
  intro D' l' o' o1 o2
  refine wX ?_
  refine ⟨rfl, rfl, ?_⟩
  refine wX ?_
  refine call1 (TrimSpace_c z (by omega) hza _ (fun w hw => hw.2.1.2)) ?_
  refine wX ?_
  refine call1 (CutPrefix_c (Lib.trimSpace z) defB _) ?_
  refine wX ?_
  cases hd : isDefP z with
  | true =>
   have hr1 : (restP z).length ≤ z.length := Nat.le_trans (len_trimPrefix _ _) (Nat.le_trans (len_trimPrefix _ _) (len_trimSpace _))
   have hr2 := len_cut (restP z) [40]
   rw [hd, if_pos rfl] at hx
   have hd2 : Lib.hasPrefix (Lib.trimSpace z) defB = true := hd
   rw [hd2]
   refine wX ?_
   refine call1 (TrimPrefix_c _ selfB _) ?_
   refine wX ?_
   refine call1 (Cut_c (restP z) [40] (by omega) _ (fun w hw => hw.2.1.1)) ?_
   refine wX ?_
   refine call1 (Cut_c (Lib.cut (restP z) [40]).1 [32] (by omega) _ (fun w hw => hw.2.1.1)) ?_
   refine wX ?_
   refine LdN.one (a := some ⟨po, 0, none⟩) (q := 0) (.slice a l.length cap) rfl (fun w hw => hw.2.2.2.1) rfl ?_
   refine wX ?_
   refine Nd.mk ⟨Nat.le_refl 1, rfl, rfl⟩ ?_
   (conv => whnf)
   refine AppN.grow 4 (strsC l) [.string (bs (nameP z))] rfl rfl ⟨Nat.le_refl 1, ⟨by show (l.length + 1) * 16 ≤ _; omega, by show l.length + 1 < _; omega⟩, by decide⟩ fun b8 c8 g18 g28 => ?_
   refine wX ?_
   refine EffW.appTo (i := 3) (q := 0) (ys := [_]) [.slice (some ⟨b8, 0, none⟩) (l.length + 1) c8] 1 rfl rfl rfl rfl rfl rfl rfl (Nat.le_of_ble_eq_true rfl) rfl rfl ?_
   refine wX ?_
   have e1 : strsC l ++ [Value.string (bs (nameP z))] = strsC (l ++ [nameP z]) := by simp [strsC]
   have e2 : l.length + 1 = (l ++ [nameP z]).length := by simp
   refine ⟨rfl, _, ⟨⟨l ++ [nameP z], some ⟨b8, 0, none⟩, c8⟩, ⟨?_, ?_⟩, rfl⟩, rfl, okHB_eq rfl, _, turn_refl _, ⟨wkE_refl _, wkE_refl _, wkE_refl _, ?_, ?_, wkE_refl _, wkE_refl _, wkH_nil _⟩⟩
   ·show l ++ [nameP z] = _
    rw [hx, hl]
   ·show (l ++ [nameP z]).length ≤ c8
    rw [← e2]
    exact g18
   ·show wkE (.app _ _ [.slice _ (l.length + 1) _] _ _ _) (.app _ _ [.slice _ (l ++ [nameP z]).length _] _ _ _)
    rw [e2]
    exact wkE_refl _
   ·show wkE (.app _ _ (strsC l ++ [Value.string (bs (nameP z))]) _ (l.length + 1) _) (.app _ _ (strsC (l ++ [nameP z])) _ (l ++ [nameP z]).length _)
    rw [e1, e2]
    exact wkE_refl _
  | false =>
   rw [hd, if_neg (by decide), List.append_nil] at hx
   have hd2 : Lib.hasPrefix (Lib.trimSpace z) defB = false := hd
   rw [hd2]
   refine wX ?_
   refine ⟨rfl, _, ⟨⟨l, a, cap⟩, ⟨hl.trans hx.symm, hcap⟩, rfl⟩, rfl, okHB_eq rfl, _, turn_refl _, wkH_refl _⟩
 ·rintro out H' ⟨rfl, j, ⟨hj1, hj2⟩, rfl⟩
  obtain ⟨l, a, cap⟩ := j
  have hl : l = dfp (lnL p.2) (lnL p.2).length := hj1
  refine ⟨⟨_, rfl⟩, boxE pb [] :: DpI.ents pp po p ⟨l, a, cap⟩, rfl, rfl, ?_⟩
  refine TripM.seq (TripM.exec hm ?_)
  refine wX ?_
  refine LdN.one (a := some ⟨po, 0, none⟩) (q := 0) (.slice a l.length cap) rfl (fun w hw => hw.2.2.2.1) rfl ?_
  refine wX ?_
  refine ⟨rfl, ?_⟩
  refine TripM.exec hm ?_
  refine wX ?_
  refine ⟨rfl, ?_⟩
  refine wX ?_
  have e1 : dfp (lnL p.2) (lnL p.2).length = defsR (lnL p.2) := by
   unfold dfp
   rw [List.take_length, defs_eq hLL]
  rw [e1] at hl
  rw [← hl]
  clear hl
  refine fin_p (fun w => SlAt a l.length (strsC l) w) ⟨a, cap, by rw [if_neg hp], fun _ h => h⟩ fun w hw => ?_
  have h3 : SlAt a (l.length * 1) (strsC l) w := hw.2.2.2.2.1
  rw [Nat.mul_one] at h3
  exact h3
end Go.Proofs.YtkgmaplkomhjdaaDoor
namespace Go.AX
theorem BlindW.len {P : Program} {o : Oper} {s : List AV} {K : AV → Prop} {x : Operand} {T e : TypeId} {args : Array Operand} {ts : Array TypeId} {p : Option Addr} {n c : Nat} (ho : o.op = .call { callee := .builtin .len, args := args, argTypes := ts }) (ha : args = #[x]) (ht : ts = #[T]) (hu : P.underlying T = some (.slice e))
  (hx : opv s x = .c (.v (.slice p n c))) (hk : K (.c (.v (.int .i64 (n : Int))))) : ∃ x, BlindW P o s K x := by
 subst ha ht
 refine ⟨.int .i64 (n : Int), ?_, fun w => execOp_blt ho fun consts => ?_, hk⟩
 ·rw [ho]
  show allPlain s [x] = true
  simp [allPlain, hx]
 ·have he : plainEv s x = .slice p n c := by unfold plainEv; rw [hx]
  simp [builtin, Builtin.len_, run_underlying hu, he, goInt]
theorem SpecH.know {P : Program} {f : FuncId} {args : List AV} {H : List Ent} {K : Out → List Ent → Prop} (ok : CallOk P f) (φ : Prop) (hφ : ∀ w, Facts H w → φ) (h : φ → SpecH P f args H K) : SpecH P f args H K :=
 ⟨ok, fun ρ S w vs hs hr => (h (hφ w hs.facts)).run ρ S w vs hs hr⟩
end Go.AX
namespace Go.Proofs.YtkgmaplkomhjdaaDoor
open Go.AX Go.RowKit Go.Pre
set_option maxRecDepth 20000
theorem out_true {b : Bool} (h : b = true) : Out.val (.c (.v (.bool b))) = Out.val (.c (.v (.bool true))) := by rw [h]
theorem texts0_c (x : List (List UInt8)) (a b : Option Addr) (c d : Nat) (ha : 0 < x.length → a.isSome = true) (hb : 0 < x.length → b.isSome = true) (hl : x.length ≤ 1000000) :
  ∀ H, (∀ w, Facts H w → SlAt a x.length (strsC x) w ∧ SlAt b x.length (strsC x) w) → SpecH Tryd.prog 9 (pvs [.slice a x.length c, .slice b x.length d]) H (Ret (.bool true) H) := by
 refine factC hm Tryd.func9 (by kernel_rfl) rfl rfl ?_
 refine wX ?_
 refine brd_ne (fun h0 => absurd rfl h0) (fun h0 => ?_)
 refine wX ?_
 refine loopS Nat (fun i => i ≤ x.length) (fun i => mkS Tryd.f9.ntmps 0 [(0, .c (.v (.slice a x.length c))), (1, .c (.v (.slice b x.length d))), (5, .c (.v (.int .i64 (i : Int))))]) (fun i => x.length - i) rfl (fun _ => rfl) 0 (Nat.zero_le _) ?_ ?_
 ·exact wKK
 intro i hi
 refine wX ?_
 refine brd_dec (fun h1 => ?_) (fun h1 => ?_)
 ·obtain ⟨p, hp⟩ : ∃ p, x[i]? = some p := ⟨_, List.getElem?_eq_getElem (by omega)⟩
  refine wX ?_
  refine Nd.mk ⟨ha (by omega), by omega, by omega⟩ ?_
  refine wX ?_
  refine LdN.one (.string (bs p)) rfl (fun w hw => hw.1.1) (by rw [Int.toNat_natCast]; show (strsC x)[i * 1]? = _; rw [Nat.mul_one]; exact strsC_get hp) ?_
  refine wX ?_
  refine Nd.mk ⟨hb (by omega), by omega, by omega⟩ ?_
  refine wX ?_
  refine LdN.one (.string (bs p)) rfl (fun w hw => hw.1.2) (by rw [Int.toNat_natCast]; show (strsC x)[i * 1]? = _; rw [Nat.mul_one]; exact strsC_get hp) ?_
  refine wX ?_
  have e : (!((bs p).data.toList == (bs p).data.toList)) = false := by simp
  refine brdF e ?_
  refine wX ?_
  refine ⟨i + 1, by omega, by omega, ?_, wHH⟩
  exact wKK
 ·exact wZ
theorem texts_c (x : List (List UInt8)) (a b : Option Addr) (c d : Nat) (hl : x.length ≤ 1000000) :
  ∀ H, (∀ w, Facts H w → SlAt a x.length (strsC x) w ∧ SlAt b x.length (strsC x) w) → SpecH Tryd.prog 9 (pvs [.slice a x.length c, .slice b x.length d]) H (Ret (.bool true) H) := fun H hF =>
 SpecH.know (callOk Tryd.func9 (by kernel_rfl) rfl) (0 < x.length → a.isSome = true) (fun w hw => (hF w hw).1.2.1) fun ha =>
 SpecH.know (callOk Tryd.func9 (by kernel_rfl) rfl) (0 < x.length → b.isSome = true) (fun w hw => (hF w hw).2.2.1) fun hb =>
 texts0_c x a b c d ha hb hl H hF
theorem sane_c : ∀ H, (∀ w, Facts H w → PreF w) → SpecH Tryd.prog 13 (pvs []) H (Ret (.bool true) H) := by
 refine factC hm Tryd.func13 (by kernel_rfl) rfl rfl ?_
 refine wX ?_
 refine call1 (Lines0_c _) ?_
 refine wX ?_
 refine call1 (RLines_c _ (fun w hw => hw.1)) ?_
 refine wX ?_
 refine call1 (Source_c _) ?_
 refine wX ?_
 refine call1 (RSource_c _) ?_
 have hz : (bs src).size = 8638 := by rw [bs_size, src_len]
 generalize bs src = sb at *
 refine wX ?_
 exact out_true (by simp)
theorem defL_len (x : List UInt8) : (defL x).length ≤ 1000000 := by
 unfold defL
 rcases find_or x with h | h
 ·rw [h]; decide
 ·refine Nat.le_trans (?_ : _ ≤ (lnL (findP prt x).2).length) (Nat.le_trans (lnL_len h.fed) (Nat.le_trans h.len (by decide)))
  unfold defsR
  rw [List.length_map]
  exact List.length_filter_le _ _
theorem um12 (k : Int) : ∃ j : Nat, IntKind.i64.wrap ((IntKind.u64.wrap k).tmod (IntKind.u64.wrap ((12 : Nat) : Int))) = (j : Int) ∧ j < 12 := by
 obtain ⟨h1, h2⟩ := wrap_u64_bd k
 obtain ⟨m, hm⟩ : ∃ m : Nat, IntKind.u64.wrap k = (m : Int) := ⟨_, (Int.toNat_of_nonneg h1).symm⟩
 rw [hm, wrap_u64 (by omega)]
 have e : (m : Int).tmod ((12 : Nat) : Int) = ((m % 12 : Nat) : Int) := (Int.ofNat_tmod m 12).symm
 exact ⟨m % 12, by rw [e, wrap_i64 (by omega)], by omega⟩
theorem Names12_c : SpecF Tryd.prog 12 [] PreF fun v G => ∃ a cap, v = .slice a 12 cap ∧ ∀ w, G w → SlAt a 12 (strsC (prt.map Prod.fst)) w := by
 have h := Names_c
 rw [prt_len] at h
 exact h
theorem parts_all : ∃ T : Nat → List UInt8, T 0 = [] ∧ T 12 = src ∧ (∀ i, i < 12 → ∃ n t, (prt.map Prod.fst)[i]? = some n ∧ partV prt n = .tuple #[.string (bs t), .int .i64 0] ∧ T (i + 1) = T i ++ t ∧ t.length ≤ 5000) ∧ ∀ i, i ≤ 12 → (T i).length ≤ 5000 * i := by
 have hd := prt_nd
 have hj := prt_join
 have hl := prt_len
 have ha := prt_all
 generalize prt = P at *
 have hn : ∀ i, i < 12 → ∃ n t, (P.map Prod.fst)[i]? = some n ∧ partV P n = .tuple #[.string (bs t), .int .i64 0] ∧ ((P.take (i + 1)).map Prod.snd).flatten = ((P.take i).map Prod.snd).flatten ++ t ∧ t.length ≤ 5000 := by
  intro i hi
  obtain ⟨p, hp⟩ : ∃ p, P[i]? = some p := ⟨_, List.getElem?_eq_getElem (by omega)⟩
  have hk := ha p (List.mem_of_getElem? hp)
  refine ⟨p.1, p.2, by rw [List.getElem?_map, hp]; rfl, ?_, by rw [List.take_add_one, hp]; simp, hk.len⟩
  have hf : P.find? (fun q => q.1 == p.1) = some p := by
   refine find_at (i := i) ?_ hp (by simp)
   rw [List.find?_eq_none]
   intro q hq he
   obtain ⟨k, hk, rfl⟩ := List.mem_iff_getElem.1 hq
   rw [List.length_take] at hk
   have e1 : (P.map Prod.fst)[k]? = some p.1 := by
    have he2 := eq_of_beq he
    rw [List.getElem_take] at he2
    rw [List.getElem?_map, List.getElem?_eq_getElem (by omega)]
    exact congrArg some he2
   have e2 : (P.map Prod.fst)[i]? = some p.1 := by rw [List.getElem?_map, hp]; rfl
   have := (List.getElem?_inj (by rw [List.length_map]; omega) hd).1 (e1.trans e2.symm)
   omega
  unfold partV findP
  rw [hf]
  exact if_neg hk.name
 refine ⟨fun i => ((P.take i).map Prod.snd).flatten, rfl, by show ((P.take 12).map Prod.snd).flatten = src; rw [List.take_of_length_le (by omega), hj], hn, fun i => ?_⟩
 induction i with
 | zero => intro _; simp
 | succ i ih =>
  intro hi
  obtain ⟨n, t, _, _, h3, h4⟩ := hn i (by omega)
  have := ih (by omega)
  show (((P.take (i + 1)).map Prod.snd).flatten).length ≤ _
  rw [h3, List.length_append]
  have h5 : (((P.take i).map Prod.snd).flatten).length ≤ 5000 * i := this
  omega
theorem partV_tup (x : List UInt8) : ∃ (t : List UInt8) (e : Int), partV prt x = .tuple #[.string (bs t), .int .i64 e] := by
 unfold partV
 split
 ·exact ⟨_, _, rfl⟩
 ·exact ⟨_, _, rfl⟩
theorem PreludeParts_c (x : List UInt8) (k : Int) : ∀ H, (∀ w, Facts H w → PreF w) → SpecH Tryd.prog 3 (pvs [.string (bs x), .int .i64 k]) H (Ret (.bool true) H) := by
 refine factC hm Tryd.func3 (by kernel_rfl) rfl rfl ?_
 refine wX ?_
 refine SpecF.call RNames_c (fun w hw => hw.1) fun v G hR => ?_
 obtain ⟨na, nc, rfl, hna, hG⟩ := hR
 have hN : (prt.map Prod.fst).length = 12 := by rw [List.length_map, prt_len]
 have hns : na.isSome = true := by
  cases na with
  | none => rw [hna rfl] at hN; cases hN
  | some a => rfl
 obtain ⟨T, hT0, hTe, hTn, hTl⟩ := parts_all
 have hNs := Names12_c
 have hSo := Source_c
 have hRo := RSource_c
 generalize src = sc at hTe hSo hRo
 subst hTe
 generalize hNN : prt.map Prod.fst = N at *
 have htx := texts_c N
 rw [hN] at hG htx ⊢
 refine wX ?_
 obtain ⟨j, hj, hjl⟩ := um12 k
 rw [hj]
 obtain ⟨y, hy⟩ : ∃ y, N[j]? = some y := ⟨_, List.getElem?_eq_getElem (by omega)⟩
 refine Nd.mk ⟨hns, by omega, by omega⟩ ?_
 refine wX ?_
 refine LdN.one (.string (bs y)) rfl (fun w hw => hG w hw.2.1) (by rw [Int.toNat_natCast]; show (strsC N)[j * 1]? = _; rw [Nat.mul_one]; exact strsC_get hy) ?_
 refine wX ?_
 refine LoopN.unroll 3 ?_
 refine wX ?_
 obtain ⟨t, e, hte⟩ := partV_tup x
 refine call1 (Part_c x _ (fun w hw => hw.1)) ?_
 rw [hte]
 refine wX ?_
 refine call1 (RPart_c x _ (fun w hw => hw.1)) ?_
 rw [hte]
 refine wX ?_
 refine SpecF.call (Defines_c x) (fun w hw => hw.1) fun v G1 hR => ?_
 obtain ⟨a1, c1, rfl, h1⟩ := hR
 refine wX ?_
 refine SpecF.call (RDefines_c x) (fun w hw => hw.1) fun v G2 hR => ?_
 obtain ⟨a2, c2, rfl, h2⟩ := hR
 have hl := defL_len x
 have ht := texts_c (defL x) a1 a2 c1 c2 hl
 generalize defL x = dl at *
 generalize defE x = de at *
 refine wX ?_
 refine brdF (by simp) ?_
 refine wX ?_
 refine brdF (by simp) ?_
 refine wX ?_
 refine call1 (ht _ (fun w hw => ⟨h1 w hw.2.2.1, h2 w hw.2.2.2.1⟩)) ?_
 refine wX ?_
 refine brdF (by simp) ?_
 refine wX ?_
 clear h1 h2 ht hl hte
 obtain ⟨t, e, hte⟩ := partV_tup y
 refine call1 (Part_c y _ (fun w hw => hw.1)) ?_
 rw [hte]
 refine wX ?_
 refine call1 (RPart_c y _ (fun w hw => hw.1)) ?_
 rw [hte]
 refine wX ?_
 refine SpecF.call (Defines_c y) (fun w hw => hw.1) fun v G1 hR => ?_
 obtain ⟨a1, c1, rfl, h1⟩ := hR
 refine wX ?_
 refine SpecF.call (RDefines_c y) (fun w hw => hw.1) fun v G2 hR => ?_
 obtain ⟨a2, c2, rfl, h2⟩ := hR
 have hl := defL_len y
 have ht := texts_c (defL y) a1 a2 c1 c2 hl
 generalize defL y = dl at *
 generalize defE y = de at *
 refine wX ?_
 refine brdF (by simp) ?_
 refine wX ?_
 refine brdF (by simp) ?_
 refine wX ?_
 refine call1 (ht _ (fun w hw => ⟨h1 w hw.2.2.2.2.1, h2 w hw.2.2.2.2.2.1⟩)) ?_
 refine wX ?_
 refine brdF (by simp) ?_
 refine wX ?_
 clear h1 h2 ht hl hte
 clear hy hj hjl
 refine LoopN.intro Nat (fun i => i ≤ 12)
  (fun i => mkS Tryd.f3.ntmps 0 [(4, .c (.v (.bool false))), (5, .c (.v (.slice na 12 nc))), (16, .c (.v (.string (bs (T i))))), (17, .c (.v (.int .i64 (i : Int))))])
  (fun _ => [.fact PreF, .fact G, .dead, .dead, .dead, .dead, .dead]) (fun i => 12 - i) [] rfl (fun _ => rfl) (fun _ => rfl) (fun _ _ => okHB_eq rfl)
  ⟨0, Nat.zero_le _, ?_, ⟨wkE_refl _, wkE_refl _, trivial, trivial, trivial, trivial, trivial, wkH_nil _⟩⟩ ?_
 ·(repeat' (first | exact trivial | refine And.intro (by with_reducible rfl) ?_ | (with_reducible exact wkC_refl _) | (with_reducible exact wkCs_refl _) | refine And.intro ?_ ?_))
  all_goals first | rfl | (rw [hT0]; rfl)
 rintro i hi
 have hi : i ≤ 12 := hi
 have hli := hTl i hi
 refine wX ?_
 refine brd_dec (fun h1 => ?_) (fun h1 => ?_)
 ·obtain ⟨n, t, hn, hp, hT, ht⟩ := hTn i (by omega)
  refine wX ?_
  refine Nd.mk ⟨hns, by omega, by omega⟩ ?_
  refine wX ?_
  refine LdN.one (.string (bs n)) rfl (fun w hw => hG w hw.2.1) (by rw [Int.toNat_natCast]; show (strsC N)[i * 1]? = _; rw [Nat.mul_one]; exact strsC_get hn) ?_
  refine wX ?_
  refine call1 (Part_c n _ (fun w hw => hw.1)) ?_
  rw [hp]
  refine wX ?_
  refine Nd.mk (by rw [bs_size, bs_size]; omega) ?_
  refine wX ?_
  refine ⟨i + 1, by show i + 1 ≤ _; omega, by show 12 - (i + 1) < 12 - i; omega, ?_, wkH_refl _⟩
  (repeat' (first | exact trivial | refine And.intro (by with_reducible rfl) ?_ | (with_reducible exact wkC_refl _) | (with_reducible exact wkCs_refl _) | refine And.intro ?_ ?_))
  all_goals first | rfl | (rw [hT, bs_app]) | exact av_int (by rw [wrap_i64 (by omega)]; omega)
 ·obtain rfl : i = 12 := by omega
  refine wX ?_
  refine call1 (hSo _) ?_
  refine wX ?_
  refine call1 (hRo _) ?_
  refine wX ?_
  refine brdT (by simp) ?_
  refine wX ?_
  refine call1 (hRo _) ?_
  refine wX ?_
  refine brdT (by simp) ?_
  refine wX ?_
  refine SpecF.call hNs (fun w hw => hw.1) fun v Gn hR => ?_
  obtain ⟨pa, pc, rfl, hp⟩ := hR
  refine wX ?_
  refine call1 (htx pa na pc nc (by decide) _ (fun w hw => ⟨hp w hw.2.2.1, hG w hw.2.1⟩)) ?_
  refine wX ?_
  refine call1 (sane_c _ (fun w hw => hw.1)) ?_
  exact wZ
end Go.Proofs.YtkgmaplkomhjdaaDoor
namespace Go.Proofs.YtkgmaplkomhjdaaDoor
open Go.ChangeShapes Go.WideShapes Go.ChangeAt Go.RowKit Go.AX
set_option maxRecDepth 100000
def laid3 : List (String × DataW Unit) := [("unicode/utf8.acceptRanges", Rows.laid_unicode_utf8_acceptRanges), ("unicode.White_Space", Rows.laid_unicode_White_Space), ("strings.asciiSpace", Rows.laid_strings_asciiSpace), ("unicode/utf8.first", Rows.laid_unicode_utf8_first)]
theorem door_met (os : Os) (args : Array Value) : laidMetH Tryd.prog laid3 ((World.laidAll Tryd.prog os laid3).forCall (fun _ _ => 0) ⟨#[], args, []⟩).memory := by
 rw [MakeChecks.laidMetH_plain _ _ _ (by kernel_rfl)]; exact laidMet_laidAll _ (by kernel_rfl) (by kernel_rfl)
theorem space_of {W : World} (h : laidMetH Tryd.prog laid3 W) : SpaceF W := by
 rw [MakeChecks.laidMetH_plain _ _ _ (by kernel_rfl)] at h
 exact Lib.tabIs_of_head (g := 0) (t := 57) (e := 5) (n := 256) (by kernel_rfl) (by kernel_rfl) (by kernel_rfl) (by kernel_rfl) (by kernel_rfl) (by kernel_rfl) (laid_tail (laid_tail h))
theorem pre_of {W : World} (h : W.ShapedOpen Tryd.prog) (hL : laidMetH Tryd.prog laid3 W) : PreF W := ⟨max_of h, space_of hL⟩
theorem pre_imm {W : World} (h : PreF W) : Imm (fun b => b < W.heap.size) W PreF := (max_imm h.1).and (tab_imm h.2)
namespace PreludeParts
theorem own : ownKnob Tryd.prog.godebug = none := own0
theorem walk {H : Type} {enc : TypeId × Value → H} (W : World) (base : Nat) (args : Array Value) (ds : List (DataW H)) (p : List MemPlace) (k : Known enc Tryd.prog Tryd.f3 W base args ds p) (_hL : laidMetH Tryd.prog laid3 W) : Walk Tryd.prog 3 args W := by
 obtain ⟨u, v, rfl⟩ := arr2 (trodAll_len k.trod).2
 obtain ⟨s, rfl, hs⟩ := k.low.string 0 rfl rfl (by kernel_rfl)
 obtain ⟨n, rfl⟩ := k.low.int (i := .i64) 1 rfl rfl (by kernel_rfl)
 exact walkH [.fact PreF] (fun _ he => ⟨_, List.mem_singleton.1 he, pre_imm (pre_of k.shaped _hL)⟩) (PreludeParts_c s.data.toList n _ fun w hw => hw.1)
theorem lifted (os : Os) (started : os.Started) (H : Type) (enc : TypeId × Value → H) :
  ReturnsInHanded {} Tryd.checked os 3 .any (fun w args => (Rows.preludePartsSpec.pre enc Tryd.prog Tryd.f3 [] false w args ∧ laidMetH Tryd.prog laid3 w) ∧ sizedMet enc Tryd.prog Tryd.f3 (OpenSpec.ofChange Rows.preludePartsSpec) false w args) (Rows.preludePartsSpec.post enc Tryd.prog Tryd.f3 false true false false) := by
 refine liftS (C := Tryd.checked) own started (by kernel_rfl) Tryd.func3
  (ChangeSpec.witness_shaped (enc := enc) (C := Tryd.checked) (os := os) (X := fun w _ => laidMetH Tryd.prog laid3 w) false (World.laidAll Tryd.prog os laid3) #[.string ⟨#[]⟩, .int .i64 0] 8 (World.laidAll_os _ _ _) (World.shaped_of_ZipB (by kernel_rfl) (by kernel_rfl)) (by kernel_rfl) (by kernel_rfl) (by kernel_rfl) (door_met os _))
  laidOut rfl (t := _) rfl (by kernel_rfl) (by kernel_rfl) ?_ walk
 intro ds hd
 match ds, hd with
 | [d0, d1], _ => rfl
theorem over : Rows.preludePartsRow.holds Tryd.pinned (OpenSpec.ofChange Rows.preludePartsSpec) :=
 OpenClaim.holds_of_wide 3 Tryd.f3 rfl rfl rfl rfl rfl rfl rfl ⟨rfl, rfl, rfl, rfl, rfl⟩ rfl rfl rfl rfl rfl (by kernel_rfl) Tryd.func3 (by kernel_rfl)
  (of_decide_eq_true (by kernel_rfl)) (by unfold Func.isWrapper; first | (rw [if_pos (by decide +kernel)]; kernel_rfl) | (rw [if_neg (by decide +kernel)]; exact ⟨rfl, rfl⟩))
  (fun os started H enc _ => lifted os started H enc)
theorem proved : Rows.PreludePartsCardSaid :=
 Claim7.holds_tied_plain_at .later [] [.data, .listed, .data, .pinned] true (true, "350d4593a43d2178b9e7e90a1d31cbfc70446b329d08edf52e8643888af93e22") false
  over (fun _ h => by cases h) (by kernel_rfl) (fun _ h => by cases h) preludeParts_row_tie rfl ⟨rfl, rfl⟩ (by kernel_rfl) rfl
  (fun f fn hf hfn => by
   obtain rfl : f = 3 := Option.some.inj ((show Tryd.prog.funcNamed "cabochon/cabochonlaw23.PreludeParts" = some 3 by kernel_rfl).symm.trans hf) |>.symm
   obtain rfl : fn = Tryd.f3 := (Option.some.inj (Tryd.func3.symm.trans hfn)).symm
   exact ⟨by kernel_rfl, fun j t ht => by
    have hm : t ∈ Tryd.f3.params.toList := by simpa using Array.mem_of_getElem? ht
    have hall : (Tryd.f3.params.toList.all fun u => !Tryd.prog.wantsStandIn u) = true := by kernel_rfl
    exact (show Tryd.prog.wantsStandIn t = false by simpa using List.all_eq_true.1 hall t hm)⟩)
  (by kernel_rfl)
#print axioms proved
end PreludeParts
end Go.Proofs.YtkgmaplkomhjdaaDoor
