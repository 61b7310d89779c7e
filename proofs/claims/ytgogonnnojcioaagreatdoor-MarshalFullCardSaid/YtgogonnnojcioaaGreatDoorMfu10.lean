/-
  MarshalFullCardSaid is proved: of every number MarshalFull returns true; the listed tables are tied to the program's text.
-/
import Derived.Scope
import Derived.Lib.SlBytesConst
import Derived.Test.YtgogonnnojcioaaGreatDoorCards
import Derived.Test.YtgogonnnojcioaaGreatDoorTie
import Derived.Test.YtgogonnnojcioaaGreatDoorMfu9
set_option linter.unusedVariables false
set_option linter.unusedSimpArgs false
/-
  AX, fifty-ninth text: an executor that goes through a scope whose labels no run jumps to.
-/
namespace Go.AX

def execG (P : Program) (c : Code) : List AV → List Ent → (Ex → List AV → List Ent → Prop) → Prop :=
  Code.rec (motive := fun _ => List AV → List Ent → (Ex → List AV → List Ent → Prop) → Prop)
    (fun s H K => K .normal s H)
    (fun _ ops draw s H K => regionK P ops draw s H K)
    (fun _ _ ia ib s H K => SeqN ia ib s H K)
    (fun c _ _ ia ib s H K => condK c s (fun s => ia s H K) (fun s => ib s H K))
    (fun id _ ib s H K => ib s H (blockK id K))
    (fun _ ib s H K => LoopN ib s H K)
    (fun _ _ _ _ _ _ _ _ _ => False)
    (fun id s H K => K (.exit id) s H)
    (fun _ ib s H K => ib s H K)
    (fun _ s H K => K .normal s H)
    (fun _ _ _ _ => False)
    (fun s H K => K .ret s H)
    (fun _ _ _ _ => False)
    c
theorem execG_sound {P : Program} (hm : P.follows .mixedOrders = true) : ∀ (c : Code) (s : List AV) (H : List Ent) (K : Ex → List AV → List Ent → Prop), execG P c s H K →
    ∀ (ρ : List Loc) (S : Nat → Prop) (w : World) (a : Act), Sat ρ S H w → RelS ρ s a.tmps.toList → c.wp P (Post ρ S H w a.defers K) a w := by
  intro c
  induction c with
  | skip => intro s H K h ρ S w a hs hr; exact wp_skip ⟨ρ, S, s, H, .normal, hs, Ev.refl _ _ _ _, hr, rfl, trivial, h⟩
  | label l => intro s H K h ρ S w a hs hr; exact wp_label ⟨ρ, S, s, H, .normal, hs, Ev.refl _ _ _ _, hr, rfl, trivial, h⟩
  | exit id => intro s H K h ρ S w a hs hr; exact wp_exit ⟨ρ, S, s, H, .exit id, hs, Ev.refl _ _ _ _, hr, rfl, rfl, h⟩
  | ret => intro s H K h ρ S w a hs hr; exact wp_ret ⟨ρ, S, s, H, .ret, hs, Ev.refl _ _ _ _, hr, rfl, trivial, h⟩
  | goto l => intro s H K h; exact h.elim
  | refuse y => intro s H K h; exact h.elim
  | scope b ih =>
    intro s H K h0 ρ S w a hs hr
    have h : execG P b s H K := h0
    refine wp_scope_straight (wp_mono (ih s H K h ρ S w a hs hr) fun e a' w' hp => ?_)
    cases e with
    | goto l =>
      obtain ⟨ρ1, S1, s1, H1, ex, hs1, hev, hr1, hd, hex, hK⟩ := hp
      cases ex <;> exact hex.elim
    | _ => exact hp
  | rangeFunc f ps _ b _ _ => intro s H K h; exact h.elim
  | region id ops draw =>
    intro s H K h0 ρ S w a hs hr
    have h : regionK P ops draw s H K := h0
    clear h0
    unfold regionK at h
    split at h
    · exact wp_region_list (execOps_sound _ _ _ h ρ S w a hs hr)
    · have h0 : Cls ρ S H w { w with drawn := w.drawn + 1 } := ⟨S, hs.heap rfl, Ev.drew _ _ _ _⟩
      rcases h with ⟨hB, h⟩ | ⟨pre, hd, tl, hB, h⟩ | ⟨pre, hd, tl, hB, h⟩ | ⟨C, pre, hd, tl, hB, hC, h⟩ | ⟨pre, t, n, hB, h⟩ | h
      · refine wp_region_quiet (C := Cls ρ S H w) hm hB h0 ?_
        have hq := execQ_sound ⟨_, h0⟩ _ _ h a hr
        refine exec_sound.wpQuiet_mono (fun a' ⟨s', hK, hr', hd⟩ w' ⟨S', hs', hev⟩ => ?_) _ _ hq
        exact ⟨ρ, S', s', H, .normal, hs', hev, hr', hd, trivial, hK⟩
      · exact plan_sound hm hB h hs hr
      · exact planQ_sound hm hB h hs hr
      · exact planC_sound hm hB hC h hs hr
      · exact tree_sound hm hB h hs hr
      · exact h _ ρ S w a hs hr
  | seq x y ihx ihy =>
    intro s H K h0 ρ S w a hs hr
    have h : SeqN (execG P x) (execG P y) s H K := h0
    have key : ∀ K2 : Ex → List AV → List Ent → Prop, execG P x s H K2 → (∀ (e : Ex) (s1 : List AV) (H1 : List Ent) (ρ1 : List Loc) (S1 : Nat → Prop) (w1 : World) (a1 : Act), K2 e s1 H1 → Sat ρ1 S1 H1 w1 → Ev ρ S H w ρ1 S1 H1 w1 → relX e ρ1 s1 a1.tmps.toList → ∃ s2 H2 ρ2 S2, Sat ρ2 S2 H2 w1 ∧ Ev ρ S H w ρ2 S2 H2 w1 ∧ relX e ρ2 s2 a1.tmps.toList ∧ seqK (execG P y) K e s2 H2) → (Code.seq x y).wp P (Post ρ S H w a.defers K) a w := by
      intro K2 h2 hk
      refine wp_seq (wp_mono (ihx s H K2 h2 ρ S w a hs hr) fun e a' w' hp => ?_)
      obtain ⟨ρ0, S0, s0, H0, ex, hs0, hev0, hr0, hd, hex, hK0⟩ := hp
      obtain ⟨s1, H1, ρ1, S1, hs1, hev, hr1, hK⟩ := hk ex s0 H0 ρ0 S0 w' a' hK0 hs0 hev0 hr0
      cases ex with
      | normal =>
        cases e <;> first | exact hex.elim | skip
        refine wp_mono (ihy s1 H1 K hK ρ1 S1 w' a' hs1 hr1) fun e2 a2 w2 hp2 => ?_
        rw [hd] at hp2
        exact hp2.from hev
      | exit n => cases e <;> first | exact hex.elim | exact ⟨ρ1, S1, s1, H1, .exit n, hs1, hev, hr1, hd, hex, hK⟩
      | ret => cases e <;> first | exact hex.elim | exact ⟨ρ1, S1, s1, H1, .ret, hs1, hev, hr1, hd, hex, hK⟩
      | pan n => cases e <;> first | exact hex.elim | exact ⟨ρ1, S1, s1, H1, .pan n, hs1, hev, hr1, hd, hex, hK⟩
    rcases h with h | ⟨ι, inv, sl, hp, hlen, hoks, hokh, h, hnext⟩
    · exact key _ h fun e s1 H1 ρ1 S1 w1 a1 hK hs1 hev hr1 => ⟨s1, H1, ρ1, S1, hs1, hev, hr1, hK⟩
    · simp only [forceS_eq, forceH_eq] at hnext
      refine key _ h fun e s1 H1 ρ1 S1 w1 a1 hK hs1 hev hr1 => ?_
      cases e with
      | normal =>
        obtain ⟨j, hij, hws, hwh⟩ := hK
        have hw := hs1.weak hwh (hokh j hij)
        refine ⟨sl j, hp j, ρ1.take (hp j).length, S1, hw.1, ⟨?_, hev.os, hev.tape, hev.output, hev.size, hev.keep, hev.imm, fun b hb => hev.own b (hw.2 b hb)⟩, wkS_rel hws (hoks j hij) hr1, hnext j hij⟩
        obtain ⟨t, ht⟩ := hev.pre
        refine ⟨t.take ((hp j).length - ρ.length), ?_⟩
        rw [ht, List.take_append, List.take_of_length_le (by rw [hs.len]; exact hlen j hij)]
      | exit n => exact ⟨s1, H1, ρ1, S1, hs1, hev, hr1, hK⟩
      | ret => exact ⟨s1, H1, ρ1, S1, hs1, hev, hr1, hK⟩
      | pan n => exact ⟨s1, H1, ρ1, S1, hs1, hev, hr1, hK⟩
  | cond c x y ihx ihy =>
    intro s H K h0 ρ S w a hs hr
    have h : condK c s (fun s => execG P x s H K) (fun s => execG P y s H K) := h0
    obtain ⟨b, hb, hc⟩ := condK_spec h hr
    refine wp_cond hb ?_
    rcases hc with ⟨rfl, s', hK, hr'⟩ | ⟨rfl, s', hK, hr'⟩
    · exact ihx s' H K hK ρ S w a hs hr'
    · exact ihy s' H K hK ρ S w a hs hr'
  | block id b ih =>
    intro s H K h ρ S w a hs hr
    refine wp_block (wp_mono (ih s H (blockK id K) h ρ S w a hs hr) fun e a' w' hp => ?_)
    obtain ⟨ρ1, S1, s1, H1, ex, hs1, hev, hr1, hd, hex, hK⟩ := hp
    cases ex with
    | normal => cases e <;> first | exact hex.elim | exact ⟨ρ1, S1, s1, H1, .normal, hs1, hev, hr1, hd, trivial, hK⟩
    | ret => cases e <;> first | exact hex.elim | exact ⟨ρ1, S1, s1, H1, .ret, hs1, hev, hr1, hd, trivial, hK⟩
    | pan n => cases e <;> first | exact hex.elim | exact ⟨ρ1, S1, s1, H1, .pan n, hs1, hev, hr1, hd, hex, hK⟩
    | exit n =>
      cases e <;> first | exact hex.elim | skip
      rename_i m
      have hnm : n = m := hex
      subst hnm
      by_cases hid : n = id
      · subst hid
        simp only [Exit.inBlock, if_true]
        have hK' : K .normal s1 H1 := by simpa [blockK] using hK
        exact ⟨ρ1, S1, s1, H1, .normal, hs1, hev, hr1, hd, trivial, hK'⟩
      · simp only [Exit.inBlock, if_neg hid]
        have hbq : Nat.beq n id = false := by cases hq : Nat.beq n id with | false => rfl | true => exact absurd (Nat.eq_of_beq_eq_true hq) hid
        have hK' : K (.exit n) s1 H1 := by simpa [blockK, hbq] using hK
        exact ⟨ρ1, S1, s1, H1, .exit n, hs1, hev, hr1, hd, rfl, hK'⟩
  | loop b ih =>
    intro s H K h0 ρ S w a hs hr
    have h : LoopN (execG P b) s H K := h0
    rcases h with ⟨ι, inv, sl, hp, μ, pad, hpad, hlen, hoks, hokh, ⟨i0, hi0, hst, hsh⟩, hround⟩ | ⟨n, hU⟩ | ⟨ι, inv, sl, hp, μ, pad, hpad, hlen, hoks, hokh, ⟨i0, hi0, hst, hsh⟩, hround⟩
    · obtain ⟨t0, hs0, hev0⟩ := Sat.pad pad hpad hs
      have hr0 := RelS_pre t0 hr
      refine wp_mono (P := P) (c := .loop b) (Q := Post (ρ ++ t0) S (H ++ pad) w a.defers K) ?_ fun e a' w' hp => hp.from hev0
      clear hs hr h0
      have hs := hs0
      have hr := hr0
      clear hs0 hr0
      generalize ρ ++ t0 = ρ at *
      generalize H ++ pad = H at *
      simp only [forceS_eq, forceH_eq] at hround
      refine wp_loop_by (fun n a' w' => ∃ i ρ' S', inv i ∧ μ i = n ∧ Sat ρ' S' (hp i) w' ∧ Ev ρ S H w ρ' S' (hp i) w' ∧ RelS ρ' (sl i) a'.tmps.toList ∧ a'.defers = a.defers) ?_ (μ i0) a w ?_
      · rintro n a' w' ⟨i, ρ', S', hinv, rfl, hs', hev, hr', hd⟩
        refine wp_mono (ih (sl i) (hp i) _ (hround i hinv) ρ' S' w' a' hs' hr') fun e a2 w2 hq => ?_
        obtain ⟨ρ2, S2, s2, H2, ex, hs2, hev2, hr2, hd2, hex, hK⟩ := hq
        cases ex with
        | normal =>
          cases e <;> first | exact hex.elim | skip
          obtain ⟨j, hij, hj, hws, hwh⟩ := hK
          have hw := hs2.weak hwh (by rw [hlen]; exact hokh j hij)
          refine ⟨μ j, hj, j, ρ2.take (hp j).length, S2, hij, rfl, hw.1, ?_, ?_, hd2.trans hd⟩
          · have h12 := hev.trans hev2
            refine ⟨?_, h12.os, h12.tape, h12.output, h12.size, h12.keep, h12.imm, fun b hb => h12.own b (hw.2 b hb)⟩
            obtain ⟨t, ht⟩ := h12.pre
            refine ⟨t.take ((hp j).length - ρ.length), ?_⟩
            rw [ht, List.take_append, List.take_of_length_le (by rw [hs.len, hlen]; omega)]
          · rw [hlen]; exact wkS_rel hws (hoks j) hr2
        | exit n => cases e <;> first | exact hex.elim | exact ⟨ρ2, S2, s2, H2, .exit n, hs2, hev.trans hev2, hr2, hd2.trans hd, hex, hK⟩
        | ret => cases e <;> first | exact hex.elim | exact ⟨ρ2, S2, s2, H2, .ret, hs2, hev.trans hev2, hr2, hd2.trans hd, trivial, hK⟩
        | pan n => cases e <;> first | exact hex.elim | exact ⟨ρ2, S2, s2, H2, .pan n, hs2, hev.trans hev2, hr2, hd2.trans hd, hex, hK⟩
      · have hw := hs.weak hsh (by rw [hlen]; exact hokh i0 hi0)
        have hρ : ρ.take (hp i0).length = ρ := List.take_of_length_le (by rw [hs.len, hlen]; omega)
        rw [hρ] at hw
        refine ⟨i0, ρ, S, hi0, rfl, hw.1, ⟨⟨[], by simp⟩, rfl, rfl, rfl, Nat.le_refl _, fun _ _ _ => rfl, fun b hb => .inl hb, fun b hb => .inl (hw.2 b hb)⟩, ?_, rfl⟩
        have := wkS_rel hst (hoks i0) hr
        rw [← hlen i0, hρ] at this
        exact this
    · refine wp_loop_by (fun n a' w' => ∃ s' H' ρ' S', LoopU (execG P b) K n s' H' ∧ Sat ρ' S' H' w' ∧ Ev ρ S H w ρ' S' H' w' ∧ RelS ρ' s' a'.tmps.toList ∧ a'.defers = a.defers) ?_ n a w ⟨s, H, ρ, S, hU, hs, Ev.refl _ _ _ _, hr, rfl⟩
      rintro n a' w' ⟨s', H', ρ', S', hU, hs', hev, hr', hd⟩
      cases n with
      | zero => exact hU.elim
      | succ n =>
        refine wp_mono (ih s' H' _ hU ρ' S' w' a' hs' hr') fun e a2 w2 hq => ?_
        obtain ⟨ρ2, S2, s2, H2, ex, hs2, hev2, hr2, hd2, hex, hK⟩ := hq
        cases ex with
        | normal =>
          cases e <;> first | exact hex.elim | skip
          exact ⟨n, Nat.lt_succ_self n, s2, H2, ρ2, S2, hK, hs2, hev.trans hev2, hr2, hd2.trans hd⟩
        | exit n => cases e <;> first | exact hex.elim | exact ⟨ρ2, S2, s2, H2, .exit n, hs2, hev.trans hev2, hr2, hd2.trans hd, hex, hK⟩
        | ret => cases e <;> first | exact hex.elim | exact ⟨ρ2, S2, s2, H2, .ret, hs2, hev.trans hev2, hr2, hd2.trans hd, trivial, hK⟩
        | pan n => cases e <;> first | exact hex.elim | exact ⟨ρ2, S2, s2, H2, .pan n, hs2, hev.trans hev2, hr2, hd2.trans hd, hex, hK⟩
    · obtain ⟨t0, hs0, hev0⟩ := Sat.pad pad hpad hs
      have hr0 := RelS_pre t0 hr
      refine wp_mono (P := P) (c := .loop b) (Q := Post (ρ ++ t0) S (H ++ pad) w a.defers K) ?_ fun e a' w' hp => hp.from hev0
      clear hs hr h0
      have hs := hs0
      have hr := hr0
      clear hs0 hr0
      generalize ρ ++ t0 = ρ at *
      generalize H ++ pad = H at *
      simp only [forceS_eq, forceH_eq] at hround
      refine wp_loop_by (fun n a' w' => ∃ i ρ' S', inv i ∧ μ i = n ∧ Sat ρ' S' (hp i) w' ∧ Ev ρ S H w ρ' S' (hp i) w' ∧ RelS ρ' (sl i) a'.tmps.toList ∧ a'.defers = a.defers) ?_ (μ i0) a w ?_
      · rintro n a' w' ⟨i, ρ', S', hinv, rfl, hs', hev, hr', hd⟩
        refine wp_mono (ih (sl i) (hp i) _ (hround i hinv) ρ' S' w' a' hs' hr') fun e a2 w2 hq => ?_
        obtain ⟨ρ2, S2, s2, H2, ex, hs2, hev2, hr2, hd2, hex, hK⟩ := hq
        cases ex with
        | normal =>
          cases e <;> first | exact hex.elim | skip
          obtain ⟨j, hij, hj, hws, G, hT, hwh⟩ := hK
          obtain ⟨S3, hs3, hev3⟩ := hT.2 _ _ _ hs2
          have hw := hs3.weak hwh (by rw [hlen]; exact hokh j hij)
          refine ⟨μ j, hj, j, ρ2.take (hp j).length, S3, hij, rfl, hw.1, ?_, ?_, hd2.trans hd⟩
          · have h12 := (hev.trans hev2).trans hev3
            refine ⟨?_, h12.os, h12.tape, h12.output, h12.size, h12.keep, h12.imm, fun b hb => h12.own b (hw.2 b hb)⟩
            obtain ⟨t, ht⟩ := h12.pre
            refine ⟨t.take ((hp j).length - ρ.length), ?_⟩
            rw [ht, List.take_append, List.take_of_length_le (by rw [hs.len, hlen]; omega)]
          · rw [hlen]; exact wkS_rel hws (hoks j) hr2
        | exit n => cases e <;> first | exact hex.elim | exact ⟨ρ2, S2, s2, H2, .exit n, hs2, hev.trans hev2, hr2, hd2.trans hd, hex, hK⟩
        | ret => cases e <;> first | exact hex.elim | exact ⟨ρ2, S2, s2, H2, .ret, hs2, hev.trans hev2, hr2, hd2.trans hd, trivial, hK⟩
        | pan n => cases e <;> first | exact hex.elim | exact ⟨ρ2, S2, s2, H2, .pan n, hs2, hev.trans hev2, hr2, hd2.trans hd, hex, hK⟩
      · obtain ⟨G, hT, hsh⟩ := hsh
        obtain ⟨S3, hs3, hev3⟩ := hT.2 _ _ _ hs
        have hw := hs3.weak hsh (by rw [hlen]; exact hokh i0 hi0)
        have hρ : ρ.take (hp i0).length = ρ := List.take_of_length_le (by rw [hs.len, hlen]; omega)
        rw [hρ] at hw
        refine ⟨i0, ρ, S3, hi0, rfl, hw.1, ⟨⟨[], by simp⟩, hev3.os, hev3.tape, hev3.output, hev3.size, hev3.keep, hev3.imm, fun b hb => hev3.own b (hw.2 b hb)⟩, ?_, rfl⟩
        have := wkS_rel hst (hoks i0) hr
        rw [← hlen i0, hρ] at this
        exact this
/-- What the executor shows of a function's body holds of its calls. -/
theorem specG_of_exec {P : Program} (hm : P.follows .mixedOrders = true) {f : FuncId} {fn : Func} {c : Code} (hf : P.funcs[f]? = some fn) (hn : (fn.name == "runtime.NumGoroutine") = false) (hb : fn.body = some c)
    {args : List AV} (hl : Nat.ble args.length fn.ntmps = true) {H : List Ent} {K : Out → List Ent → Prop} (h : initK fn.ntmps args fun s => execG P c s H (endK P fn.results.toList K)) : SpecH P f args H K := by
  refine ⟨⟨fn, hf, hn, by rw [hb]; rfl⟩, fun ρ S w vs hs hr => ?_⟩
  have hvl := RelS_len hr
  obtain ⟨s0, h, hs0⟩ := initK_rel h (Nat.le_of_ble_eq_true hl)
  have hinit : RelS ρ s0 (vs.toArray ++ Array.replicate (fn.ntmps - vs.toArray.size) undef).toList := by
    have := hs0 ρ vs hr
    simpa [hvl] using this
  refine calls_of_wp hf hb (wp_mono (execG_sound hm c _ H _ h ρ S w ⟨_, []⟩ hs hinit) ?_)
  · intro e a w' hp
    obtain ⟨ρ1, S1, s1, H1, ex, hs1, hev, hr1, hd, hex, hK⟩ := hp
    have fin : RelS ρ1 s1 a.tmps.toList → ∀ {K' : Out → Prop}, resK P fn.results.toList s1 H1 K' → (∀ out, K' out → K out H1) → ∃ v, (results fn a.tmps).run P w' = .ok v w' ∧
        ∃ ρ' S' H' out, Sat ρ' S' H' w' ∧ Ev ρ S H w ρ' S' H' w' ∧ OutOk ρ' out (.returned v) ∧ K out H' := fun hr2 {_} hK1 hK2 => by
      obtain ⟨out, hK3, hres⟩ := resK_sound hK1
      obtain ⟨v, hrun, hv⟩ := hres ρ1 S1 w' a.tmps hs1 hr2
      exact ⟨v, hrun, ρ1, S1, H1, out, hs1, hev, hv, hK2 out hK3⟩
    cases ex with
    | normal =>
      cases e <;> first | exact hex.elim | skip
      obtain ⟨v, hrun, hR⟩ := fin hr1 (K' := fun out => K out H1) hK fun _ h => h
      exact ⟨hd, v, hrun, hR⟩
    | ret =>
      cases e <;> first | exact hex.elim | skip
      obtain ⟨v, hrun, hR⟩ := fin hr1 (K' := fun out => K out H1) hK fun _ h => h
      exact ⟨hd, v, hrun, hR⟩
    | exit n => exact hK.elim
    | pan ch =>
      cases e <;> first | exact hex.elim | skip
      have : ch = _ := hex
      subst this
      exact ⟨hd, ρ1, S1, H1, .pan ch, hs1, hev, rfl, hK⟩
end Go.AX

/-
  Contract: a byte that is no ASCII is in no text of ASCII.
-/
namespace Go.Proofs.YtgogonnnojcioaaGreatDoor
open Go.AX Go.RowKit Go.Core Go.Marshal
set_option maxRecDepth 20000
theorem pureG {P : Program} (hm : P.follows .mixedOrders = true) {f : FuncId} {fn : Func} {c : Code} (hf : P.funcs[f]? = some fn) (hn : (fn.name == "runtime.NumGoroutine") = false) (hb : fn.body = some c)
    {xs : List Value} (hl : Nat.ble (pvs xs).length fn.ntmps = true) {r : Value} (h : initK fn.ntmps (pvs xs) fun s => execG P c s [] (endK P fn.results.toList fun out _ => out = .val (.c (.v r)))) (H : List Ent) : SpecH P f (pvs xs) H (Ret r H) :=
  ((specG_of_exec hm hf hn hb hl h).mono fun out _ ho => ⟨r, ho, rfl⟩ : SpecH P f (pvs xs) [] fun out _ => ∃ x, out = .val (.c (.v x)) ∧ x = r).frame H |>.mono fun _ _ ⟨_, ho, hx, hH⟩ => ⟨by rw [ho, hx], hH⟩
theorem enc_hi (x : UInt8) (hx : 128 ≤ x.toNat) : ∃ b0 b1 : UInt8, Utf8.encode (x.toNat : Int) = bs [b0, b1] ∧ 128 ≤ b1.toNat := by
  have h : ∀ n : Fin 256, 128 ≤ n.val → (Utf8.encode (n.val : Int)).data.toList = [UInt8.ofNat (192 + n.val / 64), UInt8.ofNat (128 + n.val % 64)] ∧ 128 ≤ (UInt8.ofNat (128 + n.val % 64)).toNat := by decide +kernel
  have h2 := h ⟨x.toNat, x.toNat_lt⟩ hx
  exact ⟨_, _, by rw [← bs_of (Utf8.encode (x.toNat : Int)), h2.1], h2.2⟩
theorem index_lt (l : List UInt8) (c : UInt8) : Lib.indexByte l c < 0 ↔ l.contains c = false := by
  induction l with
  | nil => simp [Lib.indexByte]
  | cons b l ih =>
    have hge := Lib.indexByte_ge l c
    unfold Lib.indexByte
    cases hb : b == c with
    | true =>
      have hbc : b = c := by simpa using hb
      simp [hbc]
    | false =>
      have hbc : (c == b) = false := by
        have : ¬ b = c := by simpa using hb
        simpa using fun h => this h.symm
      rw [List.contains_cons, hbc, Bool.false_or, ← ih]
      simp only [Bool.false_eq_true, if_false]
      split
      · rename_i h; have : Lib.indexByte l c = -1 := by simpa using h
        omega
      · rename_i h; have : ¬ Lib.indexByte l c = -1 := by simpa using h
        omega
theorem index_none (s : List UInt8) (c : UInt8) (h : c ∉ s) : Lib.indexByte s c = -1 := by
  induction s with
  | nil => rfl
  | cons b l ih =>
    have hb : (b == c) = false := by
      rw [beq_eq_false_iff_ne]
      intro e
      exact h (by simp [e])
    unfold Lib.indexByte
    rw [hb, ih (fun h2 => h (by simp [h2]))]
    rfl
theorem IndexRune_hi (c0 c1 : UInt8) (s : List UInt8) (hs : ∀ c ∈ c0 :: c1 :: s, c.toNat < 128) (hl : s.length ≤ 1000) (x : UInt8) (hx : 128 ≤ x.toNat) : ∀ H, SpecH Tryz.prog 103 (pvs [.string (bs (c0 :: c1 :: s)), .int .i32 (x.toNat : Int)]) H (Ret (.int .i64 (-1)) H) := by
  refine pureG hm Tryz.func103 (by kernel_rfl) rfl rfl ?_
  have hx2 := x.toNat_lt
  have hvr : ∀ H, SpecH Tryz.prog 127 (pvs [.int .i32 (x.toNat : Int)]) H (Ret (.bool true) H) := fun H =>
    SpecH.rawP (R := fun r => r = .bool true) (callOk Tryz.func127 (by kernel_rfl) rfl) (fun w _ => (Tryz.utf8_ValidRune (x.toNat : Int) w).mono fun e w' ⟨he, hw⟩ => by
      have e1 : Lib.validRune (x.toNat : Int) = true := by unfold Lib.validRune; simp; omega
      rw [e1] at he
      subst hw
      exact ⟨_, he, rfl, Below.refl _ _⟩) fun r hr => by subst hr; exact ⟨rfl, rfl⟩
  ((conv => whnf); (repeat ((first | refine SeqN.plain ?_ | refine BoxN.own ?_ | refine RwN.own ?_ | refine VrN.norm (wrap_i64 (by omega)) ?_ | refine VrN.keep ?_ | refine DrawN.calm (by decide +kernel) ?_ | refine Nd.mk (by decide +kernel) ?_ | refine Nd.mk (by omega) ?_ | (refine Nd.mk ?_ ?_; focus ((repeat' (first | exact trivial | exact wkE_refl _ | refine And.intro ?_ ?_)); done)) | refine RdN.intro _ rfl (by rfl) ?_); (conv => whnf))))
  refine brd_dec (fun h => absurd h (by omega)) (fun _ => ?_)
  ((conv => whnf); (repeat ((first | refine SeqN.plain ?_ | refine BoxN.own ?_ | refine RwN.own ?_ | refine VrN.norm (wrap_i64 (by omega)) ?_ | refine VrN.keep ?_ | refine DrawN.calm (by decide +kernel) ?_ | refine Nd.mk (by decide +kernel) ?_ | refine Nd.mk (by omega) ?_ | (refine Nd.mk ?_ ?_; focus ((repeat' (first | exact trivial | exact wkE_refl _ | refine And.intro ?_ ?_)); done)) | refine RdN.intro _ rfl (by rfl) ?_); (conv => whnf))))
  refine brd_eq (fun h => absurd h (by omega)) (fun _ => ?_)
  ((conv => whnf); (repeat ((first | refine SeqN.plain ?_ | refine BoxN.own ?_ | refine RwN.own ?_ | refine VrN.norm (wrap_i64 (by omega)) ?_ | refine VrN.keep ?_ | refine DrawN.calm (by decide +kernel) ?_ | refine Nd.mk (by decide +kernel) ?_ | refine Nd.mk (by omega) ?_ | (refine Nd.mk ?_ ?_; focus ((repeat' (first | exact trivial | exact wkE_refl _ | refine And.intro ?_ ?_)); done)) | refine RdN.intro _ rfl (by rfl) ?_); (conv => whnf))))
  refine call1 (hvr _) ?_
  ((conv => whnf); (repeat ((first | refine SeqN.plain ?_ | refine BoxN.own ?_ | refine RwN.own ?_ | refine VrN.norm (wrap_i64 (by omega)) ?_ | refine VrN.keep ?_ | refine DrawN.calm (by decide +kernel) ?_ | refine Nd.mk (by decide +kernel) ?_ | refine Nd.mk (by omega) ?_ | (refine Nd.mk ?_ ?_; focus ((repeat' (first | exact trivial | exact wkE_refl _ | refine And.intro ?_ ?_)); done)) | refine RdN.intro _ rfl (by rfl) ?_); (conv => whnf))))
  obtain ⟨b0, b1, he, hb1⟩ := enc_hi x hx
  rw [he, show IntKind.i64.wrap (((bs [b0, b1]).size : Nat) - 1) = 1 from rfl]
  refine LoopN.unroll 1 ?_
  ((conv => whnf); (repeat ((first | refine SeqN.plain ?_ | refine BoxN.own ?_ | refine RwN.own ?_ | refine VrN.norm (wrap_i64 (by omega)) ?_ | refine VrN.keep ?_ | refine DrawN.calm (by decide +kernel) ?_ | refine Nd.mk (by decide +kernel) ?_ | refine Nd.mk (by omega) ?_ | (refine Nd.mk ?_ ?_; focus ((repeat' (first | exact trivial | exact wkE_refl _ | refine And.intro ?_ ?_)); done)) | refine RdN.intro _ rfl (by rfl) ?_); (conv => whnf))))
  have hsz : (bs (c0 :: c1 :: s)).size = s.length + 2 := bs_size _
  refine brd_dec (fun _ => ?_) (fun h => absurd (by rw [hsz]; show (1 : Int) < _; omega) h)
  ((conv => whnf); (repeat ((first | refine SeqN.plain ?_ | refine BoxN.own ?_ | refine RwN.own ?_ | refine VrN.norm (wrap_i64 (by omega)) ?_ | refine VrN.keep ?_ | refine DrawN.calm (by decide +kernel) ?_ | refine Nd.mk (by decide +kernel) ?_ | refine Nd.mk (by omega) ?_ | (refine Nd.mk ?_ ?_; focus ((repeat' (first | exact trivial | exact wkE_refl _ | refine And.intro ?_ ?_)); done)) | refine RdN.intro _ rfl (by rfl) ?_); (conv => whnf))))
  refine Nd.mk ⟨by decide, by show (1 : Int) < 2; decide⟩ ?_
  ((conv => whnf); (repeat ((first | refine SeqN.plain ?_ | refine BoxN.own ?_ | refine RwN.own ?_ | refine VrN.norm (wrap_i64 (by omega)) ?_ | refine VrN.keep ?_ | refine DrawN.calm (by decide +kernel) ?_ | refine Nd.mk (by decide +kernel) ?_ | refine Nd.mk (by omega) ?_ | (refine Nd.mk ?_ ?_; focus ((repeat' (first | exact trivial | exact wkE_refl _ | refine And.intro ?_ ?_)); done)) | refine RdN.intro _ rfl (by rfl) ?_); (conv => whnf))))
  rw [show byteAt (bs (c0 :: c1 :: s)) (Int.toNat 1) = (c1.toNat : Int) from rfl, show byteAt (bs [b0, b1]) (Int.toNat 1) = (b1.toNat : Int) from rfl]
  have hc1 : c1.toNat < 128 := hs c1 (by simp)
  refine brd_ne (fun _ => ?_) (fun h => absurd h (by omega))
  ((conv => whnf); (repeat ((first | refine SeqN.plain ?_ | refine BoxN.own ?_ | refine RwN.own ?_ | refine VrN.norm (wrap_i64 (by omega)) ?_ | refine VrN.keep ?_ | refine DrawN.calm (by decide +kernel) ?_ | refine Nd.mk (by decide +kernel) ?_ | refine Nd.mk (by omega) ?_ | (refine Nd.mk ?_ ?_; focus ((repeat' (first | exact trivial | exact wkE_refl _ | refine And.intro ?_ ?_)); done)) | refine RdN.intro _ rfl (by rfl) ?_); (conv => whnf))))
  refine ReadW.str_l rfl (by kernel_rfl) rfl rfl ⟨by decide, by rw [hsz, show IntKind.i64.wrap (1 + 1) = 2 from rfl]; omega⟩ ?_
  rw [show (bs (c0 :: c1 :: s)).extract (Int.toNat (IntKind.i64.wrap (1 + 1))) (bs (c0 :: c1 :: s)).size = bs s by rw [bs_size]; exact bs_drop (c0 :: c1 :: s) 2]
  ((conv => whnf); (repeat ((first | refine SeqN.plain ?_ | refine BoxN.own ?_ | refine RwN.own ?_ | refine VrN.norm (wrap_i64 (by omega)) ?_ | refine VrN.keep ?_ | refine DrawN.calm (by decide +kernel) ?_ | refine Nd.mk (by decide +kernel) ?_ | refine Nd.mk (by omega) ?_ | (refine Nd.mk ?_ ?_; focus ((repeat' (first | exact trivial | exact wkE_refl _ | refine And.intro ?_ ?_)); done)) | refine RdN.intro _ rfl (by rfl) ?_); (conv => whnf))))
  refine Nd.mk ⟨by decide, by show (1 : Int) < 2; decide⟩ ?_
  ((conv => whnf); (repeat ((first | refine SeqN.plain ?_ | refine BoxN.own ?_ | refine RwN.own ?_ | refine VrN.norm (wrap_i64 (by omega)) ?_ | refine VrN.keep ?_ | refine DrawN.calm (by decide +kernel) ?_ | refine Nd.mk (by decide +kernel) ?_ | refine Nd.mk (by omega) ?_ | (refine Nd.mk ?_ ?_; focus ((repeat' (first | exact trivial | exact wkE_refl _ | refine And.intro ?_ ?_)); done)) | refine RdN.intro _ rfl (by rfl) ?_); (conv => whnf))))
  refine callQ (IndexByte_c s b1 _) ?_
  rw [index_none s b1 (fun h => by have := hs b1 (by simp [h]); omega)]
  ((conv => whnf); (repeat ((first | refine SeqN.plain ?_ | refine BoxN.own ?_ | refine RwN.own ?_ | refine VrN.norm (wrap_i64 (by omega)) ?_ | refine VrN.keep ?_ | refine DrawN.calm (by decide +kernel) ?_ | refine Nd.mk (by decide +kernel) ?_ | refine Nd.mk (by omega) ?_ | (refine Nd.mk ?_ ?_; focus ((repeat' (first | exact trivial | exact wkE_refl _ | refine And.intro ?_ ?_)); done)) | refine RdN.intro _ rfl (by rfl) ?_); (conv => whnf))))
theorem ContainsRune_lo (s : List UInt8) (x : UInt8) (hx : x.toNat < 128) : ∀ H, SpecH Tryz.prog 88 (pvs [.string (bs s), .int .i32 (x.toNat : Int)]) H (Ret (.bool (decide (0 ≤ Lib.indexByte s x))) H) := fun H =>
  SpecH.rawP (R := fun r => r = .bool (decide (0 ≤ Lib.indexByte s x))) (callOk Tryz.func88 (by kernel_rfl) rfl) (fun w _ => (Tryz.strings_ContainsRune_ascii (bs s) (x.toNat : Int) w (by omega) (by omega)).mono fun e w' ⟨he, hw⟩ => by
    subst hw
    rw [bs_list, Int.toNat_natCast, show x.toNat.toUInt8 = x by simp] at he
    exact ⟨_, he, rfl, Below.refl _ _⟩) fun r hr => by subst hr; exact ⟨rfl, rfl⟩
theorem ContainsRune_hi (c0 c1 : UInt8) (s : List UInt8) (hs : ∀ c ∈ c0 :: c1 :: s, c.toNat < 128) (hl : s.length ≤ 1000) (x : UInt8) (hx : 128 ≤ x.toNat) : ∀ H, SpecH Tryz.prog 88 (pvs [.string (bs (c0 :: c1 :: s)), .int .i32 (x.toNat : Int)]) H (Ret (.bool false) H) := by
  refine pureC hm Tryz.func88 (by kernel_rfl) rfl rfl ?_
  (first | refine wX ?_ | exact wZ)
  refine call1 (IndexRune_hi c0 c1 s hs hl x hx _) ?_
  (first | refine wX ?_ | exact wZ)
  rfl
/-- Whether a byte is one of some. -/
theorem ContainsRune_m (c0 c1 : UInt8) (s : List UInt8) (hs : ∀ c ∈ c0 :: c1 :: s, c.toNat < 128) (hl : s.length ≤ 1000) (x : UInt8) : ∀ H, SpecH Tryz.prog 88 (pvs [.string (bs (c0 :: c1 :: s)), .int .i32 (x.toNat : Int)]) H (Ret (.bool (decide (x ∈ c0 :: c1 :: s))) H) := by
  intro H
  by_cases hx : x.toNat < 128
  · have h := ContainsRune_lo (c0 :: c1 :: s) x hx H
    have e : decide (0 ≤ Lib.indexByte (c0 :: c1 :: s) x) = decide (x ∈ c0 :: c1 :: s) := by
      by_cases hm2 : x ∈ c0 :: c1 :: s
      · rw [decide_eq_true hm2]
        have : ¬ Lib.indexByte (c0 :: c1 :: s) x < 0 := by
          rw [index_lt, List.contains_iff_mem.2 hm2]
          exact fun h => by cases h
        simp; omega
      · rw [decide_eq_false hm2, index_none _ _ hm2]
        rfl
    rw [← e]
    exact h
  · have h := ContainsRune_hi c0 c1 s hs hl x (by omega) H
    rw [decide_eq_false (fun hm2 => hx (hs x hm2))]
    exact h
end Go.Proofs.YtgogonnnojcioaaGreatDoor

/-
  Contracts: a cell is read (program).
-/
namespace Go.Proofs.YtgogonnnojcioaaGreatDoor
open Go.AX Go.RowKit Go.Core Go.Marshal
set_option maxRecDepth 20000

abbrev nilP : CellP := ⟨nilC, none, 0, none, 0⟩
theorem grC_put : ∀ {m : List CellP} {j : Nat} (q : CellP), j < m.length → (grC m).take (j * 5) ++ cellC q ++ (grC m).drop (j * 5 + 5) = grC (m.set j q)
  | p :: m, 0, q, _ => by simp [grC, cellC]
  | p :: m, j + 1, q, h => by
    have ih := grC_put (m := m) (j := j) q (by simpa using h)
    have e : grC (p :: m) = cellC p ++ grC m := by simp [grC]
    have l5 : (cellC p).length = 5 := rfl
    rw [List.set_cons_succ, show grC (p :: m.set j q) = cellC p ++ grC (m.set j q) by simp [grC], ← ih, e, show (j + 1) * 5 = (cellC p).length + j * 5 by rw [l5]; omega, List.take_length_add_append, show (cellC p).length + j * 5 + 5 = (cellC p).length + (j * 5 + 5) by omega, List.drop_length_add_append]
    simp
theorem seal_rd {H : List Ent} {rb : Nat} {st : PS} {p : RdP} (hl : 5 ≤ H.length) (h0 : H[0]? = some (.app 84 5 (rdC st p) (some ⟨rb, 0, none⟩) 1 1)) (h1 : H[1]? = some (.app 57 5 (grC p.m) p.ga p.m.length p.gc)) (h3 : H[3]? = some (.app 3 1 (iC st.cells) p.ca st.cells.length p.cc)) (h4 : H[4]? = some (.app 9 1 (strC st.ss) p.sa st.ss.length p.sc)) (hΓ : ∀ w, Facts (restL H (rdE rb st p)) w → ∀ q ∈ p.m, CellF q w) : SealOk H (rdE rb st p) := by
  refine ⟨hl, fun i e he => ?_⟩
  rcases i with _ | _ | _ | _ | _ | i
  · obtain rfl := Option.some.inj he
    exact .inr (.inl ⟨_, _, _, _, _, _, rfl, h0⟩)
  · obtain rfl := Option.some.inj he
    exact .inr (.inl ⟨_, _, _, _, _, _, rfl, h1⟩)
  · exact .inr (.inr ⟨_, (Option.some.inj he).symm, hΓ⟩)
  · obtain rfl := Option.some.inj he
    exact .inr (.inl ⟨_, _, _, _, _, _, rfl, h3⟩)
  · obtain rfl := Option.some.inj he
    exact .inr (.inl ⟨_, _, _, _, _, _, rfl, h4⟩)
  · cases he
theorem cell_dead_c (n : Nat) (rb : Nat) (st : PS) (p : RdP) (ok : RdOk st p) (he : st.e ≠ 0) : SpecH Tryz.prog 64 [.c (.v (.pointer (some ⟨rb, 0, none⟩)))] (rdE rb st p) (RetG (ι := RdP) (fun p' => RdOk (cellM n st).2 p') (fun _ => .int .i64 (cellM n st).1) fun p' => rdE rb (cellM n st).2 p') := by
  have hcm : cellM n st = (0, st) := by
    cases n with
    | zero => show (0, failM st 99) = _; rw [fail_dead he]
    | succ n => exact cell_dead n he
  rw [hcm]
  refine ownC hm Tryz.func64 (by kernel_rfl) rfl rfl (fun _ _ => rdE_ok _ _ _) (fun _ _ => Nat.le_refl _) ?_
  have hne := next_m rb st p
  rw [next_dead he] at hne
  (first | refine wX ?_ | exact wZ)
  -- the contract hne is called
  refine callG (hne) [0, 1, 2, 3, 4] rfl ⟨rfl, rfl, rfl, rfl, rfl, trivial⟩ rfl fun _ _ => ?_
  (first | refine wX ?_ | exact wZ)
  -- 4: the field, .int .i64 st.e: its value
  refine LdN.one (a := some ⟨rb, 0, none⟩) (q := 4) (.int .i64 st.e) rfl (fun w hw => hw.1) rfl ?_
  (first | refine wX ?_ | exact wZ)
  refine brd_ne (fun _ => ?_) (fun h => absurd h he)
  (first | refine wX ?_ | exact wZ)
  exact ⟨p, ok, rfl, wkH_refl _⟩
theorem cell_step (n : Nat) (hc : CellC n) : CellC (n + 1) := by
  intro rb st p ok bd hn
  by_cases he : st.e ≠ 0
  · exact cell_dead_c (n + 1) rb st p ok he
  have hn : st.s.length < n + 1 := hn.resolve_right he
  have hcm : cellM (n + 1) st = (if (nextM st).2.e ≠ 0 then (0, (nextM st).2) else if (nextM st).1 = 64 then refM (nextM st).2 else if 500 ≤ (nextM st).2.g.length ∨ (nextM st).1 ∉ begins then (0, failM (nextM st).2 4) else (((nextM st).2.g.length : Int), { (innerM (cellM n) (nextM st).1 (openM (nextM st).1 (nextM st).2)).2 with g := (innerM (cellM n) (nextM st).1 (openM (nextM st).1 (nextM st).2)).2.g.set (nextM st).2.g.length (innerM (cellM n) (nextM st).1 (openM (nextM st).1 (nextM st).2)).1 })) := rfl
  generalize cellM (n + 1) st = R at hcm ⊢
  refine SpecH.sealP ?_
  refine spec_of_exec hm Tryz.func64 (by kernel_rfl) rfl rfl ?_
  have hne := next_m rb st p
  have b1 := bd.le (next_le st)
  have ok1 := ok.same (next_keep st)
  have hlt := next_lt (st := st)
  generalize nextM st = q at hne hcm b1 ok1 hlt ⊢
  obtain ⟨x, s1⟩ := q
  simp only at hne hcm b1 ok1 hlt
  (first | refine wX ?_ | exact wZ)
  -- the contract hne is called
  refine callG (hne) [0, 1, 2, 3, 4] rfl ⟨rfl, rfl, rfl, rfl, rfl, trivial⟩ rfl fun _ _ => ?_
  (first | refine wX ?_ | exact wZ)
  -- 4: the field, .int .i64 s1.e: its value
  refine LdN.one (a := some ⟨rb, 0, none⟩) (q := 4) (.int .i64 s1.e) rfl (fun w hw => hw.1) rfl ?_
  (first | refine wX ?_ | exact wZ)
  refine brd_ne (fun h1 => ?_) (fun h1 => ?_)
  · rw [if_pos h1] at hcm
    subst hcm
    (first | refine wX ?_ | exact wZ)
    -- the reader is s1, its rows lie as p says; ok1: that this is so
    refine ⟨rdE rb (s1) (p), Nat.le_of_ble_eq_true rfl, seal_rd (Nat.le_of_ble_eq_true rfl) rfl rfl rfl rfl (fun w hw => hw.1), ⟨_, rfl⟩, ⟨p, ok1, rfl, rfl⟩⟩
  rw [if_neg (fun h => h h1)] at hcm
  obtain ⟨hl1, _⟩ := hlt (.inl h1)
  have hn1 : s1.s.length < n ∨ s1.e ≠ 0 := .inl (by omega)
  (first | refine wX ?_ | exact wZ)
  refine brd_eq (fun h64 => ?_) (fun h64 => ?_)
  · obtain rfl : x = 64 := UInt8.toNat_inj.1 (by have : x.toNat = 64 := by omega
                                                 rw [this]; rfl)
    rw [if_pos rfl] at hcm
    have hnum := number_m rb s1 p maxN (by decide)
    have ok2 := ok1.same (num_keep maxN s1)
    have hmo := num_most maxN s1
    unfold refM at hcm
    simp only at hcm
    generalize numM maxN s1 = q at hnum ok2 hmo hcm ⊢
    obtain ⟨k, s2⟩ := q
    simp only at hnum ok2 hmo hcm
    have hmo : k ≤ 1000000000000000 := hmo
    (first | refine wX ?_ | exact wZ)
    -- the contract hnum is called
    refine callG (hnum) [0, 1, 2, 3, 4] rfl ⟨rfl, rfl, rfl, rfl, rfl, trivial⟩ rfl fun _ _ => ?_
    (first | refine wX ?_ | exact wZ)
    -- 4: the field, .int .i64 s2.e: its value
    refine LdN.one (a := some ⟨rb, 0, none⟩) (q := 4) (.int .i64 s2.e) rfl (fun w hw => hw.1) rfl ?_
    (first | refine wX ?_ | exact wZ)
    by_cases he2 : s2.e = 0
    · rw [show (s2.e == 0) = true by rw [he2]; rfl]
      rw [if_neg (fun h => h he2)] at hcm
      (first | refine wX ?_ | exact wZ)
      -- 2: the field, .slice p.ca s2.cells.length p.cc: its value
      refine LdN.one (a := some ⟨rb, 0, none⟩) (q := 2) (.slice p.ca s2.cells.length p.cc) rfl (fun w hw => hw.1) rfl ?_
      (first | refine wX ?_ | exact wZ)
      refine brd_dec (fun hk => ?_) (fun hk => ?_)
      · rw [if_pos (by omega)] at hcm
        subst hcm
        (first | refine wX ?_ | exact wZ)
        -- the contract fail_m rb s2 p 4 is called
        refine callG (fail_m rb s2 p 4) [0, 1, 2, 3, 4] rfl ⟨rfl, rfl, rfl, rfl, rfl, trivial⟩ rfl fun _ _ => ?_
        have he4 : (failM s2 4).e = 4 := fail_e he2 4
        (first | refine wX ?_ | exact wZ)
        -- 4: the field, .int .i64 (failM s2 4).e: its value
        refine LdN.one (a := some ⟨rb, 0, none⟩) (q := 4) (.int .i64 (failM s2 4).e) rfl (fun w hw => hw.1) rfl ?_
        rw [he4]
        (first | refine wX ?_ | exact wZ)
        -- the reader is failM s2 4, its rows lie as p says; ok2.same (fail_ss s2 4): that this is so
        refine ⟨rdE rb (failM s2 4) (p), Nat.le_of_ble_eq_true rfl, seal_rd (Nat.le_of_ble_eq_true rfl) rfl rfl rfl rfl (fun w hw => hw.1), ⟨_, rfl⟩, ⟨p, ok2.same (fail_ss s2 4), rfl, rfl⟩⟩
      · have hkl : k < s2.cells.length := by omega
        rw [if_neg (by omega)] at hcm
        subst hcm
        have hsa : p.ca.isSome = true := by
          cases h : p.ca with
          | none =>
            rw [ok2.ca h] at hkl
            exact absurd hkl (Nat.not_lt_zero _)
          | some b => rfl
        have hget : s2.cells[k]? = some (s2.cells.getD k 0) := by rw [List.getD_eq_getElem?_getD, List.getElem?_eq_getElem hkl]; rfl
        (first | refine wX ?_ | exact wZ)
        -- 4: the field, .int .i64 s2.e: its value
        refine LdN.one (a := some ⟨rb, 0, none⟩) (q := 4) (.int .i64 s2.e) rfl (fun w hw => hw.1) rfl ?_
        rw [he2]
        (first | refine wX ?_ | exact wZ)
        -- 2: the field, .slice p.ca s2.cells.length p.cc: its value
        refine LdN.one (a := some ⟨rb, 0, none⟩) (q := 2) (.slice p.ca s2.cells.length p.cc) rfl (fun w hw => hw.1) rfl ?_
        (first | refine wX ?_ | exact wZ)
        refine Nd.mk ⟨hsa, by omega, by omega⟩ ?_
        (first | refine wX ?_ | exact wZ)
        refine LdN.one (.int .i64 (s2.cells.getD k 0)) rfl (fun w hw => hw.2.2.2.1) (by show (iC s2.cells)[Int.toNat _ * 1]? = _; rw [Int.toNat_natCast, Nat.mul_one]; exact iC_get hget) ?_
        (first | refine wX ?_ | exact wZ)
        -- the reader is s2, its rows lie as p says; ok2: that this is so
        refine ⟨rdE rb (s2) (p), Nat.le_of_ble_eq_true rfl, seal_rd (Nat.le_of_ble_eq_true rfl) rfl rfl rfl rfl (fun w hw => hw.1), ⟨_, rfl⟩, ⟨p, ok2, rfl, rfl⟩⟩
    · rw [show (s2.e == 0) = false by simpa using he2]
      rw [if_pos he2] at hcm
      subst hcm
      (first | refine wX ?_ | exact wZ)
      -- 4: the field, .int .i64 s2.e: its value
      refine LdN.one (a := some ⟨rb, 0, none⟩) (q := 4) (.int .i64 s2.e) rfl (fun w hw => hw.1) rfl ?_
      (first | refine wX ?_ | exact wZ)
      refine brd_ne (fun _ => ?_) (fun h => absurd h he2)
      (first | refine wX ?_ | exact wZ)
      -- the reader is s2, its rows lie as p says; ok2: that this is so
      refine ⟨rdE rb (s2) (p), Nat.le_of_ble_eq_true rfl, seal_rd (Nat.le_of_ble_eq_true rfl) rfl rfl rfl rfl (fun w hw => hw.1), ⟨_, rfl⟩, ⟨p, ok2, rfl, rfl⟩⟩
  have hx64 : x ≠ 64 := fun h => h64 (by rw [h]; rfl)
  rw [if_neg hx64] at hcm
  have hml : p.m.length = s1.g.length := by rw [← ok1.g, List.length_map]
  (first | refine wX ?_ | exact wZ)
  -- 1: the field, .slice p.ga p.m.length p.gc: its value
  refine LdN.one (a := some ⟨rb, 0, none⟩) (q := 1) (.slice p.ga p.m.length p.gc) rfl (fun w hw => hw.1) rfl ?_
  have hfail : (500 ≤ s1.g.length ∨ x ∉ begins) → R = (0, failM s1 4) := fun h => by rw [hcm, if_pos h]
  have hxl := x.toNat_lt
  have hw32 : IntKind.i32.wrap (x.toNat : Int) = (x.toNat : Int) := by simp [IntKind.wrap, IntKind.bits, IntKind.signed]; omega
  have hb10 : ∀ c ∈ [(48 : UInt8), 84, 70, 105, 34, 58, 59, 91, 123, 111], c.toNat < 128 := by decide
  have hb4 : ∀ c ∈ [(34 : UInt8), 91, 123, 111], c.toNat < 128 := by decide
  (first | refine wX ?_ | exact wZ)
  by_cases h5 : 500 ≤ s1.g.length
  · rw [show decide ((p.m.length : Int) ≥ 500) = true by simp; omega]
    have hcm := hfail (.inl h5)
    subst hcm
    (first | refine wX ?_ | exact wZ)
    -- the contract fail_m rb s1 p 4 is called
    refine callG (fail_m rb s1 p 4) [0, 1, 2, 3, 4] rfl ⟨rfl, rfl, rfl, rfl, rfl, trivial⟩ rfl fun _ _ => ?_
    (first | refine wX ?_ | exact wZ)
    -- the reader is failM s1 4, its rows lie as p says; ok1.same (fail_ss s1 4): that this is so
    refine ⟨rdE rb (failM s1 4) (p), Nat.le_of_ble_eq_true rfl, seal_rd (Nat.le_of_ble_eq_true rfl) rfl rfl rfl rfl (fun w hw => hw.1), ⟨_, rfl⟩, ⟨p, ok1.same (fail_ss s1 4), rfl, rfl⟩⟩
  rw [show decide ((p.m.length : Int) ≥ 500) = false by simp; omega]
  (first | refine wX ?_ | exact wZ)
  rw [hw32]
  refine call1 (ContainsRune_m 48 84 [70, 105, 34, 58, 59, 91, 123, 111] hb10 (by decide) x _) ?_
  by_cases hx : x ∈ begins
  · rw [show decide (x ∈ [(48 : UInt8), 84, 70, 105, 34, 58, 59, 91, 123, 111]) = true from decide_eq_true hx]
    rw [if_neg (fun h => h.elim h5 (fun h => h hx))] at hcm
    have hfe : (fun w => ∀ q ∈ p.m, CellF q w) = (fun w => ∀ q ∈ p.m ++ [nilP], CellF q w) := by
      funext w
      refine propext ⟨fun h q hq => ?_, fun h q hq => h q (List.mem_append_left _ hq)⟩
      rcases List.mem_append.1 hq with hq | hq
      · exact h q hq
      · obtain rfl := List.mem_singleton.1 hq
        exact ⟨slAt_nil w, slAt_nil w⟩
    have hgl := b1.g
    have hcl := b1.cl
    have hle := inner_le (cell_takes n) x (openM x s1)
    have hol : (openM x s1).g.length = s1.g.length + 1 := by unfold openM; simp
    have hogl := hle.g
    rw [hol] at hogl
    have b2 : Bd (openM x s1) := ⟨by rw [hol]; omega, by
      rw [hol]
      show (if x ∈ named then s1.cells ++ [(s1.g.length : Int)] else s1.cells).length ≤ _
      split
      · simp; omega
      · omega, b1.pot⟩
    have hn2 : (openM x s1).s.length < n ∨ (openM x s1).e ≠ 0 := hn1
    have hml2 : p.m.length + 1 = (p.m ++ [nilP]).length := by simp
    (first | refine wX ?_ | exact wZ)
    -- 1: the field, .slice p.ga p.m.length p.gc: its value
    refine LdN.one (a := some ⟨rb, 0, none⟩) (q := 1) (.slice p.ga p.m.length p.gc) rfl (fun w hw => hw.1) rfl ?_
    (first | refine wX ?_ | exact wZ)
    refine AppN.grow 1 (grC p.m) (cellC nilP) rfl rfl ⟨Nat.le_refl 1, ⟨by show (p.m.length + 1) * 80 ≤ _; omega, by omega⟩, by decide⟩ fun gb gc' g1 g2 => ?_
    (first | refine wX ?_ | exact wZ)
    rw [← grC_snoc, hml2, hfe]
    refine EffW.appTo (i := 0) (q := 1) (ys := [_]) (rdC { s1 with g := s1.g ++ [nilC] } { p with m := p.m ++ [nilP], ga := some ⟨gb, 0, none⟩, gc := gc' }) 5 rfl rfl rfl rfl rfl rfl rfl (Nat.le_of_ble_eq_true rfl) rfl rfl ?_
    (first | refine wX ?_ | exact wZ)
    rw [hw32]
    refine call1 (ContainsRune_m 34 91 [123, 111] hb4 (by decide) x _) ?_
    by_cases hnm : x ∈ named
    · rw [show decide (x ∈ [(34 : UInt8), 91, 123, 111]) = true from decide_eq_true hnm]
      have ho : openM x s1 = { s1 with g := s1.g ++ [nilC], cells := s1.cells ++ [(s1.g.length : Int)] } := by unfold openM; rw [if_pos hnm]
      (first | refine wX ?_ | exact wZ)
      -- 2: the field, .slice p.ca s1.cells.length p.cc: its value
      refine LdN.one (a := some ⟨rb, 0, none⟩) (q := 2) (.slice p.ca s1.cells.length p.cc) rfl (fun w hw => hw.1) rfl ?_
      (first | refine wX ?_ | exact wZ)
      refine Nd.mk ⟨Nat.le_refl 1, rfl, rfl⟩ ?_
      (conv => whnf)
      refine AppN.grow 3 (iC s1.cells) [.int .i64 (p.m.length : Int)] rfl rfl ⟨Nat.le_refl 1, ⟨by show (s1.cells.length + 1) * 8 ≤ _; omega, by omega⟩, by decide⟩ fun cb cc' g3 g4 => ?_
      (first | refine wX ?_ | exact wZ)
      have e1 : iC s1.cells ++ [.int .i64 (p.m.length : Int)] = iC (s1.cells ++ [(s1.g.length : Int)]) := by rw [hml]; simp [iC]
      have e2 : s1.cells.length + 1 = (s1.cells ++ [(s1.g.length : Int)]).length := by simp
      rw [e1, e2]
      refine EffW.appTo (i := 0) (q := 2) (ys := [_]) (rdC { s1 with g := s1.g ++ [nilC], cells := s1.cells ++ [(s1.g.length : Int)] } { p with m := p.m ++ [nilP], ga := some ⟨gb, 0, none⟩, gc := gc', ca := some ⟨cb, 0, none⟩, cc := cc' }) 5 rfl rfl rfl rfl rfl rfl rfl (Nat.le_of_ble_eq_true rfl) rfl rfl ?_
      have ok2 : RdOk { s1 with g := s1.g ++ [nilC], cells := s1.cells ++ [(s1.g.length : Int)] } { p with m := p.m ++ [nilP], ga := some ⟨gb, 0, none⟩, gc := gc', ca := some ⟨cb, 0, none⟩, cc := cc' } :=
        ⟨by show (p.m ++ [nilP]).map (·.c) = s1.g ++ [nilC]; rw [List.map_append, ok1.g]; rfl, fun y hy => (List.mem_append.1 hy).elim (ok1.cell y) (fun h => by obtain rfl := List.mem_singleton.1 h; exact ok_leaf rfl rfl (Nat.zero_le _)), (fun h => by cases h), (fun h => by cases h), ok1.sa, ok1.sw, .inr ⟨gb, rfl⟩⟩
      -- what stands behind is read by a reader whose state is { s1 with g := s1.g ++ [nilC], cells := s1.cells ++ [(s1.g.length : Int)] } and whose rows lie as { p with m := p.m ++ [nilP], ga := some ⟨gb, 0, none⟩, gc := gc', ca := some ⟨cb, 0, none⟩, cc := cc' } says; then it is put at its place
      rw [ho] at hcm hle hogl b2 hn2
      have hin := inner_rd n hc rb ({ s1 with g := s1.g ++ [nilC], cells := s1.cells ++ [(s1.g.length : Int)] }) ({ p with m := p.m ++ [nilP], ga := some ⟨gb, 0, none⟩, gc := gc', ca := some ⟨cb, 0, none⟩, cc := cc' }) ok2 b2 hn2 x hx
      generalize innerM (cellM n) x ({ s1 with g := s1.g ++ [nilC], cells := s1.cells ++ [(s1.g.length : Int)] }) = r at hcm hle hogl hin ⊢
      obtain ⟨c, s3⟩ := r
      simp only at hcm hle hogl hin
      (first | refine wX ?_ | exact wZ)
      refine callG hin [0, 1, 2, 3, 4] rfl ⟨rfl, rfl, rfl, rfl, rfl, trivial⟩ rfl fun q hq => ?_
      obtain ⟨⟨qm, qga, qgc, qca, qcc, qsa, qsc⟩, na, nc, ia, ic⟩ := q
      obtain ⟨hq1, hq2⟩ := hq
      simp only at hq1 hq2
      have hqm : qm.length = s3.g.length := by
        have := hq1.g
        rw [← this, List.length_map]
      have hat : s1.g.length < qm.length := by rw [hqm]; omega
      obtain ⟨qb, hqb⟩ : ∃ b : Nat, qga = some ⟨b, 0, none⟩ := hq1.gx.resolve_left fun h => by
        have h9 : qm = [] := hq1.ga h
        rw [h9] at hat
        exact absurd hat (Nat.not_lt_zero _)
      subst hqb
      subst hcm
      rw [hml]
      (first | refine wX ?_ | exact wZ)
      refine DrawN.planQ [0, 4] [1, 2, 3, 5, 6] [(7, 0)] (by decide +kernel) ?_
      (first | refine wX ?_ | exact wZ)
      -- 1: the field, .slice (some ⟨qb, 0, none⟩) qm.length qgc: its value
      refine LdN.one (a := some ⟨rb, 0, none⟩) (q := 1) (.slice (some ⟨qb, 0, none⟩) qm.length qgc) rfl (fun w hw => hw.1) rfl ?_
      (first | refine wX ?_ | exact wZ)
      refine Nd.mk ⟨rfl, by omega, by omega⟩ ?_
      (first | refine wX ?_ | exact wZ)
      refine EffW.appTo (i := 1) (q := s1.g.length * 5) (ys := cellC ⟨c, na, nc, ia, ic⟩) (grC (qm.set s1.g.length ⟨c, na, nc, ia, ic⟩)) 5 rfl (ptr_lit rfl (by show (s1.g.length : Int).toNat * 5 = _; rw [Int.toNat_natCast])) rfl rfl rfl rfl rfl (by show s1.g.length * 5 + 5 ≤ qm.length * 5; omega) (grC_put _ hat) rfl ?_
      (first | refine wX ?_ | exact wZ)
      have hrc : rdC { s3 with g := s3.g.set s1.g.length c } ⟨qm.set s1.g.length ⟨c, na, nc, ia, ic⟩, some ⟨qb, 0, none⟩, qgc, qca, qcc, qsa, qsc⟩ = rdC s3 ⟨qm, some ⟨qb, 0, none⟩, qgc, qca, qcc, qsa, qsc⟩ := by simp [rdC]
      refine ⟨rdE rb { s3 with g := s3.g.set s1.g.length c } ⟨qm.set s1.g.length ⟨c, na, nc, ia, ic⟩, some ⟨qb, 0, none⟩, qgc, qca, qcc, qsa, qsc⟩, Nat.le_of_ble_eq_true rfl, seal_rd (Nat.le_of_ble_eq_true rfl) (by rw [hrc]; rfl) (by rw [List.length_set]; rfl) rfl rfl (fun w hw y hy => ?_), ⟨_, rfl⟩, ⟨_, ?_, rfl, rfl⟩⟩
      · rcases List.mem_or_eq_of_mem_set hy with h | h
        · exact hw.1 y h
        · subst h
          exact ⟨hw.2.1, hw.2.2.1⟩
      · exact ⟨by show (qm.set _ _).map (·.c) = s3.g.set _ _; rw [List.map_set]; exact congrArg (fun l => List.set l s1.g.length c) hq1.g, fun y hy => (List.mem_or_eq_of_mem_set hy).elim (hq1.cell y) (fun h => by subst h; exact hq2), (fun h => by cases h), hq1.ca, hq1.sa, hq1.sw, .inr ⟨qb, rfl⟩⟩
    · rw [show decide (x ∈ [(34 : UInt8), 91, 123, 111]) = false from decide_eq_false hnm]
      have ho : openM x s1 = { s1 with g := s1.g ++ [nilC] } := by unfold openM; rw [if_neg hnm]
      have ok2 : RdOk { s1 with g := s1.g ++ [nilC] } { p with m := p.m ++ [nilP], ga := some ⟨gb, 0, none⟩, gc := gc' } :=
        ⟨by show (p.m ++ [nilP]).map (·.c) = s1.g ++ [nilC]; rw [List.map_append, ok1.g]; rfl, fun y hy => (List.mem_append.1 hy).elim (ok1.cell y) (fun h => by obtain rfl := List.mem_singleton.1 h; exact ok_leaf rfl rfl (Nat.zero_le _)), (fun h => by cases h), ok1.ca, ok1.sa, ok1.sw, .inr ⟨gb, rfl⟩⟩
      -- what stands behind is read by a reader whose state is { s1 with g := s1.g ++ [nilC] } and whose rows lie as { p with m := p.m ++ [nilP], ga := some ⟨gb, 0, none⟩, gc := gc' } says; then it is put at its place
      rw [ho] at hcm hle hogl b2 hn2
      have hin := inner_rd n hc rb ({ s1 with g := s1.g ++ [nilC] }) ({ p with m := p.m ++ [nilP], ga := some ⟨gb, 0, none⟩, gc := gc' }) ok2 b2 hn2 x hx
      generalize innerM (cellM n) x ({ s1 with g := s1.g ++ [nilC] }) = r at hcm hle hogl hin ⊢
      obtain ⟨c, s3⟩ := r
      simp only at hcm hle hogl hin
      (first | refine wX ?_ | exact wZ)
      refine callG hin [0, 1, 2, 3, 4] rfl ⟨rfl, rfl, rfl, rfl, rfl, trivial⟩ rfl fun q hq => ?_
      obtain ⟨⟨qm, qga, qgc, qca, qcc, qsa, qsc⟩, na, nc, ia, ic⟩ := q
      obtain ⟨hq1, hq2⟩ := hq
      simp only at hq1 hq2
      have hqm : qm.length = s3.g.length := by
        have := hq1.g
        rw [← this, List.length_map]
      have hat : s1.g.length < qm.length := by rw [hqm]; omega
      obtain ⟨qb, hqb⟩ : ∃ b : Nat, qga = some ⟨b, 0, none⟩ := hq1.gx.resolve_left fun h => by
        have h9 : qm = [] := hq1.ga h
        rw [h9] at hat
        exact absurd hat (Nat.not_lt_zero _)
      subst hqb
      subst hcm
      rw [hml]
      (first | refine wX ?_ | exact wZ)
      refine DrawN.planQ [0, 4] [1, 2, 3, 5, 6] [(7, 0)] (by decide +kernel) ?_
      (first | refine wX ?_ | exact wZ)
      -- 1: the field, .slice (some ⟨qb, 0, none⟩) qm.length qgc: its value
      refine LdN.one (a := some ⟨rb, 0, none⟩) (q := 1) (.slice (some ⟨qb, 0, none⟩) qm.length qgc) rfl (fun w hw => hw.1) rfl ?_
      (first | refine wX ?_ | exact wZ)
      refine Nd.mk ⟨rfl, by omega, by omega⟩ ?_
      (first | refine wX ?_ | exact wZ)
      refine EffW.appTo (i := 1) (q := s1.g.length * 5) (ys := cellC ⟨c, na, nc, ia, ic⟩) (grC (qm.set s1.g.length ⟨c, na, nc, ia, ic⟩)) 5 rfl (ptr_lit rfl (by show (s1.g.length : Int).toNat * 5 = _; rw [Int.toNat_natCast])) rfl rfl rfl rfl rfl (by show s1.g.length * 5 + 5 ≤ qm.length * 5; omega) (grC_put _ hat) rfl ?_
      (first | refine wX ?_ | exact wZ)
      have hrc : rdC { s3 with g := s3.g.set s1.g.length c } ⟨qm.set s1.g.length ⟨c, na, nc, ia, ic⟩, some ⟨qb, 0, none⟩, qgc, qca, qcc, qsa, qsc⟩ = rdC s3 ⟨qm, some ⟨qb, 0, none⟩, qgc, qca, qcc, qsa, qsc⟩ := by simp [rdC]
      refine ⟨rdE rb { s3 with g := s3.g.set s1.g.length c } ⟨qm.set s1.g.length ⟨c, na, nc, ia, ic⟩, some ⟨qb, 0, none⟩, qgc, qca, qcc, qsa, qsc⟩, Nat.le_of_ble_eq_true rfl, seal_rd (Nat.le_of_ble_eq_true rfl) (by rw [hrc]; rfl) (by rw [List.length_set]; rfl) rfl rfl (fun w hw y hy => ?_), ⟨_, rfl⟩, ⟨_, ?_, rfl, rfl⟩⟩
      · rcases List.mem_or_eq_of_mem_set hy with h | h
        · exact hw.1 y h
        · subst h
          exact ⟨hw.2.1, hw.2.2.1⟩
      · exact ⟨by show (qm.set _ _).map (·.c) = s3.g.set _ _; rw [List.map_set]; exact congrArg (fun l => List.set l s1.g.length c) hq1.g, fun y hy => (List.mem_or_eq_of_mem_set hy).elim (hq1.cell y) (fun h => by subst h; exact hq2), (fun h => by cases h), hq1.ca, hq1.sa, hq1.sw, .inr ⟨qb, rfl⟩⟩
  · rw [show decide (x ∈ [(48 : UInt8), 84, 70, 105, 34, 58, 59, 91, 123, 111]) = false from decide_eq_false hx]
    have hcm := hfail (.inr hx)
    subst hcm
    (first | refine wX ?_ | exact wZ)
    -- the contract fail_m rb s1 p 4 is called
    refine callG (fail_m rb s1 p 4) [0, 1, 2, 3, 4] rfl ⟨rfl, rfl, rfl, rfl, rfl, trivial⟩ rfl fun _ _ => ?_
    (first | refine wX ?_ | exact wZ)
    -- the reader is failM s1 4, its rows lie as p says; ok1.same (fail_ss s1 4): that this is so
    refine ⟨rdE rb (failM s1 4) (p), Nat.le_of_ble_eq_true rfl, seal_rd (Nat.le_of_ble_eq_true rfl) rfl rfl rfl rfl (fun w hw => hw.1), ⟨_, rfl⟩, ⟨p, ok1.same (fail_ss s1 4), rfl, rfl⟩⟩
theorem cell_rd : ∀ n : Nat, CellC n
  | 0 => fun rb st p ok bd hn => cell_dead_c 0 rb st p ok (hn.resolve_left (by omega))
  | n + 1 => cell_step n (cell_rd n)
end Go.Proofs.YtgogonnnojcioaaGreatDoor

/-
  Plain: how wide the cells are that the program's reader holds.
-/
namespace Go.Marshal
open Go.Core

def WdC (c : Cell) : Prop := c.names.length ≤ 30001 ∧ c.items.length ≤ 30001
def Wd (st : PS) : Prop := ∀ c ∈ st.g, WdC c
theorem num_g (most : Nat) (st : PS) : (numM most st).2.g = st.g := by
  unfold numM
  split
  · rfl
  split <;> rfl
theorem fail_g (st : PS) (e : Int) : (failM st e).g = st.g := by unfold failM; split <;> rfl
theorem next_g (st : PS) : (nextM st).2.g = st.g := by
  unfold nextM
  split
  · rfl
  split <;> rfl
theorem text_g (most : Nat) (st : PS) : (textM most st).2.g = st.g := by
  have h := num_g maxN st
  unfold textM
  split
  · exact h
  split
  · exact h
  split <;> exact h
theorem sym_g (x : UInt8) (st : PS) : (symM x st).2.g = st.g := by
  have h1 := text_g 40 st
  have h2 := num_g maxN st
  unfold symM
  split
  · simp only
    split
    · rw [fail_g]; exact h1
    · exact h1
  split
  · split
    · exact h2
    · rw [fail_g]; exact h2
  · exact fail_g _ _
theorem name_g (ns : List B) (st : PS) : (nameM ns st).2.g = st.g := by
  unfold nameM
  simp only
  split
  · rw [fail_g, sym_g, next_g]
  · rw [sym_g, next_g]
theorem class_g (st : PS) : (classM st).2.g = st.g := by
  unfold classM
  simp only
  split
  · rw [fail_g, sym_g, next_g]
  · rw [sym_g, next_g]
/-- A reader of a cell holds wide cells alone. -/
def WdF (f : PS → Int × PS) : Prop := ∀ st, Bd st → Wd st → Wd (f st).2
theorem items_wd {f : PS → Int × PS} (hf : Takes f) (hw : WdF f) : ∀ (n : Nat) (l : List Int) (st : PS), Bd st → Wd st → Wd (itemsM f n l st).2
  | 0, _, _, _, h => h
  | n + 1, l, st, b, h => by
    unfold itemsM
    split
    · exact items_wd hf hw n _ _ (b.le (hf.le st)) (hw st b h)
    · exact h
theorem attrs_wd {f : PS → Int × PS} (hf : Takes f) (hw : WdF f) : ∀ (n : Nat) (ns : List B) (l : List Int) (st : PS), Bd st → Wd st → Wd (attrsM f n ns l st).2
  | 0, _, _, _, _, h => h
  | n + 1, ns, l, st, b, h => by
    unfold attrsM
    split
    · have b2 := b.le (name_le ns st)
      have h2 : Wd (nameM ns st).2 := by unfold Wd; rw [name_g]; exact h
      exact attrs_wd hf hw n _ _ _ (b2.le (hf.le _)) (hw _ b2 h2)
    · exact h
theorem liv_le (st : PS) : liv st ≤ 1 := by unfold liv; split <;> omega
theorem items_w {f : PS → Int × PS} (hf : Takes f) (n : Nat) (st : PS) (b : Bd st) : (itemsM f n [] st).1.length ≤ 30001 := by
  have h := (items_le hf n [] st).2
  have h1 := liv_le st
  have h2 := b.pot
  have h3 : ([] : List Int).length = 0 := rfl
  omega
theorem inner_wd {f : PS → Int × PS} (hf : Takes f) (hw : WdF f) (x : UInt8) (st : PS) (b : Bd st) (h : Wd st) : WdC (innerM f x st).1 ∧ Wd (innerM f x st).2 := by
  have z : ∀ {c : Cell}, c.names = [] → c.items = [] → WdC c := fun h1 h2 => ⟨by rw [h1]; exact Nat.zero_le _, by rw [h2]; exact Nat.zero_le _⟩
  have bn := b.le (num_le maxN st)
  have hn : Wd (numM maxN st).2 := by unfold Wd; rw [num_g]; exact h
  unfold innerM
  split
  · exact ⟨z rfl rfl, h⟩
  split
  · exact ⟨z rfl rfl, h⟩
  split
  · exact ⟨z rfl rfl, by unfold Wd; rw [num_g]; exact h⟩
  split
  · exact ⟨z rfl rfl, by unfold Wd; rw [text_g]; exact h⟩
  split
  · exact ⟨z rfl rfl, by unfold Wd; rw [sym_g]; exact h⟩
  split
  · exact ⟨⟨Nat.zero_le _, items_w hf _ _ bn⟩, items_wd hf hw _ _ _ bn hn⟩
  split
  · exact ⟨⟨Nat.zero_le _, items_w hf _ _ bn⟩, items_wd hf hw _ _ _ bn hn⟩
  split
  · have bc := b.le (class_le st)
    have b2 := bc.le (num_le maxN (classM st).2)
    have h2 : Wd (numM maxN (classM st).2).2 := by unfold Wd; rw [num_g, class_g]; exact h
    obtain ⟨_, h4, h5⟩ := attrs_le hf (numM maxN (classM st).2).1 [] [] (numM maxN (classM st).2).2
    have h6 := liv_le (numM maxN (classM st).2).2
    have h7 := b2.pot
    have h8 : ([] : List Int).length = 0 := rfl
    have h9 : ([] : List B).length = 0 := rfl
    refine ⟨⟨?_, ?_⟩, attrs_wd hf hw _ _ _ _ b2 h2⟩
    · show (attrsM f (numM maxN (classM st).2).1 [] [] (numM maxN (classM st).2).2).1.1.length ≤ _
      omega
    · show (attrsM f (numM maxN (classM st).2).1 [] [] (numM maxN (classM st).2).2).1.2.length ≤ _
      omega
  · exact ⟨z rfl rfl, h⟩
theorem open_bd {x : UInt8} {st : PS} (b : Bd st) (hg : ¬ 500 ≤ st.g.length) : Bd (openM x st) := by
  have b1 := b.cl
  refine ⟨?_, ?_, b.pot⟩
  · show (st.g ++ [nilC]).length ≤ _
    simp
    omega
  · show (if x ∈ named then st.cells ++ [(st.g.length : Int)] else st.cells).length ≤ (st.g ++ [nilC]).length
    split
    · simp; omega
    · simp; omega
theorem cell_wd : ∀ n : Nat, WdF (cellM n)
  | 0 => fun st b h => by
    show ∀ c ∈ (failM st 99).g, _
    rw [fail_g]
    exact h
  | n + 1 => fun st b h => by
    have ih := cell_wd n
    have b1 := b.le (next_le st)
    have h1 : Wd (nextM st).2 := by unfold Wd; rw [next_g]; exact h
    unfold cellM
    simp only
    split
    · exact h1
    split
    · unfold refM
      simp only
      have hn : Wd (numM maxN (nextM st).2).2 := by unfold Wd; rw [num_g]; exact h1
      split
      · exact hn
      split
      · unfold Wd; rw [fail_g]; exact hn
      · exact hn
    split
    · unfold Wd; rw [fail_g]; exact h1
    · rename_i h2 h3
      have hg : ¬ 500 ≤ (nextM st).2.g.length := fun h => h3 (.inl h)
      have bo := open_bd (x := (nextM st).1) b1 hg
      have ho : Wd (openM (nextM st).1 (nextM st).2) := by
        intro c hc
        rcases List.mem_append.1 (show c ∈ (nextM st).2.g ++ [nilC] from hc) with hc | hc
        · exact h1 c hc
        · obtain rfl := List.mem_singleton.1 hc
          exact ⟨Nat.zero_le _, Nat.zero_le _⟩
      obtain ⟨w1, w2⟩ := inner_wd (cell_takes n) ih (nextM st).1 (openM (nextM st).1 (nextM st).2) bo ho
      intro c hc
      rcases List.mem_or_eq_of_mem_set (show c ∈ (innerM (cellM n) (nextM st).1 (openM (nextM st).1 (nextM st).2)).2.g.set (nextM st).2.g.length (innerM (cellM n) (nextM st).1 (openM (nextM st).1 (nextM st).2)).1 from hc) with hc | hc
      · exact w2 c hc
      · rw [hc]; exact w1
end Go.Marshal

/-
  AX, thirty-eighth text: []byte of a constant: the row is marked behind its cells.
-/
namespace Go.AX
open Go.RowKit

theorem run_convert_own {P : Program} (w : World) (t e : TypeId) (b : Nat) (arr : Array Value) (fr : Nat × Nat) (n c : Nat) (hb : w.heap[b]? = some (.cells arr e fr)) (ht : P.underlying t = some (.slice e)) (he : P.underlying e = some (.int .u8)) :
    (convert t t (.slice (some ⟨b, 0, none⟩) n c)).run P w = .ok (.slice (some ⟨b, 0, none⟩) n c) (w.freeze ⟨b, arr.size, none⟩ 1) := by
  have hsh : w.shape? b = some (e, arr.size) := by
    unfold World.shape?
    rw [hb]
  simp [convert, run_underlying ht, run_underlying he, markStringish, hsh]
theorem EffW.constB {P : Program} {o : Oper} {s : List AV} {H : List Ent} {K : AV → List Ent → Prop} {t e : TypeId} {x : Operand} {b n c : Nat} {xs : List Value} (i : Nat) (ho : o.op = .convert t t x) (ht : P.underlying t = some (.slice e)) (he : P.underlying e = some (.int .u8))
    (hx : opv s x = .c (.v (.slice (some ⟨b, 0, none⟩) n c))) (hi : nthE H i = some (.app e 1 xs (some ⟨b, 0, none⟩) n c)) (hk : K (.c (.v (.slice (some ⟨b, 0, none⟩) n c))) H) : EffW P o s H K := by
  intro ρ S w ac hsat hr
  have hxr := opv_rel hr x
  rw [hx] at hxr
  have hxe : ac.eval x = .slice (some ⟨b, 0, none⟩) n c := hxr
  rw [nthE_eq] at hi
  have hilt : i < H.length := (List.getElem?_eq_some_iff.1 hi).1
  have hset : H.set i (.app e 1 xs (some ⟨b, 0, none⟩) n c) = H := by
    apply List.ext_getElem?
    intro j
    by_cases hj : i = j
    · subst hj
      rw [List.getElem?_set_self hilt, hi]
    · rw [List.getElem?_set_ne hj]
  rcases hsat.ent i _ hi with ⟨h0, _⟩ | ⟨b', hb', hrow⟩
  · cases h0
  · obtain rfl : b = b' := by
      injection hb' with h1
      injection h1
    obtain ⟨arr, fr, ⟨hb, hfr⟩, h1, h2, h3, h4, h5⟩ := hrow
    have hrun := run_convert_own w t e b arr fr n c hb ht he
    have hbl : b < w.heap.size := (Array.getElem?_eq_some_iff.1 hb).1
    have hb2 : (w.freeze ⟨b, arr.size, none⟩ 1).heap[b]? = some (.cells arr e (if fr.1 == fr.2 then (arr.size, arr.size + 1) else (min fr.1 arr.size, max fr.2 (arr.size + 1)))) := by
      simp [World.freeze, Array.getElem?_modify, hb]
    have hS := hsat.setG (e' := .app e 1 xs (some ⟨b, 0, none⟩) n c) (c := b) (w' := w.freeze ⟨b, arr.size, none⟩ 1) hi rfl (by simp [World.freeze]) (fun k _ hne => by simp [World.freeze, Array.getElem?_modify, Ne.symm hne]) rfl rfl rfl (fun c hc => .inl (Option.some.inj hc).symm)
      (.inr ⟨b, rfl, arr, _, ⟨hb2, by
        split
        · exact .inr (Nat.le_refl _)
        · rename_i hne
          rcases hfr with h | h
          · simp [h] at hne
          · exact .inr (by show arr.size ≤ min fr.1 arr.size; omega)⟩, h1, h2, h3, h4, h5⟩)
    rw [hset] at hS
    refine ⟨_, _, hk, _, _, _, _, ?_, .inl rfl, hS.1, hS.2, rfl⟩
    unfold execOp
    simp only [ho, hxe, Sem.run_bind, hrun, Result.andThen_ok, Sem.run_pure]
end Go.AX

/-
  Contracts: the whole bytes are read (program).
-/
namespace Go.Proofs.YtgogonnnojcioaaGreatDoor
open Go.AX Go.RowKit Go.Core Go.Marshal
set_option maxRecDepth 20000

theorem checkW (a : Option Addr) (ca : Nat) (l : List CellP) (ha : a = none → l = []) (hs : l.length ≤ 2000 ∧ ∀ p ∈ l, p.c.names.length ≤ 40000 ∧ p.c.items.length ≤ 40000) (hok : ∀ p ∈ l, CellOk p) (b : Bool) (hb : b = true ↔ ValidP (l.map (·.c))) :
    ∀ H, (∀ w, Facts H w → GrF a l w) → SpecH Tryz.prog 65 (pvs [.slice a l.length ca]) H (Ret (errI b) H) := by
  intro H hH
  obtain ⟨b2, hb2, h⟩ := Check_w a ca l ha hs hok H hH
  have e : b2 = b := by rw [Bool.eq_iff_iff, hb, hb2]
  rw [← e]
  exact h
def P0 : RdP := ⟨[], none, 0, none, 0, none, 0⟩
/-- What is known of a reader that has read. -/
def RdR (st : PS) (v : Value) (G : World → Prop) : Prop := ∃ (rb : Nat) (p : RdP), v = .tuple #[.pointer (some ⟨rb, 0, none⟩), .int .i64 st.e] ∧ RdOk st p ∧ ∀ w, G w → SlAt (some ⟨rb, 0, none⟩) 5 (rdC st p) w ∧ SlAt p.ga (p.m.length * 5) (grC p.m) w ∧ (∀ q ∈ p.m, CellF q w) ∧ SlAt p.sa (st.ss.length * 1) (strC st.ss) w
set_option maxHeartbeats 4000000 in
theorem read_c (s : List UInt8) (hs : s.length ≤ 20000) : SpecF Tryz.prog 41 [.string (bs s)] (fun w => ∀ q ∈ ([] : List CellP), CellF q w) (RdR (readM s)) := by
  refine specF_of ?_
  refine SpecH.pad [.app 57 5 [] none 0 0, .app 3 1 [] none 0 0, .app 9 1 [] none 0 0] rfl ?_
  refine spec_of_exec hm Tryz.func41 (by kernel_rfl) rfl rfl ?_
  have hsz := bs_size s
  (first | refine wXB ?_ | exact wZB)
  refine brd_dec (fun h => absurd h (by rw [hsz]; omega)) (fun _ => ?_)
  (first | refine wXB ?_ | exact wZB)
  refine BoxN.known [.string (bs s), .slice none 0 0, .slice none 0 0, .slice none 0 0, .int .i64 0] rfl fun rb => ?_
  ((conv => whnf); (repeat ((first | refine VrN.norm (wrap_i64 (by omega)) ?_ | refine VrN.keep ?_ | refine DrawN.calm (by decide +kernel) ?_ | refine Nd.mk (by decide +kernel) ?_ | refine Nd.mk (by omega) ?_ | (refine Nd.mk ?_ ?_; focus ((repeat' (first | exact trivial | exact wkE_refl _ | refine And.intro ?_ ?_)); done)) | refine RdN.intro _ rfl (by rfl) ?_); (conv => whnf))))
  refine RwN.known [.int .u8 67, .int .u8 77, .int .u8 1] rfl fun hb => ?_
  ((conv => whnf); (repeat ((first | refine VrN.norm (wrap_i64 (by omega)) ?_ | refine VrN.keep ?_ | refine DrawN.calm (by decide +kernel) ?_ | refine Nd.mk (by decide +kernel) ?_ | refine Nd.mk (by omega) ?_ | (refine Nd.mk ?_ ?_; focus ((repeat' (first | exact trivial | exact wkE_refl _ | refine And.intro ?_ ?_)); done)) | refine RdN.intro _ rfl (by rfl) ?_); (conv => whnf))))
  refine EffW.constB 5 rfl Tryz.underlying29 Tryz.underlying5 rfl rfl ?_
  obtain ⟨S0, hS0⟩ : ∃ S0, headM headB ⟨s, [], [], [], 0⟩ = S0 := ⟨_, rfl⟩
  have ok0 : RdOk ⟨s, [], [], [], 0⟩ P0 := ⟨rfl, (fun q hq => by cases hq), fun _ => rfl, fun _ => rfl, fun _ => rfl, (fun t ht => by cases ht), .inl rfl⟩
  have bd0 : Bd ⟨s, [], [], [], 0⟩ := ⟨Nat.zero_le _, Nat.le_refl _, by show 0 + s.length ≤ _; omega⟩
  ((conv => whnf); (repeat ((first | refine VrN.norm (wrap_i64 (by omega)) ?_ | refine VrN.keep ?_ | refine DrawN.calm (by decide +kernel) ?_ | refine Nd.mk (by decide +kernel) ?_ | refine Nd.mk (by omega) ?_ | (refine Nd.mk ?_ ?_; focus ((repeat' (first | exact trivial | exact wkE_refl _ | refine And.intro ?_ ?_)); done)) | refine RdN.intro _ rfl (by rfl) ?_); (conv => whnf))))
  refine LoopN.intro (Nat × PS) (fun ⟨i, st⟩ => i ≤ 3 ∧ headM (headB.drop i) st = S0 ∧ RdOk st P0 ∧ Le 0 ⟨s, [], [], [], 0⟩ st)
    (fun ⟨i, _⟩ => mkS Tryz.f41.ntmps 0 [(4, .c (.v (.pointer (some ⟨rb, 0, none⟩)))), (14, .c (.v (.slice (some ⟨hb, 0, none⟩) 3 3))), (15, .c (.v (.int .i64 3))), (16, .c (.v (.int .i64 (i : Int))))])
    (fun ⟨_, st⟩ => [.fact fun w => ∀ q ∈ ([] : List CellP), CellF q w, .app 57 5 [] none 0 0, .app 3 1 (iC st.cells) none st.cells.length 0, .app 9 1 (strC st.ss) none st.ss.length 0, .app 84 5 (rdC st P0) (some ⟨rb, 0, none⟩) 1 1, .app 5 1 [.int .u8 67, .int .u8 77, .int .u8 1] (some ⟨hb, 0, none⟩) 3 3]) (fun ⟨i, _⟩ => 3 - i) [] rfl
    (fun _ => rfl) (fun _ => rfl) (fun _ _ => okHB_eq rfl) ⟨(0, ⟨s, [], [], [], 0⟩), ⟨by omega, hS0, ok0, Le.refl _⟩, ?_, ?_⟩ ?_
  · (repeat' (first | exact trivial | refine And.intro (by with_reducible rfl) ?_ | (with_reducible exact wkC_refl _) | (with_reducible exact wkCs_refl _) | refine And.intro ?_ ?_))
    all_goals rfl
  · exact ⟨wkE_refl _, wkE_refl _, wkE_refl _, wkE_refl _, wkE_refl _, wkE_refl _, wkH_nil _⟩
  rintro ⟨i, st⟩ ⟨h1, h2, h3, h4⟩
  ((conv => whnf); (repeat ((first | refine VrN.norm (wrap_i64 (by omega)) ?_ | refine VrN.keep ?_ | refine DrawN.calm (by decide +kernel) ?_ | refine Nd.mk (by decide +kernel) ?_ | refine Nd.mk (by omega) ?_ | (refine Nd.mk ?_ ?_; focus ((repeat' (first | exact trivial | exact wkE_refl _ | refine And.intro ?_ ?_)); done)) | refine RdN.intro _ rfl (by rfl) ?_); (conv => whnf))))
  refine brd_dec (fun hi => ?_) (fun hi => ?_)
  · obtain ⟨c, hc⟩ : ∃ c, headB[i]? = some c := ⟨_, List.getElem?_eq_getElem (by show i < 3; omega)⟩
    have hd : headB.drop i = c :: headB.drop (i + 1) := by
      obtain ⟨h5, h6⟩ := List.getElem?_eq_some_iff.1 hc
      rw [← h6, List.getElem_cons_drop]
    rw [hd] at h2
    have h2 : headM (headB.drop (i + 1)) (if (nextM st).1 ≠ c then failM (nextM st).2 4 else (nextM st).2) = S0 := h2
    have hcv : ([.int .u8 67, .int .u8 77, .int .u8 1] : List Value)[i]? = some (.int .u8 (c.toNat : Int)) := by
      rcases i with _ | _ | _ | i
      · cases hc; rfl
      · cases hc; rfl
      · cases hc; rfl
      · cases hc
    have hnx := next_m rb st P0
    have hln := h4.trans (next_le st)
    have okn := h3.same (next_keep st)
    generalize nextM st = r at h2 hnx hln okn ⊢
    obtain ⟨x, st2⟩ := r
    simp only at h2 hnx hln okn
    ((conv => whnf); (repeat ((first | refine VrN.norm (wrap_i64 (by omega)) ?_ | refine VrN.keep ?_ | refine DrawN.calm (by decide +kernel) ?_ | refine Nd.mk (by decide +kernel) ?_ | refine Nd.mk (by omega) ?_ | (refine Nd.mk ?_ ?_; focus ((repeat' (first | exact trivial | exact wkE_refl _ | refine And.intro ?_ ?_)); done)) | refine RdN.intro _ rfl (by rfl) ?_); (conv => whnf))))
    refine Nd.mk ⟨rfl, by omega, by omega⟩ ?_
    ((conv => whnf); (repeat ((first | refine VrN.norm (wrap_i64 (by omega)) ?_ | refine VrN.keep ?_ | refine DrawN.calm (by decide +kernel) ?_ | refine Nd.mk (by decide +kernel) ?_ | refine Nd.mk (by omega) ?_ | (refine Nd.mk ?_ ?_; focus ((repeat' (first | exact trivial | exact wkE_refl _ | refine And.intro ?_ ?_)); done)) | refine RdN.intro _ rfl (by rfl) ?_); (conv => whnf))))
    refine LdN.one (.int .u8 (c.toNat : Int)) rfl (fun w hw => hw.2.2.2.2.2.1) (by show ([.int .u8 67, .int .u8 77, .int .u8 1] : List Value)[Int.toNat _ * 1]? = _; rw [Int.toNat_natCast, Nat.mul_one]; exact hcv) ?_
    ((conv => whnf); (repeat ((first | refine VrN.norm (wrap_i64 (by omega)) ?_ | refine VrN.keep ?_ | refine DrawN.calm (by decide +kernel) ?_ | refine Nd.mk (by decide +kernel) ?_ | refine Nd.mk (by omega) ?_ | (refine Nd.mk ?_ ?_; focus ((repeat' (first | exact trivial | exact wkE_refl _ | refine And.intro ?_ ?_)); done)) | refine RdN.intro _ rfl (by rfl) ?_); (conv => whnf))))
    -- the contract hnx is called
    refine callG (hnx) [4, 1, 0, 2, 3] rfl ⟨rfl, rfl, rfl, rfl, rfl, trivial⟩ rfl fun _ _ => ?_
    ((conv => whnf); (repeat ((first | refine VrN.norm (wrap_i64 (by omega)) ?_ | refine VrN.keep ?_ | refine DrawN.calm (by decide +kernel) ?_ | refine Nd.mk (by decide +kernel) ?_ | refine Nd.mk (by omega) ?_ | (refine Nd.mk ?_ ?_; focus ((repeat' (first | exact trivial | exact wkE_refl _ | refine And.intro ?_ ?_)); done)) | refine RdN.intro _ rfl (by rfl) ?_); (conv => whnf))))
    refine brd_ne (fun h7 => ?_) (fun h7 => ?_)
    · have hxc : x ≠ c := fun h => h7 (by rw [h])
      rw [if_pos hxc] at h2
      ((conv => whnf); (repeat ((first | refine VrN.norm (wrap_i64 (by omega)) ?_ | refine VrN.keep ?_ | refine DrawN.calm (by decide +kernel) ?_ | refine Nd.mk (by decide +kernel) ?_ | refine Nd.mk (by omega) ?_ | (refine Nd.mk ?_ ?_; focus ((repeat' (first | exact trivial | exact wkE_refl _ | refine And.intro ?_ ?_)); done)) | refine RdN.intro _ rfl (by rfl) ?_); (conv => whnf))))
      -- the contract fail_m rb st2 P0 4 is called
      refine callG (fail_m rb st2 P0 4) [4, 1, 0, 2, 3] rfl ⟨rfl, rfl, rfl, rfl, rfl, trivial⟩ rfl fun _ _ => ?_
      ((conv => whnf); (repeat ((first | refine VrN.norm (wrap_i64 (by omega)) ?_ | refine VrN.keep ?_ | refine DrawN.calm (by decide +kernel) ?_ | refine Nd.mk (by decide +kernel) ?_ | refine Nd.mk (by omega) ?_ | (refine Nd.mk ?_ ?_; focus ((repeat' (first | exact trivial | exact wkE_refl _ | refine And.intro ?_ ?_)); done)) | refine RdN.intro _ rfl (by rfl) ?_); (conv => whnf))))
      refine ⟨(i + 1, failM st2 4), ⟨by omega, h2, okn.same (fail_ss st2 4), hln.trans (fail_le st2 4)⟩, by show 3 - (i + 1) < 3 - i; omega, ?_, wkE_refl _, wkE_refl _, wkE_refl _, wkE_refl _, wkE_refl _, wkE_refl _, wkH_nil _⟩
      (repeat' (first | exact trivial | refine And.intro (by with_reducible rfl) ?_ | (with_reducible exact wkC_refl _) | (with_reducible exact wkCs_refl _) | refine And.intro ?_ ?_))
      all_goals first | rfl | exact av_int (by first | omega | (rw [wrap_i64 (by omega)]; omega))
    · have hxc : x = c := UInt8.toNat_inj.1 (by omega)
      rw [if_neg (fun h => h hxc)] at h2
      ((conv => whnf); (repeat ((first | refine VrN.norm (wrap_i64 (by omega)) ?_ | refine VrN.keep ?_ | refine DrawN.calm (by decide +kernel) ?_ | refine Nd.mk (by decide +kernel) ?_ | refine Nd.mk (by omega) ?_ | (refine Nd.mk ?_ ?_; focus ((repeat' (first | exact trivial | exact wkE_refl _ | refine And.intro ?_ ?_)); done)) | refine RdN.intro _ rfl (by rfl) ?_); (conv => whnf))))
      refine ⟨(i + 1, st2), ⟨by omega, h2, okn, hln⟩, by show 3 - (i + 1) < 3 - i; omega, ?_, wkE_refl _, wkE_refl _, wkE_refl _, wkE_refl _, wkE_refl _, wkE_refl _, wkH_nil _⟩
      (repeat' (first | exact trivial | refine And.intro (by with_reducible rfl) ?_ | (with_reducible exact wkC_refl _) | (with_reducible exact wkCs_refl _) | refine And.intro ?_ ?_))
      all_goals first | rfl | exact av_int (by first | omega | (rw [wrap_i64 (by omega)]; omega))
  · obtain rfl : i = 3 := by omega
    have h2 : st = S0 := h2
    subst h2
    have hR : readM s = checkM (endM (cellM (s.length + 1) st).2) := by unfold readM; rw [hS0]
    rw [hR]
    have hs4 : st.s.length ≤ s.length := h4.s
    have bd4 := bd0.le h4
    have hce := cell_rd (s.length + 1) rb st P0 h3 bd4 (.inl (by omega))
    have hwd := cell_wd (s.length + 1) st bd4 (by unfold Wd; rw [← h3.g]; intro c hc; cases hc)
    have bd5 := bd4.le ((cell_takes (s.length + 1)).le st)
    generalize cellM (s.length + 1) st = r at hce hwd bd5 ⊢
    obtain ⟨z, st1⟩ := r
    simp only at hce hwd bd5
    ((conv => whnf); (repeat ((first | refine VrN.norm (wrap_i64 (by omega)) ?_ | refine VrN.keep ?_ | refine DrawN.calm (by decide +kernel) ?_ | refine Nd.mk (by decide +kernel) ?_ | refine Nd.mk (by omega) ?_ | (refine Nd.mk ?_ ?_; focus ((repeat' (first | exact trivial | exact wkE_refl _ | refine And.intro ?_ ?_)); done)) | refine RdN.intro _ rfl (by rfl) ?_); (conv => whnf))))
    refine callG hce [4, 1, 0, 2, 3] rfl ⟨rfl, rfl, rfl, rfl, rfl, trivial⟩ rfl fun p hp => ?_
    ((conv => whnf); (repeat ((first | refine VrN.norm (wrap_i64 (by omega)) ?_ | refine VrN.keep ?_ | refine DrawN.calm (by decide +kernel) ?_ | refine Nd.mk (by decide +kernel) ?_ | refine Nd.mk (by omega) ?_ | (refine Nd.mk ?_ ?_; focus ((repeat' (first | exact trivial | exact wkE_refl _ | refine And.intro ?_ ?_)); done)) | refine RdN.intro _ rfl (by rfl) ?_); (conv => whnf))))
    -- 4: the field, .int .i64 st1.e: its value
    refine LdN.one (a := some ⟨rb, 0, none⟩) (q := 4) (.int .i64 st1.e) rfl (fun w hw => hw.2.2.2.2.1) rfl ?_
    ((conv => whnf); (repeat ((first | refine VrN.norm (wrap_i64 (by omega)) ?_ | refine VrN.keep ?_ | refine DrawN.calm (by decide +kernel) ?_ | refine Nd.mk (by decide +kernel) ?_ | refine Nd.mk (by omega) ?_ | (refine Nd.mk ?_ ?_; focus ((repeat' (first | exact trivial | exact wkE_refl _ | refine And.intro ?_ ?_)); done)) | refine RdN.intro _ rfl (by rfl) ?_); (conv => whnf))))
    by_cases he : st1.e = 0
    · rw [show (st1.e == 0) = true by rw [he]; rfl]
      ((conv => whnf); (repeat ((first | refine VrN.norm (wrap_i64 (by omega)) ?_ | refine VrN.keep ?_ | refine DrawN.calm (by decide +kernel) ?_ | refine Nd.mk (by decide +kernel) ?_ | refine Nd.mk (by omega) ?_ | (refine Nd.mk ?_ ?_; focus ((repeat' (first | exact trivial | exact wkE_refl _ | refine And.intro ?_ ?_)); done)) | refine RdN.intro _ rfl (by rfl) ?_); (conv => whnf))))
      -- 0: the field, .string (bs st1.s): its value
      refine LdN.one (a := some ⟨rb, 0, none⟩) (q := 0) (.string (bs st1.s)) rfl (fun w hw => hw.2.2.2.2.1) rfl ?_
      ((conv => whnf); (repeat ((first | refine VrN.norm (wrap_i64 (by omega)) ?_ | refine VrN.keep ?_ | refine DrawN.calm (by decide +kernel) ?_ | refine Nd.mk (by decide +kernel) ?_ | refine Nd.mk (by omega) ?_ | (refine Nd.mk ?_ ?_; focus ((repeat' (first | exact trivial | exact wkE_refl _ | refine And.intro ?_ ?_)); done)) | refine RdN.intro _ rfl (by rfl) ?_); (conv => whnf))))
      have hsn : ((bs st1.s).data.toList == (⟨#[]⟩ : ByteArray).data.toList) = decide (st1.s = []) := by rw [bs_list]; cases st1.s <;> rfl
      rw [hsn]
      by_cases hs1 : st1.s = []
      · rw [decide_eq_true hs1]
        have e1 : endM st1 = st1 := by
          unfold endM
          rw [if_neg (fun h => h.2 hs1)]
        have hml : p.m.length = st1.g.length := by rw [← hp.g, List.length_map]
        have hgl := bd5.g
        obtain ⟨b, hb⟩ : ∃ b : Bool, b = true ↔ ValidP (p.m.map (·.c)) := by
          by_cases h : ValidP (p.m.map (·.c))
          · exact ⟨true, fun _ => h, fun _ => rfl⟩
          · exact ⟨false, (fun h => by cases h), fun h2 => absurd h2 h⟩
        have e2 : checkM st1 = { st1 with e := if b then 0 else 1 } := by
          unfold checkM
          rw [if_pos he]
          congr 1
          rw [← hp.g]
          cases b with
          | true => rw [if_pos (hb.1 rfl)]; rfl
          | false => rw [if_neg (fun h => by have := hb.2 h; cases this)]; rfl
        have hwm : ∀ q ∈ p.m, q.c.names.length ≤ 40000 ∧ q.c.items.length ≤ 40000 := fun q hq => by
          have := hwd q.c (by rw [← hp.g]; exact List.mem_map.2 ⟨q, hq, rfl⟩)
          exact ⟨Nat.le_trans this.1 (by decide), Nat.le_trans this.2 (by decide)⟩
        rw [show (z, st1).2 = st1 from rfl, e1, e2]
        ((conv => whnf); (repeat ((first | refine VrN.norm (wrap_i64 (by omega)) ?_ | refine VrN.keep ?_ | refine DrawN.calm (by decide +kernel) ?_ | refine Nd.mk (by decide +kernel) ?_ | refine Nd.mk (by omega) ?_ | (refine Nd.mk ?_ ?_; focus ((repeat' (first | exact trivial | exact wkE_refl _ | refine And.intro ?_ ?_)); done)) | refine RdN.intro _ rfl (by rfl) ?_); (conv => whnf))))
        -- 4: the field, .int .i64 st1.e: its value
        refine LdN.one (a := some ⟨rb, 0, none⟩) (q := 4) (.int .i64 st1.e) rfl (fun w hw => hw.2.2.2.2.1) rfl ?_
        rw [he]
        ((conv => whnf); (repeat ((first | refine VrN.norm (wrap_i64 (by omega)) ?_ | refine VrN.keep ?_ | refine DrawN.calm (by decide +kernel) ?_ | refine Nd.mk (by decide +kernel) ?_ | refine Nd.mk (by omega) ?_ | (refine Nd.mk ?_ ?_; focus ((repeat' (first | exact trivial | exact wkE_refl _ | refine And.intro ?_ ?_)); done)) | refine RdN.intro _ rfl (by rfl) ?_); (conv => whnf))))
        -- 1: the field, .slice p.ga p.m.length p.gc: its value
        refine LdN.one (a := some ⟨rb, 0, none⟩) (q := 1) (.slice p.ga p.m.length p.gc) rfl (fun w hw => hw.2.2.2.2.1) rfl ?_
        ((conv => whnf); (repeat ((first | refine VrN.norm (wrap_i64 (by omega)) ?_ | refine VrN.keep ?_ | refine DrawN.calm (by decide +kernel) ?_ | refine Nd.mk (by decide +kernel) ?_ | refine Nd.mk (by omega) ?_ | (refine Nd.mk ?_ ?_; focus ((repeat' (first | exact trivial | exact wkE_refl _ | refine And.intro ?_ ?_)); done)) | refine RdN.intro _ rfl (by rfl) ?_); (conv => whnf))))
        refine call1 (checkW p.ga p.gc p.m hp.ga ⟨by omega, hwm⟩ hp.cell b hb _ (fun w hw => ⟨hw.2.1, hw.1⟩)) ?_
        ((conv => whnf); (repeat ((first | refine VrN.norm (wrap_i64 (by omega)) ?_ | refine VrN.keep ?_ | refine DrawN.calm (by decide +kernel) ?_ | refine Nd.mk (by decide +kernel) ?_ | refine Nd.mk (by omega) ?_ | (refine Nd.mk ?_ ?_; focus ((repeat' (first | exact trivial | exact wkE_refl _ | refine And.intro ?_ ?_)); done)) | refine RdN.intro _ rfl (by rfl) ?_); (conv => whnf))))
        -- the reader's cells are now those of { st1 with e := if b then 0 else 1 }
        refine EffW.appTo (i := 4) (q := 4) (ys := [_]) (rdC ({ st1 with e := if b then 0 else 1 }) p) 5 rfl rfl rfl rfl rfl rfl rfl (Nat.le_of_ble_eq_true rfl) rfl rfl ?_
        ((conv => whnf); (repeat ((first | refine VrN.norm (wrap_i64 (by omega)) ?_ | refine VrN.keep ?_ | refine DrawN.calm (by decide +kernel) ?_ | refine Nd.mk (by decide +kernel) ?_ | refine Nd.mk (by omega) ?_ | (refine Nd.mk ?_ ?_; focus ((repeat' (first | exact trivial | exact wkE_refl _ | refine And.intro ?_ ?_)); done)) | refine RdN.intro _ rfl (by rfl) ?_); (conv => whnf))))
        -- 4: the field, .int .i64 (if b then 0 else 1): its value
        refine LdN.one (a := some ⟨rb, 0, none⟩) (q := 4) (.int .i64 (if b then 0 else 1)) rfl (fun w hw => hw.2.2.2.2.1) rfl ?_
        ((conv => whnf); (repeat ((first | refine VrN.norm (wrap_i64 (by omega)) ?_ | refine VrN.keep ?_ | refine DrawN.calm (by decide +kernel) ?_ | refine Nd.mk (by decide +kernel) ?_ | refine Nd.mk (by omega) ?_ | (refine Nd.mk ?_ ?_; focus ((repeat' (first | exact trivial | exact wkE_refl _ | refine And.intro ?_ ?_)); done)) | refine RdN.intro _ rfl (by rfl) ?_); (conv => whnf))))
        -- the reader is { st1 with e := if b then 0 else 1 } at the end; hp.same (st' := { st1 with e := if b then 0 else 1 }) ⟨rfl, rfl, rfl⟩: what is known of its rows
        exact fin_p (fun w => SlAt (some ⟨rb, 0, none⟩) 5 (rdC ({ st1 with e := if b then 0 else 1 }) p) w ∧ SlAt p.ga (p.m.length * 5) (grC p.m) w ∧ (∀ q ∈ p.m, CellF q w) ∧ SlAt p.sa (({ st1 with e := if b then 0 else 1 }).ss.length * 1) (strC ({ st1 with e := if b then 0 else 1 }).ss) w) ⟨rb, p, rfl, hp.same (st' := { st1 with e := if b then 0 else 1 }) ⟨rfl, rfl, rfl⟩, fun w hw => hw⟩ (fun w hw => ⟨hw.2.2.2.2.1, hw.2.1, hw.1, hw.2.2.2.1⟩)
      · rw [decide_eq_false hs1]
        have e1 : endM st1 = failM st1 4 := by
          unfold endM
          rw [if_pos ⟨he, hs1⟩]
        have he4 : (failM st1 4).e = 4 := fail_e he 4
        have e2 : checkM (failM st1 4) = failM st1 4 := check_dead (by rw [he4]; decide)
        rw [show (z, st1).2 = st1 from rfl, e1, e2]
        have ok4 := hp.same (fail_ss st1 4)
        ((conv => whnf); (repeat ((first | refine VrN.norm (wrap_i64 (by omega)) ?_ | refine VrN.keep ?_ | refine DrawN.calm (by decide +kernel) ?_ | refine Nd.mk (by decide +kernel) ?_ | refine Nd.mk (by omega) ?_ | (refine Nd.mk ?_ ?_; focus ((repeat' (first | exact trivial | exact wkE_refl _ | refine And.intro ?_ ?_)); done)) | refine RdN.intro _ rfl (by rfl) ?_); (conv => whnf))))
        -- the contract fail_m rb st1 p 4 is called
        refine callG (fail_m rb st1 p 4) [4, 1, 0, 2, 3] rfl ⟨rfl, rfl, rfl, rfl, rfl, trivial⟩ rfl fun _ _ => ?_
        generalize failM st1 4 = st4 at he4 ok4 ⊢
        ((conv => whnf); (repeat ((first | refine VrN.norm (wrap_i64 (by omega)) ?_ | refine VrN.keep ?_ | refine DrawN.calm (by decide +kernel) ?_ | refine Nd.mk (by decide +kernel) ?_ | refine Nd.mk (by omega) ?_ | (refine Nd.mk ?_ ?_; focus ((repeat' (first | exact trivial | exact wkE_refl _ | refine And.intro ?_ ?_)); done)) | refine RdN.intro _ rfl (by rfl) ?_); (conv => whnf))))
        -- 4: the field, .int .i64 st4.e: its value
        refine LdN.one (a := some ⟨rb, 0, none⟩) (q := 4) (.int .i64 st4.e) rfl (fun w hw => hw.2.2.2.2.1) rfl ?_
        rw [he4]
        ((conv => whnf); (repeat ((first | refine VrN.norm (wrap_i64 (by omega)) ?_ | refine VrN.keep ?_ | refine DrawN.calm (by decide +kernel) ?_ | refine Nd.mk (by decide +kernel) ?_ | refine Nd.mk (by omega) ?_ | (refine Nd.mk ?_ ?_; focus ((repeat' (first | exact trivial | exact wkE_refl _ | refine And.intro ?_ ?_)); done)) | refine RdN.intro _ rfl (by rfl) ?_); (conv => whnf))))
        -- 4: the field, .int .i64 st4.e: its value
        refine LdN.one (a := some ⟨rb, 0, none⟩) (q := 4) (.int .i64 st4.e) rfl (fun w hw => hw.2.2.2.2.1) rfl ?_
        ((conv => whnf); (repeat ((first | refine VrN.norm (wrap_i64 (by omega)) ?_ | refine VrN.keep ?_ | refine DrawN.calm (by decide +kernel) ?_ | refine Nd.mk (by decide +kernel) ?_ | refine Nd.mk (by omega) ?_ | (refine Nd.mk ?_ ?_; focus ((repeat' (first | exact trivial | exact wkE_refl _ | refine And.intro ?_ ?_)); done)) | refine RdN.intro _ rfl (by rfl) ?_); (conv => whnf))))
        -- the reader is st4 at the end; ok4: what is known of its rows
        exact fin_p (fun w => SlAt (some ⟨rb, 0, none⟩) 5 (rdC (st4) p) w ∧ SlAt p.ga (p.m.length * 5) (grC p.m) w ∧ (∀ q ∈ p.m, CellF q w) ∧ SlAt p.sa ((st4).ss.length * 1) (strC (st4).ss) w) ⟨rb, p, rfl, ok4, fun w hw => hw⟩ (fun w hw => ⟨hw.2.2.2.2.1, hw.2.1, hw.1, hw.2.2.2.1⟩)
    · have e1 : checkM (endM st1) = st1 := by rw [end_dead he, check_dead he]
      rw [e1]
      rw [show (st1.e == 0) = false by simpa using he]
      ((conv => whnf); (repeat ((first | refine VrN.norm (wrap_i64 (by omega)) ?_ | refine VrN.keep ?_ | refine DrawN.calm (by decide +kernel) ?_ | refine Nd.mk (by decide +kernel) ?_ | refine Nd.mk (by omega) ?_ | (refine Nd.mk ?_ ?_; focus ((repeat' (first | exact trivial | exact wkE_refl _ | refine And.intro ?_ ?_)); done)) | refine RdN.intro _ rfl (by rfl) ?_); (conv => whnf))))
      -- 4: the field, .int .i64 st1.e: its value
      refine LdN.one (a := some ⟨rb, 0, none⟩) (q := 4) (.int .i64 st1.e) rfl (fun w hw => hw.2.2.2.2.1) rfl ?_
      ((conv => whnf); (repeat ((first | refine VrN.norm (wrap_i64 (by omega)) ?_ | refine VrN.keep ?_ | refine DrawN.calm (by decide +kernel) ?_ | refine Nd.mk (by decide +kernel) ?_ | refine Nd.mk (by omega) ?_ | (refine Nd.mk ?_ ?_; focus ((repeat' (first | exact trivial | exact wkE_refl _ | refine And.intro ?_ ?_)); done)) | refine RdN.intro _ rfl (by rfl) ?_); (conv => whnf))))
      refine brd_eq (fun h => absurd h he) (fun _ => ?_)
      ((conv => whnf); (repeat ((first | refine VrN.norm (wrap_i64 (by omega)) ?_ | refine VrN.keep ?_ | refine DrawN.calm (by decide +kernel) ?_ | refine Nd.mk (by decide +kernel) ?_ | refine Nd.mk (by omega) ?_ | (refine Nd.mk ?_ ?_; focus ((repeat' (first | exact trivial | exact wkE_refl _ | refine And.intro ?_ ?_)); done)) | refine RdN.intro _ rfl (by rfl) ?_); (conv => whnf))))
      -- 4: the field, .int .i64 st1.e: its value
      refine LdN.one (a := some ⟨rb, 0, none⟩) (q := 4) (.int .i64 st1.e) rfl (fun w hw => hw.2.2.2.2.1) rfl ?_
      ((conv => whnf); (repeat ((first | refine VrN.norm (wrap_i64 (by omega)) ?_ | refine VrN.keep ?_ | refine DrawN.calm (by decide +kernel) ?_ | refine Nd.mk (by decide +kernel) ?_ | refine Nd.mk (by omega) ?_ | (refine Nd.mk ?_ ?_; focus ((repeat' (first | exact trivial | exact wkE_refl _ | refine And.intro ?_ ?_)); done)) | refine RdN.intro _ rfl (by rfl) ?_); (conv => whnf))))
      -- the reader is st1 at the end; hp: what is known of its rows
      exact fin_p (fun w => SlAt (some ⟨rb, 0, none⟩) 5 (rdC (st1) p) w ∧ SlAt p.ga (p.m.length * 5) (grC p.m) w ∧ (∀ q ∈ p.m, CellF q w) ∧ SlAt p.sa ((st1).ss.length * 1) (strC (st1).ss) w) ⟨rb, p, rfl, hp, fun w hw => hw⟩ (fun w hw => ⟨hw.2.2.2.2.1, hw.2.1, hw.1, hw.2.2.2.1⟩)
end Go.Proofs.YtgogonnnojcioaaGreatDoor

/-
  Contracts: Load, Check, Symbols (program).
-/
namespace Go.Proofs.YtgogonnnojcioaaGreatDoor
open Go.AX Go.RowKit Go.Core Go.Marshal
set_option maxRecDepth 20000

theorem read_long (s : List UInt8) (hs : 20000 < s.length) : ∀ H, SpecH Tryz.prog 41 (pvs [.string (bs s)]) H (Ret (.tuple #[.pointer none, .int .i64 2]) H) := by
  refine pureC hm Tryz.func41 (by kernel_rfl) rfl rfl ?_
  have hsz := bs_size s
  (first | refine wX ?_ | exact wZ)
  refine brd_dec (fun h => ?_) (fun h => absurd (show (s.length : Int) > 20000 by omega) (by rw [hsz] at h; exact h))
  (first | refine wX ?_ | exact wZ)
/-- The error of Load. -/
def errS (r : Except Int (List Cell × List B)) : Int := match r with
  | .error e => e
  | .ok _ => 0
theorem MCheck_c (s : List UInt8) : SpecF Tryz.prog 24 [.string (bs s)] (fun _ => True) (fun v _ => v = .int .i64 (errS (loadS s))) := by
  refine specF hm Tryz.func24 (by kernel_rfl) rfl rfl ?_
  by_cases hs : 20000 < s.length
  · have hl : loadS s = .error 2 := by unfold loadS; rw [if_pos hs]
    rw [hl]
    (first | refine wX ?_ | exact wZ)
    refine call1 (read_long s hs _) ?_
    (first | refine wX ?_ | exact wZ)
    exact fin_v rfl
  · have href := load_ref (s := s) (by omega)
    ((conv => whnf); (repeat ((first | refine VrN.keep ?_ | refine BoxN.own ?_ | refine RwN.own ?_); (conv => whnf))))
    refine SpecF.call (read_c s (by omega)) (fun w _ q hq => by cases hq) fun v G hR => ?_
    obtain ⟨rb, p, rfl, ok, hG⟩ := hR
    generalize readM s = st at href ok hG ⊢
    cases hl : loadS s with
    | error e =>
      obtain ⟨h1, h2⟩ := href.2 e hl
      (first | refine wX ?_ | exact wZ)
      rw [h1]
      exact fin_v rfl
    | ok r =>
      obtain ⟨h1, h2, h3⟩ := href.1 r hl
      (first | refine wX ?_ | exact wZ)
      rw [h1]
      exact fin_v rfl
end Go.Proofs.YtgogonnnojcioaaGreatDoor

/-
  Contract: a graph of 500 cells, one of 501 forms, 20001 bytes (law).
-/
namespace Go.Proofs.YtgogonnnojcioaaGreatDoor
open Go.AX Go.RowKit Go.Core Go.Marshal
set_option maxRecDepth 20000

theorem sl_take {a : Option Addr} {k j : Nat} {xs : List Value} {w : World} (h : SlAt a k xs w) (hj : j ≤ k) : SlAt a j (xs.take j) w :=
  ⟨by rw [List.length_take, h.1]; omega, fun h0 => h.2.1 (by omega), fun i hi => by rw [h.2.2 i (by omega), List.getElem?_take, if_pos hi]⟩
theorem full_num (k : Nat) (h1 : 495 ≤ k) (h2 : k ≤ 504) : num k = [131, UInt8.ofNat (k % 128)] := by
  have h : ∀ r : Fin 10, num (495 + r.val) = [131, UInt8.ofNat ((495 + r.val) % 128)] := by decide
  have := h ⟨k - 495, by omega⟩
  rw [show 495 + (k - 495) = k by omega] at this
  exact this
set_option maxHeartbeats 4000000 in
theorem MarshalFull_c (n : Int) : ∀ H, (∀ w, Facts H w → (fun _ => True) w) → SpecH Tryz.prog 7 (pvs [.int .i64 n]) H (Ret (.bool true) H) := by
  refine factC hm Tryz.func7 (by kernel_rfl) rfl rfl ?_
  obtain ⟨k, hk1, hk2, hk⟩ : ∃ k : Nat, 495 ≤ k ∧ k ≤ 504 ∧ IntKind.i64.wrap (495 + IntKind.i64.wrap ((IntKind.u64.wrap n).tmod 10)) = (k : Int) := by
    have h0 : 0 ≤ IntKind.u64.wrap n := by rw [wrap_u64_eq]; omega
    have h1 : (IntKind.u64.wrap n).tmod 10 = (IntKind.u64.wrap n) % 10 := Int.tmod_eq_emod_of_nonneg h0
    rw [h1]
    refine ⟨495 + ((IntKind.u64.wrap n) % 10).toNat, by omega, by omega, ?_⟩
    rw [wrap_i64 (x := (IntKind.u64.wrap n) % 10) (by omega), wrap_i64 (by omega)]
    omega
  have hkd : (k : Int).tdiv 128 = 3 := by
    rw [show (k : Int).tdiv 128 = ((k / 128 : Nat) : Int) from (Int.ofNat_tdiv k 128).symm]
    omega
  have hkm : IntKind.u8.wrap ((k : Int).tmod 128) = ((UInt8.ofNat (k % 128)).toNat : Int) := by
    rw [show (k : Int).tmod 128 = ((k % 128 : Nat) : Int) from (Int.ofNat_tmod k 128).symm, ofNat_int (by omega), wrap_u8 (by omega)]
  have hfn := full_num k hk1 hk2
  have hfull := load_full (k := k) (by omega) (by omega)
  ((conv => whnf); (repeat ((first | refine BoxN.own ?_ | refine VrN.norm (wrap_i64 (by omega)) ?_ | refine VrN.keep ?_ | refine DrawN.calm (by decide +kernel) ?_ | refine Nd.mk (by decide +kernel) ?_ | refine Nd.mk (by omega) ?_ | (refine Nd.mk ?_ ?_; focus ((repeat' (first | exact trivial | exact wkE_refl _ | refine And.intro ?_ ?_)); done)) | refine RdN.intro _ rfl (by rfl) ?_); (conv => whnf))))
  rw [hk, hkd, hkm]
  (first | refine wX ?_ | exact wZ)
  refine ReadW.bytesOwn (i := 1) [131, UInt8.ofNat (k % 128)] rfl rfl Tryz.underlying29 Tryz.underlying5 Tryz.underlying9 rfl rfl ?_
  (first | refine wX ?_ | exact wZ)
  refine Nd.mk (by show 4 + 2 < 9223372036854775808; decide) ?_
  rw [show (⟨#[67, 77, 1, 91]⟩ : ByteArray) = bs [67, 77, 1, 91] from rfl, bs_app]
  (first | refine wX ?_ | exact wZ)
  refine LoopN.intro Nat (fun i => i ≤ k) (fun i => mkS Tryz.f7.ntmps 0 [(3, .c (.v (.int .i64 (k : Int)))), (4, .c (.v (.string (bs ([67, 77, 1, 91] ++ [131, UInt8.ofNat (k % 128)] ++ List.replicate i 48))))), (5, .c (.v (.int .i64 (i : Int))))])
    (fun _ => [.fact fun _ => True, .dead]) (fun i => k - i) [] rfl (fun _ => rfl) (fun _ => rfl) (fun _ _ => okHB_eq rfl) ⟨0, Nat.zero_le _, ?_, ?_⟩ ?_
  · (repeat' (first | exact trivial | refine And.intro (by with_reducible rfl) ?_ | (with_reducible exact wkC_refl _) | (with_reducible exact wkCs_refl _) | refine And.intro ?_ ?_))
    all_goals rfl
  · exact ⟨wkE_refl _, by (repeat' (first | exact trivial | exact wkE_refl _ | refine And.intro ?_ ?_))⟩
  intro i hi
  (first | refine wX ?_ | exact wZ)
  refine brd_dec (fun h => ?_) (fun h => ?_)
  · (first | refine wX ?_ | exact wZ)
    refine Nd.mk (by rw [bs_size]; show _ + 1 < _; simp only [List.length_append, List.length_cons, List.length_nil, List.length_replicate]; omega) ?_
    rw [show (⟨#[48]⟩ : ByteArray) = bs [48] from rfl, bs_app, show [67, 77, 1, 91] ++ [131, UInt8.ofNat (k % 128)] ++ List.replicate i 48 ++ [48] = [67, 77, 1, 91] ++ [131, UInt8.ofNat (k % 128)] ++ List.replicate (i + 1) 48 by rw [List.append_assoc _ (List.replicate i 48), ← List.replicate_succ']]
    (first | refine wX ?_ | exact wZ)
    refine ⟨i + 1, by omega, by omega, ?_, ⟨wkE_refl _, trivial, trivial⟩⟩
    (repeat' (first | exact trivial | refine And.intro (by with_reducible rfl) ?_ | (with_reducible exact wkC_refl _) | (with_reducible exact wkCs_refl _) | refine And.intro ?_ ?_))
    all_goals first | rfl | exact av_int (by rw [wrap_i64 (by omega)]; omega)
  obtain rfl : i = k := by omega
  have hbase : [67, 77, 1, 91] ++ [131, UInt8.ofNat (i % 128)] ++ List.replicate i 48 = headB ++ 91 :: (num i ++ List.replicate i 48) := by rw [hfn]; rfl
  rw [hbase]
  ((conv => whnf); (repeat ((first | refine VrN.keep ?_ | refine BoxN.own ?_ | refine RwN.own ?_); (conv => whnf))))
  refine SpecF.call (MCheck_c _) (fun w _ => trivial) fun v G hR => ?_
  subst hR
  have hZ0 : ∃ Z : List UInt8, Z = List.replicate 20001 0 := ⟨_, rfl⟩
  obtain ⟨Z, hZ⟩ := hZ0
  have hZl : Z.length = 20001 := by rw [hZ, List.length_replicate]
  have hZs : List.replicate 20001 (Value.int .u8 0) = u8s Z := by rw [hZ]; unfold u8s; rw [List.map_replicate]; rfl
  have hl1 : loadS Z = .error 2 := by unfold loadS; rw [if_pos (by omega)]
  have hl2 : loadS (Z.take 20000) = .error 4 := by
    rw [hZ, List.take_replicate, show min 20000 20001 = 19999 + 1 from rfl, List.replicate_succ]
    unfold loadS
    rw [if_neg (by rw [List.length_cons, List.length_replicate]; omega)]
    rfl
  (first | refine wX ?_ | exact wZ)
  rw [wrap_i64 (x := (i : Int) + 1) (by omega)]
  refine brd_dec (fun h5 => ?_) (fun h5 => ?_)
  · have h6 := hfull.2 (by omega)
    rw [h6, show errS (.error 4 : Except Int (List Cell × List B)) = 4 from rfl]
    -- too many bytes, and just not too many, but none that begin so
    (first | refine wX ?_ | exact wZ)
    refine EffW.mkRow (e := 5) 20001 (u8s Z) rfl (by kernel_rfl) rfl rfl rfl rfl rfl rfl ⟨by omega, by decide⟩ hZs fun b => ?_
    (first | refine wX ?_ | exact wZ)
    refine ReadW.bytes Z hZl rfl Tryz.underlying29 Tryz.underlying5 Tryz.underlying9 rfl (fun w hw => hw.2.2.1) ?_
    ((conv => whnf); (repeat ((first | refine VrN.keep ?_ | refine BoxN.own ?_ | refine RwN.own ?_); (conv => whnf))))
    refine SpecF.call (MCheck_c Z) (fun w _ => trivial) fun v2 G2 hR2 => ?_
    subst hR2
    rw [hl1, show errS (.error 2 : Except Int (List Cell × List B)) = 2 from rfl]
    (first | refine wX ?_ | exact wZ)
    refine ReadW.slc_h (ob := some b) rfl (by kernel_rfl) rfl rfl ⟨by decide, by decide⟩ ?_
    (first | refine wX ?_ | exact wZ)
    refine ReadW.bytes (Z.take 20000) (by rw [List.length_take, hZl]; rfl) rfl Tryz.underlying29 Tryz.underlying5 Tryz.underlying9 rfl (fun w hw => by
      have h9 : SlAt (some ⟨b, 0, none⟩) (20001 * 1) (u8s Z) w := hw.2.2.1
      have h8 := sl_take h9 (show 20000 ≤ 20001 * 1 by omega)
      rw [show (u8s Z).take 20000 = u8s (Z.take 20000) by unfold u8s; rw [List.map_take]] at h8
      exact h8) ?_
    ((conv => whnf); (repeat ((first | refine VrN.keep ?_ | refine BoxN.own ?_ | refine RwN.own ?_); (conv => whnf))))
    refine SpecF.call (MCheck_c (Z.take 20000)) (fun w _ => trivial) fun v3 G3 hR3 => ?_
    subst hR3
    rw [hl2, show errS (.error 4 : Except Int (List Cell × List B)) = 4 from rfl]
    (first | refine wX ?_ | exact wZ)
    refine call1 (sane_m _) ?_
    (first | refine wX ?_ | exact wZ)
  · obtain ⟨r, h6⟩ := hfull.1 (by omega)
    rw [h6, show errS (.ok r) = 0 from rfl]
    -- too many bytes, and just not too many, but none that begin so
    (first | refine wX ?_ | exact wZ)
    refine EffW.mkRow (e := 5) 20001 (u8s Z) rfl (by kernel_rfl) rfl rfl rfl rfl rfl rfl ⟨by omega, by decide⟩ hZs fun b => ?_
    (first | refine wX ?_ | exact wZ)
    refine ReadW.bytes Z hZl rfl Tryz.underlying29 Tryz.underlying5 Tryz.underlying9 rfl (fun w hw => hw.2.2.1) ?_
    ((conv => whnf); (repeat ((first | refine VrN.keep ?_ | refine BoxN.own ?_ | refine RwN.own ?_); (conv => whnf))))
    refine SpecF.call (MCheck_c Z) (fun w _ => trivial) fun v2 G2 hR2 => ?_
    subst hR2
    rw [hl1, show errS (.error 2 : Except Int (List Cell × List B)) = 2 from rfl]
    (first | refine wX ?_ | exact wZ)
    refine ReadW.slc_h (ob := some b) rfl (by kernel_rfl) rfl rfl ⟨by decide, by decide⟩ ?_
    (first | refine wX ?_ | exact wZ)
    refine ReadW.bytes (Z.take 20000) (by rw [List.length_take, hZl]; rfl) rfl Tryz.underlying29 Tryz.underlying5 Tryz.underlying9 rfl (fun w hw => by
      have h9 : SlAt (some ⟨b, 0, none⟩) (20001 * 1) (u8s Z) w := hw.2.2.1
      have h8 := sl_take h9 (show 20000 ≤ 20001 * 1 by omega)
      rw [show (u8s Z).take 20000 = u8s (Z.take 20000) by unfold u8s; rw [List.map_take]] at h8
      exact h8) ?_
    ((conv => whnf); (repeat ((first | refine VrN.keep ?_ | refine BoxN.own ?_ | refine RwN.own ?_); (conv => whnf))))
    refine SpecF.call (MCheck_c (Z.take 20000)) (fun w _ => trivial) fun v3 G3 hR3 => ?_
    subst hR3
    rw [hl2, show errS (.error 4 : Except Int (List Cell × List B)) = 4 from rfl]
    (first | refine wX ?_ | exact wZ)
    refine call1 (sane_m _) ?_
    (first | refine wX ?_ | exact wZ)
end Go.Proofs.YtgogonnnojcioaaGreatDoor

/-
  MarshalFullCardSaid is proved: of every number MarshalFull returns true; the listed tables are tied to the program's text.
-/
namespace Go.Proofs.YtgogonnnojcioaaGreatDoor
open Go.ChangeShapes Go.WideShapes Go.ChangeAt Go.RowKit Go.AX Go.Core
set_option maxRecDepth 100000

namespace MarshalFull
theorem own : ownKnob Tryz.prog.godebug = none := own0
theorem walk {H : Type} {enc : TypeId × Value → H} (W : World) (base : Nat) (args : Array Value) (ds : List (DataW H)) (p : List MemPlace) (k : Known enc Tryz.prog Tryz.f7 W base args ds p) (_hL : laidMetH Tryz.prog laid3 W) : Walk Tryz.prog 7 args W := by
  obtain ⟨u, rfl⟩ := arr1 (trodAll_len k.trod).2
  obtain ⟨n, rfl⟩ := okWide_int Tryz.underlying3 (k.val 0 _ u rfl rfl)
  exact walkH [] (fun _ he => by cases he) (MarshalFull_c n _ fun _ _ => trivial)

theorem lifted (os : Os) (started : os.Started) (H : Type) (enc : TypeId × Value → H) :
    ReturnsInHanded {} Tryz.checked os 7 .any (fun w args => (Rows.marshalFullSpec.pre enc Tryz.prog Tryz.f7 [] false w args ∧ laidMetH Tryz.prog laid3 w) ∧ sizedMet enc Tryz.prog Tryz.f7 (OpenSpec.ofChange Rows.marshalFullSpec) false w args) (Rows.marshalFullSpec.post enc Tryz.prog Tryz.f7 false true false false) := by
  refine liftS (C := Tryz.checked) own started (by kernel_rfl) Tryz.func7
    (ChangeSpec.witness_shaped (enc := enc) (C := Tryz.checked) (os := os) (X := fun w _ => laidMetH Tryz.prog laid3 w) false (World.laidAll Tryz.prog os laid3) #[.int .i64 0] 8 (World.laidAll_os _ _ _) (World.shaped_of_ZipB (by kernel_rfl) (by kernel_rfl)) (by kernel_rfl) (by kernel_rfl) (by kernel_rfl) (door_met os _))
    laidOut rfl (t := _) rfl (by kernel_rfl) (by kernel_rfl) ?_ walk
  intro ds hd
  match ds, hd with
  | [d0], _ => rfl

theorem over : Rows.marshalFullRow.holds Tryz.pinned (OpenSpec.ofChange Rows.marshalFullSpec) :=
  OpenClaim.holds_of_wide 7 Tryz.f7 rfl rfl rfl rfl rfl rfl rfl ⟨rfl, rfl, rfl, rfl, rfl⟩ rfl rfl rfl rfl rfl (by kernel_rfl) Tryz.func7 (by kernel_rfl)
    (of_decide_eq_true (by kernel_rfl)) (by unfold Func.isWrapper; first | (rw [if_pos (by decide +kernel)]; kernel_rfl) | (rw [if_neg (by decide +kernel)]; exact ⟨rfl, rfl⟩))
    (fun os started H enc _ => lifted os started H enc)

theorem proved : Rows.MarshalFullCardSaid :=
  Claim7.holds_tied_plain_at .later [] [.data, .pinned] true (true, "92e2ed60dd5b2613fe6e0d172a7e2bd0782f276a49ab098c444f4227433a6c5a") false
    over (fun _ h => by cases h) (by kernel_rfl) (fun _ h => by cases h) marshalFull_row_tie rfl ⟨rfl, rfl⟩ (by kernel_rfl) rfl
    (fun f fn hf hfn => by
      obtain rfl : f = 7 := Option.some.inj ((show Tryz.prog.funcNamed "cabochon/cabochonlaw29.MarshalFull" = some 7 by kernel_rfl).symm.trans hf) |>.symm
      obtain rfl : fn = Tryz.f7 := (Option.some.inj (Tryz.func7.symm.trans hfn)).symm
      exact ⟨by kernel_rfl, fun j t ht => by
        have hm : t ∈ Tryz.f7.params.toList := by simpa using Array.mem_of_getElem? ht
        have hall : (Tryz.f7.params.toList.all fun u => !Tryz.prog.wantsStandIn u) = true := by kernel_rfl
        exact (show Tryz.prog.wantsStandIn t = false by simpa using List.all_eq_true.1 hall t hm)⟩)
    (by kernel_rfl)
#print axioms proved
end MarshalFull
end Go.Proofs.YtgogonnnojcioaaGreatDoor
