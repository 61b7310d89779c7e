/-
  AX, eleventh text: code; functions.
-/
import Derived.Test.YtfcjgklghgpddaaDoorAx10
namespace Go.AX

theorem condK_spec {c : Operand} {s : List AV} {A B : List AV → Prop} (h : condK c s A B) {ρ : List Loc} {a : Act} (hr : RelS ρ s a.tmps.toList) :
    ∃ b, a.eval c = .bool b ∧ ((b = true ∧ ∃ s', A s' ∧ RelS ρ s' a.tmps.toList) ∨ (b = false ∧ ∃ s', B s' ∧ RelS ρ s' a.tmps.toList)) := by
  unfold condK at h
  split at h
  · rename_i t
    split at h
    · rename_i b hb
      have hx := nth_get hr hb
      have hset : RelS ρ (s.set t (.c (.v (.bool b)))) a.tmps.toList := by
        have := RelS_set (i := t) hr (av := .c (.v (.bool b))) (v := .bool b) rfl
        rw [set_same hx] at this
        exact this
      have he : a.eval (.tmp t) = .bool b := by
        have : a.tmps[t]? = some (.bool b) := by simpa using hx
        simp [Act.eval, this]
      refine ⟨b, he, ?_⟩
      cases b
      · exact .inr ⟨rfl, _, (setK_spec (brd_false h rfl)).2, hset⟩
      · exact .inl ⟨rfl, _, (setK_spec (brd_true h rfl)).2, hset⟩
    · exact h.elim
  · rename_i b
    refine ⟨b, rfl, ?_⟩
    cases b
    · exact .inr ⟨rfl, _, brd_false h rfl, hr⟩
    · exact .inl ⟨rfl, _, brd_true h rfl, hr⟩
  · exact h.elim

theorem Sat.pad {S : Nat → Prop} {w : World} : ∀ {ρ : List Loc} {H : List Ent} (pad : List Ent), padB pad = true → Sat ρ S H w → ∃ t, Sat (ρ ++ t) S (H ++ pad) w ∧ Ev ρ S H w (ρ ++ t) S (H ++ pad) w
  | ρ, H, [], _, h => ⟨[], by simpa using h, by simpa using Ev.refl ρ S H w⟩
  | ρ, H, e :: es, hp, h => by
    have key : (∀ b, entB (ρ ++ [⟨0, 0⟩]) H.length e ≠ some b) ∧ EntOk (ρ ++ [⟨0, 0⟩]) S w H.length e ∧ padB es = true := by
      unfold padB at hp
      split at hp
      · rename_i heq; cases heq
      · rename_i heq; cases heq; exact ⟨fun b hb => (by cases hb), .inl ⟨rfl, rfl, rfl, rfl⟩, hp⟩
      · rename_i heq; cases heq; exact ⟨fun b hb => (by cases hb), trivial, hp⟩
      · cases hp
    obtain ⟨hnb, hok, hes⟩ := key
    have hcase : ∀ (i : Nat) (f : Ent), (H ++ [e])[i]? = some f → (i < H.length ∧ H[i]? = some f) ∨ (i = H.length ∧ f = e) := fun i f hf => by
      by_cases hi : i < H.length
      · rw [List.getElem?_append_left hi] at hf; exact .inl ⟨hi, hf⟩
      · have hi2 : i = H.length := by
          have := (List.getElem?_eq_some_iff.1 hf).1
          simp at this; omega
        subst hi2
        simp at hf
        exact .inr ⟨rfl, hf.symm⟩
    have hb2 : ∀ (i : Nat) (f : Ent) (b : Nat), (H ++ [e])[i]? = some f → entB (ρ ++ [⟨0, 0⟩]) i f = some b → H[i]? = some f ∧ entB ρ i f = some b := fun i f b hf hb => by
      rcases hcase i f hf with ⟨hi, hf'⟩ | ⟨rfl, rfl⟩
      · rw [entB_pre _ (by rw [h.len]; exact hi)] at hb
        exact ⟨hf', hb⟩
      · exact absurd hb (hnb b)
    have h1 : Sat (ρ ++ [⟨0, 0⟩]) S (H ++ [e]) w := by
      refine ⟨by simp [h.len], fun i f hf => ?_, fun i j f g b hf hg hfb hgb => ?_, fun b ⟨i, f, hf, hfb⟩ => h.out b ⟨i, f, (hb2 i f b hf hfb).1, (hb2 i f b hf hfb).2⟩, h.low⟩
      · rcases hcase i f hf with ⟨hi, hf'⟩ | ⟨rfl, rfl⟩
        · exact (h.ent i f hf').move [⟨0, 0⟩] (fun _ _ => rfl) fun _ _ => rfl
        · exact hok
      · have x := hb2 i f b hf hfb
        have y := hb2 j g b hg hgb
        exact h.inj i j f g b x.1 y.1 x.2 y.2
    have e1 : Ev ρ S H w (ρ ++ [⟨0, 0⟩]) S (H ++ [e]) w := ⟨⟨_, rfl⟩, rfl, rfl, rfl, Nat.le_refl _, fun _ _ _ => rfl, fun b hb => .inl hb, fun b ⟨i, f, hf, hfb⟩ => .inl ⟨i, f, (hb2 i f b hf hfb).1, (hb2 i f b hf hfb).2⟩⟩
    obtain ⟨t, h2, e2⟩ := Sat.pad es hes h1
    exact ⟨⟨0, 0⟩ :: t, by simpa using h2, by simpa using e1.trans e2⟩

theorem exec_sound {P : Program} (hm : P.follows .mixedOrders = true) : ∀ (c : Code) (s : List AV) (H : List Ent) (K : Ex → List AV → List Ent → Prop), exec P c s H K →
    ∀ (ρ : List Loc) (S : Nat → Prop) (w : World) (a : Act), Sat ρ S H w → RelS ρ s a.tmps.toList → c.wp P (Post ρ S H w a.defers K) a w := by
  intro c
  induction c with
  | skip => intro s H K h ρ S w a hs hr; exact wp_skip ⟨ρ, S, s, H, .normal, hs, Ev.refl _ _ _ _, hr, rfl, trivial, h⟩
  | label l => intro s H K h ρ S w a hs hr; exact wp_label ⟨ρ, S, s, H, .normal, hs, Ev.refl _ _ _ _, hr, rfl, trivial, h⟩
  | exit id => intro s H K h ρ S w a hs hr; exact wp_exit ⟨ρ, S, s, H, .exit id, hs, Ev.refl _ _ _ _, hr, rfl, rfl, h⟩
  | ret => intro s H K h ρ S w a hs hr; exact wp_ret ⟨ρ, S, s, H, .ret, hs, Ev.refl _ _ _ _, hr, rfl, trivial, h⟩
  | goto l => intro s H K h; exact h.elim
  | refuse y => intro s H K h; exact h.elim
  | scope b ih => intro s H K h; exact h.elim
  | rangeFunc f ps as b _ _ => intro s H K h; exact h.elim
  | region id ops draw =>
    intro s H K h0 ρ S w a hs hr
    have h : regionK P ops draw s H K := h0
    clear h0
    unfold regionK at h
    split at h
    · exact wp_region_list (execOps_sound _ _ _ h ρ S w a hs hr)
    · have h0 : Cls ρ S H w { w with drawn := w.drawn + 1 } := ⟨S, hs.heap rfl, Ev.drew _ _ _ _⟩
      rcases h with ⟨hB, h⟩ | ⟨pre, hd, tl, hB, h⟩ | ⟨pre, hd, tl, hB, h⟩
      · refine wp_region_quiet (C := Cls ρ S H w) hm hB h0 ?_
        have hq := execQ_sound ⟨_, h0⟩ _ _ h a hr
        refine wpQuiet_mono (fun a' ⟨s', hK, hr', hd⟩ w' ⟨S', hs', hev⟩ => ?_) _ _ hq
        exact ⟨ρ, S', s', H, .normal, hs', hev, hr', hd, trivial, hK⟩
      · exact plan_sound hm hB h hs hr
      · exact planQ_sound hm hB h hs hr
  | seq x y ihx ihy =>
    intro s H K h ρ S w a hs hr
    refine wp_seq (wp_mono (ihx s H (seqK (exec P y) K) h ρ S w a hs hr) fun e a' w' hp => ?_)
    obtain ⟨ρ1, S1, s1, H1, ex, hs1, hev, hr1, hd, hex, hK⟩ := hp
    cases ex with
    | normal =>
      cases e <;> first | exact hex.elim | skip
      refine wp_mono (ihy s1 H1 K hK ρ1 S1 w' a' hs1 hr1) fun e2 a2 w2 hp2 => ?_
      rw [hd] at hp2
      exact hp2.from hev
    | exit n => cases e <;> first | exact hex.elim | exact ⟨ρ1, S1, s1, H1, .exit n, hs1, hev, hr1, hd, hex, hK⟩
    | ret => cases e <;> first | exact hex.elim | exact ⟨ρ1, S1, s1, H1, .ret, hs1, hev, hr1, hd, hex, hK⟩
    | pan n => cases e <;> first | exact hex.elim | exact ⟨ρ1, S1, s1, H1, .pan n, hs1, hev, hr1, hd, hex, hK⟩
  | cond c x y ihx ihy =>
    intro s H K h0 ρ S w a hs hr
    have h : condK c s (fun s => exec P x s H K) (fun s => exec P y s H K) := h0
    obtain ⟨b, hb, hc⟩ := condK_spec h hr
    refine wp_cond hb ?_
    rcases hc with ⟨rfl, s', hK, hr'⟩ | ⟨rfl, s', hK, hr'⟩
    · exact ihx s' H K hK ρ S w a hs hr'
    · exact ihy s' H K hK ρ S w a hs hr'
  | block id b ih =>
    intro s H K h ρ S w a hs hr
    refine wp_block (wp_mono (ih s H (blockK id K) h ρ S w a hs hr) fun e a' w' hp => ?_)
    obtain ⟨ρ1, S1, s1, H1, ex, hs1, hev, hr1, hd, hex, hK⟩ := hp
    cases ex with
    | normal => cases e <;> first | exact hex.elim | exact ⟨ρ1, S1, s1, H1, .normal, hs1, hev, hr1, hd, trivial, hK⟩
    | ret => cases e <;> first | exact hex.elim | exact ⟨ρ1, S1, s1, H1, .ret, hs1, hev, hr1, hd, trivial, hK⟩
    | pan n => cases e <;> first | exact hex.elim | exact ⟨ρ1, S1, s1, H1, .pan n, hs1, hev, hr1, hd, hex, hK⟩
    | exit n =>
      cases e <;> first | exact hex.elim | skip
      rename_i m
      have hnm : n = m := hex
      subst hnm
      by_cases hid : n = id
      · subst hid
        simp only [Exit.inBlock, if_true]
        have hK' : K .normal s1 H1 := by simpa [blockK] using hK
        exact ⟨ρ1, S1, s1, H1, .normal, hs1, hev, hr1, hd, trivial, hK'⟩
      · simp only [Exit.inBlock, if_neg hid]
        have hbq : Nat.beq n id = false := by cases hq : Nat.beq n id with | false => rfl | true => exact absurd (Nat.eq_of_beq_eq_true hq) hid
        have hK' : K (.exit n) s1 H1 := by simpa [blockK, hbq] using hK
        exact ⟨ρ1, S1, s1, H1, .exit n, hs1, hev, hr1, hd, rfl, hK'⟩
  | loop b ih =>
    intro s H K h0 ρ S w a hs hr
    have h : LoopN (exec P b) s H K := h0
    rcases h with ⟨ι, inv, sl, hp, μ, pad, hpad, hlen, hoks, hokh, ⟨i0, hi0, hst, hsh⟩, hround⟩ | ⟨n, hU⟩
    · obtain ⟨t0, hs0, hev0⟩ := Sat.pad pad hpad hs
      have hr0 := RelS_pre t0 hr
      refine wp_mono (P := P) (c := .loop b) (Q := Post (ρ ++ t0) S (H ++ pad) w a.defers K) ?_ fun e a' w' hp => hp.from hev0
      clear hs hr h0
      have hs := hs0
      have hr := hr0
      clear hs0 hr0
      generalize ρ ++ t0 = ρ at *
      generalize H ++ pad = H at *
      simp only [forceS_eq, forceH_eq] at hround
      refine wp_loop_by (fun n a' w' => ∃ i ρ' S', inv i ∧ μ i = n ∧ Sat ρ' S' (hp i) w' ∧ Ev ρ S H w ρ' S' (hp i) w' ∧ RelS ρ' (sl i) a'.tmps.toList ∧ a'.defers = a.defers) ?_ (μ i0) a w ?_
      · rintro n a' w' ⟨i, ρ', S', hinv, rfl, hs', hev, hr', hd⟩
        refine wp_mono (ih (sl i) (hp i) _ (hround i hinv) ρ' S' w' a' hs' hr') fun e a2 w2 hq => ?_
        obtain ⟨ρ2, S2, s2, H2, ex, hs2, hev2, hr2, hd2, hex, hK⟩ := hq
        cases ex with
        | normal =>
          cases e <;> first | exact hex.elim | skip
          obtain ⟨j, hij, hj, hws, hwh⟩ := hK
          have hw := hs2.weak hwh (by rw [hlen]; exact hokh j hij)
          refine ⟨μ j, hj, j, ρ2.take (hp j).length, S2, hij, rfl, hw.1, ?_, ?_, hd2.trans hd⟩
          · have h12 := hev.trans hev2
            refine ⟨?_, h12.os, h12.tape, h12.output, h12.size, h12.keep, h12.imm, fun b hb => h12.own b (hw.2 b hb)⟩
            obtain ⟨t, ht⟩ := h12.pre
            refine ⟨t.take ((hp j).length - ρ.length), ?_⟩
            rw [ht, List.take_append, List.take_of_length_le (by rw [hs.len, hlen]; omega)]
          · rw [hlen]; exact wkS_rel hws (hoks j) hr2
        | exit n => cases e <;> first | exact hex.elim | exact ⟨ρ2, S2, s2, H2, .exit n, hs2, hev.trans hev2, hr2, hd2.trans hd, hex, hK⟩
        | ret => cases e <;> first | exact hex.elim | exact ⟨ρ2, S2, s2, H2, .ret, hs2, hev.trans hev2, hr2, hd2.trans hd, trivial, hK⟩
        | pan n => cases e <;> first | exact hex.elim | exact ⟨ρ2, S2, s2, H2, .pan n, hs2, hev.trans hev2, hr2, hd2.trans hd, hex, hK⟩
      · have hw := hs.weak hsh (by rw [hlen]; exact hokh i0 hi0)
        have hρ : ρ.take (hp i0).length = ρ := List.take_of_length_le (by rw [hs.len, hlen]; omega)
        rw [hρ] at hw
        refine ⟨i0, ρ, S, hi0, rfl, hw.1, ⟨⟨[], by simp⟩, rfl, rfl, rfl, Nat.le_refl _, fun _ _ _ => rfl, fun b hb => .inl hb, fun b hb => .inl (hw.2 b hb)⟩, ?_, rfl⟩
        have := wkS_rel hst (hoks i0) hr
        rw [← hlen i0, hρ] at this
        exact this
    · refine wp_loop_by (fun n a' w' => ∃ s' H' ρ' S', LoopU (exec P b) K n s' H' ∧ Sat ρ' S' H' w' ∧ Ev ρ S H w ρ' S' H' w' ∧ RelS ρ' s' a'.tmps.toList ∧ a'.defers = a.defers) ?_ n a w ⟨s, H, ρ, S, hU, hs, Ev.refl _ _ _ _, hr, rfl⟩
      rintro n a' w' ⟨s', H', ρ', S', hU, hs', hev, hr', hd⟩
      cases n with
      | zero => exact hU.elim
      | succ n =>
        refine wp_mono (ih s' H' _ hU ρ' S' w' a' hs' hr') fun e a2 w2 hq => ?_
        obtain ⟨ρ2, S2, s2, H2, ex, hs2, hev2, hr2, hd2, hex, hK⟩ := hq
        cases ex with
        | normal =>
          cases e <;> first | exact hex.elim | skip
          exact ⟨n, Nat.lt_succ_self n, s2, H2, ρ2, S2, hK, hs2, hev.trans hev2, hr2, hd2.trans hd⟩
        | exit n => cases e <;> first | exact hex.elim | exact ⟨ρ2, S2, s2, H2, .exit n, hs2, hev.trans hev2, hr2, hd2.trans hd, hex, hK⟩
        | ret => cases e <;> first | exact hex.elim | exact ⟨ρ2, S2, s2, H2, .ret, hs2, hev.trans hev2, hr2, hd2.trans hd, trivial, hK⟩
        | pan n => cases e <;> first | exact hex.elim | exact ⟨ρ2, S2, s2, H2, .pan n, hs2, hev.trans hev2, hr2, hd2.trans hd, hex, hK⟩
  where
  wpQuiet_mono {P : Program} {ops : Array Oper} {C : World → Prop} {Q Q' : Act → Prop} (hq : ∀ a, Q a → Q' a) : ∀ (l : List Oper) (a : Act), wpQuiet P ops C Q l a → wpQuiet P ops C Q' l a
    | [], a, h => hq a h
    | o :: l, a, h => by
      unfold wpQuiet at h ⊢
      split at h
      · rename_i hw; rw [if_pos hw]; exact Oper.quiet_mono (fun a => wpQuiet_mono hq l a) h
      · rename_i hw; rw [if_neg hw]; exact wpQuiet_mono hq l _ h

/-! ### Functions -/
theorem initK_rel : ∀ {n : Nat} {args : List AV} {K : List AV → Prop}, initK n args K → args.length ≤ n →
    ∃ s, K s ∧ ∀ (ρ : List Loc) (vs : List Value), RelS ρ args vs → RelS ρ s (vs ++ List.replicate (n - args.length) undef)
  | 0, [], K, h, _ => ⟨[], h, fun ρ vs hr => by cases vs <;> first | exact hr.elim | simp [RelS]⟩
  | n + 1, [], K, h, _ => by
    obtain ⟨s, hK, hs⟩ := initK_rel (n := n) (args := []) (K := fun s => K (.c .any :: s)) h (by simp)
    refine ⟨_, hK, fun ρ vs hr => ?_⟩
    cases vs with
    | cons _ _ => exact hr.elim
    | nil =>
      have := hs ρ [] trivial
      simp only [List.length_nil, Nat.sub_zero, List.nil_append] at this ⊢
      rw [List.replicate_succ]
      exact ⟨trivial, this⟩
  | n + 1, x :: args, K, h, hl => by
    obtain ⟨s, hK, hs⟩ := initK_rel (n := n) (args := args) (K := fun s => K (x :: s)) h (by simpa using hl)
    refine ⟨_, hK, fun ρ vs hr => ?_⟩
    cases vs with
    | nil => exact hr.elim
    | cons v vs =>
      have := hs ρ vs hr.2
      refine ⟨hr.1, ?_⟩
      simpa using this
  | 0, _ :: _, _, _, hl => by simp at hl

def resSem (tmps : Array Value) : ResultVar → Sem Value
  | .tmp t => pure (tmps.getD t undef)
  | .cell a t => do loadVar t (← asAddr (tmps.getD a undef))

theorem loadL_res {P : Program} {H : List Ent} {K : AV → Prop} {T : TypeId} {i off : Nat} (h : loadL P T (nthE H i) off K) :
    ∃ av, K av ∧ ∀ (ρ : List Loc) (S : Nat → Prop) (w : World) (l : Loc), Sat ρ S H w → ρ[i]? = some l → ∃ v, (loadVar T ⟨l.b, off, none⟩).run P w = .ok v w ∧ av.rel ρ v := by
  obtain ⟨av, hK, hr⟩ := loadL_sound (o := { dst := none, op := .load T (.tmp 0), type := 0, pos := "", after := #[], guard := none }) (s := [.c (.lp i off)]) (x := .tmp 0) rfl rfl h
  refine ⟨av, hK, fun ρ S w l hs hl => ?_⟩
  obtain ⟨v, hrun, hrel⟩ := hr ρ S w { tmps := #[.pointer (some ⟨l.b, off, none⟩)], defers := [] } hs ⟨⟨l, hl, rfl⟩, trivial⟩
  refine ⟨v, ?_, hrel⟩
  unfold execOp at hrun
  simp only [Act.eval, Instr.loadAt, Sem.run_bind] at hrun
  have e : (Instr.sureAddr ((#[Value.pointer (some ⟨l.b, off, none⟩)] : Array Value).getD 0 undef)).run P w = .ok ⟨l.b, off, none⟩ w := rfl
  rw [e] at hrun
  simp only [Result.andThen_ok] at hrun
  revert hrun
  generalize (loadVar T ⟨l.b, off, none⟩).run P w = r
  intro hrun
  cases r with
  | ok x w' =>
    simp only [Result.andThen_ok, Sem.run_pure, Result.ok.injEq, Next.value.injEq] at hrun
    rw [hrun.1, hrun.2]
  | halt x w' => simp [Result.andThen] at hrun

theorem resOne_sound {P : Program} {r : ResultVar} {s : List AV} {H : List Ent} {K : AV → Prop} (h : resOne P r s H K) :
    ∃ av, K av ∧ ∀ (ρ : List Loc) (S : Nat → Prop) (w : World) (tmps : Array Value), Sat ρ S H w → RelS ρ s tmps.toList → ∃ v, (resSem tmps r).run P w = .ok v w ∧ av.rel ρ v := by
  unfold resOne at h
  split at h
  · rename_i t
    rw [forceA_eq] at h
    exact ⟨_, h, fun ρ S w tmps _ hr => ⟨_, rfl, by have := nth_rel t hr; simpa using this⟩⟩
  · rename_i a T
    split at h
    · rename_i i off hx
      obtain ⟨av, hK, hl⟩ := loadL_res h
      refine ⟨av, hK, fun ρ S w tmps hs hr => ?_⟩
      have hxr := nth_rel a hr
      rw [hx] at hxr
      obtain ⟨l, hlo, he⟩ := hxr
      obtain ⟨v, hrun, hrel⟩ := hl ρ S w l hs hlo
      have he' : tmps.getD a undef = .pointer (some ⟨l.b, off, none⟩) := by simpa using he
      exact ⟨v, by simp only [resSem, he', asAddr, Sem.run_bind, Sem.run_pure, Result.andThen_ok, hrun], hrel⟩
    · exact h.elim

theorem resAll_sound {P : Program} {s : List AV} {H : List Ent} : ∀ {rs : List ResultVar} {K : List AV → Prop}, resAll P s H rs K →
    ∃ l, K l ∧ l.length = rs.length ∧ ∀ (ρ : List Loc) (S : Nat → Prop) (w : World) (tmps : Array Value), Sat ρ S H w → RelS ρ s tmps.toList → ∃ vs, (rs.mapM (resSem tmps)).run P w = .ok vs w ∧ RelS ρ l vs
  | [], K, h => ⟨[], h, rfl, fun _ _ _ _ _ _ => ⟨[], by simp, trivial⟩⟩
  | r :: rs, K, h0 => by
    have h : resOne P r s H fun av => resAll P s H rs fun xs => K (av :: xs) := h0
    obtain ⟨av, hK, hr⟩ := resOne_sound h
    obtain ⟨l, hK2, hl, hrs⟩ := resAll_sound hK
    refine ⟨av :: l, hK2, by simp [hl], fun ρ S w tmps hs hrel => ?_⟩
    obtain ⟨v, hrun, hv⟩ := hr ρ S w tmps hs hrel
    obtain ⟨vs, hrun2, hvs⟩ := hrs ρ S w tmps hs hrel
    exact ⟨v :: vs, by simp only [List.mapM_cons, Sem.run_bind, hrun, Result.andThen_ok, hrun2, Sem.run_pure], hv, hvs⟩

theorem plainS_rel {ρ : List Loc} : ∀ {l : List AV} {xs vs : List Value}, plainS l = some xs → RelS ρ l vs → vs = xs
  | [], xs, [], h, _ => by simp [plainS] at h; exact h.symm
  | .c (.v x) :: l, xs, v :: vs, h, hr => by
    simp only [plainS] at h
    split at h
    · rename_i ys hys
      obtain rfl := Option.some.inj h
      have h1 : v = x := hr.1
      rw [h1, plainS_rel hys hr.2]
    · cases h
  | .c .any :: _, _, _, h, _ => by simp [plainS] at h
  | .c (.lp ..) :: _, _, _, h, _ => by simp [plainS] at h
  | .c (.sl ..) :: _, _, _, h, _ => by simp [plainS] at h
  | .agg _ :: _, _, _, h, _ => by simp [plainS] at h
  | [], _, _ :: _, _, hr => hr.elim
  | .c (.v _) :: _, _, [], _, hr => hr.elim

theorem results_eq (fn : Func) (tmps : Array Value) : results fn tmps = (do
    let vs ← fn.results.mapM (resSem tmps)
    pure (if h : vs.size = 1 then vs[0] else .tuple vs)) := by
  unfold results
  congr 1

theorem resK_sound {P : Program} {fn : Func} {s : List AV} {H : List Ent} {K : Out → Prop} (h : resK P fn.results.toList s H K) :
    ∃ out, K out ∧ ∀ (ρ : List Loc) (S : Nat → Prop) (w : World) (tmps : Array Value), Sat ρ S H w → RelS ρ s tmps.toList → ∃ v, (results fn tmps).run P w = .ok v w ∧ OutOk ρ out (.returned v) := by
  unfold resK at h
  split at h
  · rename_i r hr
    obtain ⟨av, hK, hs⟩ := resOne_sound h
    refine ⟨.val av, hK, fun ρ S w tmps hsat hrel => ?_⟩
    obtain ⟨v, hrun, hv⟩ := hs ρ S w tmps hsat hrel
    refine ⟨v, ?_, ⟨v, rfl, hv⟩⟩
    have hfr : fn.results = #[r] := by rw [← Array.toArray_toList (xs := fn.results), hr]
    rw [results_eq, hfr, Sem.run_bind, Array.mapM_eq_mapM_toList]
    simp [hrun]
  · rename_i hne
    obtain ⟨l, hK, hl, hs⟩ := resAll_sound h
    have key : ∀ (ρ : List Loc) (S : Nat → Prop) (w : World) (tmps : Array Value), Sat ρ S H w → RelS ρ s tmps.toList → ∃ vs, (results fn tmps).run P w = .ok (.tuple vs.toArray) w ∧ RelS ρ l vs := fun ρ S w tmps hsat hrel => by
      obtain ⟨vs, h1, hr⟩ := hs ρ S w tmps hsat hrel
      refine ⟨vs, ?_, hr⟩
      rw [results_eq, Sem.run_bind, Array.mapM_eq_mapM_toList, Sem.run_map, h1]
      have hlen : vs.length ≠ 1 := by
        intro e
        rw [← RelS_len hr, hl] at e
        match hq : fn.results.toList, e with
        | [r], _ => exact hne r hq
      simp only [Result.andThen_ok, Sem.run_pure]
      rw [dif_neg (by simpa using hlen)]
    split at hK
    · rename_i xs hp
      refine ⟨_, hK, fun ρ S w tmps hsat hrel => ?_⟩
      obtain ⟨vs, h1, hr⟩ := key ρ S w tmps hsat hrel
      rw [plainS_rel hp hr] at h1
      exact ⟨_, h1, _, rfl, rfl⟩
    · refine ⟨_, hK, fun ρ S w tmps hsat hrel => ?_⟩
      obtain ⟨vs, h1, hr⟩ := key ρ S w tmps hsat hrel
      exact ⟨_, h1, vs, rfl, hr⟩

/-- What the executor shows of a function's body holds of its calls. -/
theorem spec_of_exec {P : Program} (hm : P.follows .mixedOrders = true) {f : FuncId} {fn : Func} {c : Code} (hf : P.funcs[f]? = some fn) (hn : (fn.name == "runtime.NumGoroutine") = false) (hb : fn.body = some c)
    {args : List AV} (hl : Nat.ble args.length fn.ntmps = true) {H : List Ent} {K : Out → List Ent → Prop} (h : initK fn.ntmps args fun s => exec P c s H (endK P fn.results.toList K)) : SpecH P f args H K := by
  refine ⟨⟨fn, hf, hn, by rw [hb]; rfl⟩, fun ρ S w vs hs hr => ?_⟩
  have hvl := RelS_len hr
  obtain ⟨s0, h, hs0⟩ := initK_rel h (Nat.le_of_ble_eq_true hl)
  have hinit : RelS ρ s0 (vs.toArray ++ Array.replicate (fn.ntmps - vs.toArray.size) undef).toList := by
    have := hs0 ρ vs hr
    simpa [hvl] using this
  refine calls_of_wp hf hb (wp_mono (exec_sound hm c _ H _ h ρ S w ⟨_, []⟩ hs hinit) ?_)
  · intro e a w' hp
    obtain ⟨ρ1, S1, s1, H1, ex, hs1, hev, hr1, hd, hex, hK⟩ := hp
    have fin : RelS ρ1 s1 a.tmps.toList → ∀ {K' : Out → Prop}, resK P fn.results.toList s1 H1 K' → (∀ out, K' out → K out H1) → ∃ v, (results fn a.tmps).run P w' = .ok v w' ∧
        ∃ ρ' S' H' out, Sat ρ' S' H' w' ∧ Ev ρ S H w ρ' S' H' w' ∧ OutOk ρ' out (.returned v) ∧ K out H' := fun hr2 {_} hK1 hK2 => by
      obtain ⟨out, hK3, hres⟩ := resK_sound hK1
      obtain ⟨v, hrun, hv⟩ := hres ρ1 S1 w' a.tmps hs1 hr2
      exact ⟨v, hrun, ρ1, S1, H1, out, hs1, hev, hv, hK2 out hK3⟩
    cases ex with
    | normal =>
      cases e <;> first | exact hex.elim | skip
      obtain ⟨v, hrun, hR⟩ := fin hr1 (K' := fun out => K out H1) hK fun _ h => h
      exact ⟨hd, v, hrun, hR⟩
    | ret =>
      cases e <;> first | exact hex.elim | skip
      obtain ⟨v, hrun, hR⟩ := fin hr1 (K' := fun out => K out H1) hK fun _ h => h
      exact ⟨hd, v, hrun, hR⟩
    | exit n => exact hK.elim
    | pan ch =>
      cases e <;> first | exact hex.elim | skip
      have : ch = _ := hex
      subst this
      exact ⟨hd, ρ1, S1, H1, .pan ch, hs1, hev, rfl, hK⟩
end Go.AX
