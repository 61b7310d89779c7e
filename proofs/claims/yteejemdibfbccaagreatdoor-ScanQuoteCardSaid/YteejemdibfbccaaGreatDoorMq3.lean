/-
  Lemmas (Ax11 Ax12 Ax14 Ax15 Ax16 Ax17 Ax13 Ax18 Ax19 Ax20 Ax34 Ax24 Ax21 Ax22 LB1 T1 Ax23 LB2 R0 Ax26 Ax28 Ax29 Ax25 Ax30 Ax31 Ax32 Ax33 Ax35 Ax36 S1).
-/
import Derived.Below
import Derived.DataElems
import Derived.WalkKit
import Derived.ProofKit
import Derived.OpenShut
import Derived.ShutString
import Derived.ChangeOld
import Derived.Carry
import Derived.HandedShaped
import Derived.SliceStrings
import Derived.ChangeSlices
import Derived.SizedLaws
import Derived.MakeChecks
import Derived.LaidMore
import Derived.LaidLaws
import Derived.LaidHandle
import Derived.Lib.LaidTab
import Derived.SevenTiedAt
import Derived.Laws.IdiomStrings
import Derived.Shelf.Vars
import Derived.Lib.AppendStr
import Derived.Lib.UnsafeStr
import Derived.Lib.Builder
import Derived.Laws.Externs
import Derived.Test.YteejemdibfbccaaGreatDoorChecked
import Derived.Shelf.Strings.Builder1
import Derived.Shelf.Strings.Builder2
import Derived.Shelf.Strings.Trim
import Derived.Shelf.Small.Utf8
import Derived.Shelf.Small.Strs
import Derived.Shelf.Small.Wraps
import Derived.Shelf.Strings.BuilderF
import Derived.Shelf.Strings.BuilderK
import Derived.Shelf.Utf8.RuneCount
import Derived.Shelf.Strings.Builder2Cap
import Derived.Shelf.Strings.Search1
import Derived.Shelf.Strings.Search2
import Derived.Shelf.Strings.Search3
import Derived.Shelf.Strings.Cut
import Derived.Shelf.Strings.Count
import Derived.Shelf.LaysM
import Derived.Shelf.Strings.Shaped
import Derived.Shelf.Strings.Prefix
import Derived.Shelf.Strings.Split
import Derived.Shelf.Strings.Fields
import Derived.Shelf.Strings.SplitShaped
import Derived.Shelf.Unicode.Latin
import Derived.Shelf.Unicode.Decode
import Derived.Shelf.Strings.Runes
import Derived.Shelf.Strings.RuneCount
import Derived.Shelf.Strings.AsciiSet
import Derived.Shelf.Unicode.DecodeSlow
import Derived.Shelf.Unicode.DecodeAny
import Derived.Shelf.Unicode.Is16White
import Derived.Shelf.Unicode.IsSpaceAny
import Derived.Shelf.Unicode.DecodeLast
import Derived.Shelf.Unicode.Is16WhiteD
import Derived.Shelf.Unicode.Is16Any
import Derived.Shelf.Unicode.Is32Any
import Derived.Shelf.Unicode.ExclAny
import Derived.Shelf.Slices.Turned
import Derived.Test.YteejemdibfbccaaGreatDoorProg
import Derived.Lib.MakeNoZero
import Derived.Lib.CutLaws
import Derived.Lib.ReplaceLaws
import Derived.Test.YteejemdibfbccaaGreatDoorRows
import Derived.LaidOnce
import Derived.WideMake
import Derived.Laws.IdiomCopy
import Derived.Laws.MakeOwn
import Derived.Lib.AppendZerosOnto
import Derived.Recover
import Derived.Test.YteejemdibfbccaaGreatDoorMq2
/-
  AX, eleventh text: code; functions.
-/
namespace Go.AX

theorem condK_spec {c : Operand} {s : List AV} {A B : List AV → Prop} (h : condK c s A B) {ρ : List Loc} {a : Act} (hr : RelS ρ s a.tmps.toList) :
    ∃ b, a.eval c = .bool b ∧ ((b = true ∧ ∃ s', A s' ∧ RelS ρ s' a.tmps.toList) ∨ (b = false ∧ ∃ s', B s' ∧ RelS ρ s' a.tmps.toList)) := by
  unfold condK at h
  split at h
  · rename_i t
    split at h
    · rename_i b hb
      have hx := nth_get hr hb
      have hset : RelS ρ (s.set t (.c (.v (.bool b)))) a.tmps.toList := by
        have := RelS_set (i := t) hr (av := .c (.v (.bool b))) (v := .bool b) rfl
        rw [set_same hx] at this
        exact this
      have he : a.eval (.tmp t) = .bool b := by
        have : a.tmps[t]? = some (.bool b) := by simpa using hx
        simp [Act.eval, this]
      refine ⟨b, he, ?_⟩
      cases b
      · exact .inr ⟨rfl, _, (setK_spec (brd_false h rfl)).2, hset⟩
      · exact .inl ⟨rfl, _, (setK_spec (brd_true h rfl)).2, hset⟩
    · exact h.elim
  · rename_i b
    refine ⟨b, rfl, ?_⟩
    cases b
    · exact .inr ⟨rfl, _, brd_false h rfl, hr⟩
    · exact .inl ⟨rfl, _, brd_true h rfl, hr⟩
  · exact h.elim

theorem Sat.pad {S : Nat → Prop} {w : World} : ∀ {ρ : List Loc} {H : List Ent} (pad : List Ent), padB pad = true → Sat ρ S H w → ∃ t, Sat (ρ ++ t) S (H ++ pad) w ∧ Ev ρ S H w (ρ ++ t) S (H ++ pad) w
  | ρ, H, [], _, h => ⟨[], by simpa using h, by simpa using Ev.refl ρ S H w⟩
  | ρ, H, e :: es, hp, h => by
    have key : (∀ b, entB (ρ ++ [⟨0, 0⟩]) H.length e ≠ some b) ∧ EntOk (ρ ++ [⟨0, 0⟩]) S w H.length e ∧ padB es = true := by
      unfold padB at hp
      split at hp
      · rename_i heq; cases heq
      · rename_i heq; cases heq; exact ⟨fun b hb => (by cases hb), .inl ⟨rfl, rfl, rfl, rfl⟩, hp⟩
      · rename_i heq; cases heq; exact ⟨fun b hb => (by cases hb), trivial, hp⟩
      · cases hp
    obtain ⟨hnb, hok, hes⟩ := key
    have hcase : ∀ (i : Nat) (f : Ent), (H ++ [e])[i]? = some f → (i < H.length ∧ H[i]? = some f) ∨ (i = H.length ∧ f = e) := fun i f hf => by
      by_cases hi : i < H.length
      · rw [List.getElem?_append_left hi] at hf; exact .inl ⟨hi, hf⟩
      · have hi2 : i = H.length := by
          have := (List.getElem?_eq_some_iff.1 hf).1
          simp at this; omega
        subst hi2
        simp at hf
        exact .inr ⟨rfl, hf.symm⟩
    have hb2 : ∀ (i : Nat) (f : Ent) (b : Nat), (H ++ [e])[i]? = some f → entB (ρ ++ [⟨0, 0⟩]) i f = some b → H[i]? = some f ∧ entB ρ i f = some b := fun i f b hf hb => by
      rcases hcase i f hf with ⟨hi, hf'⟩ | ⟨rfl, rfl⟩
      · rw [entB_pre _ (by rw [h.len]; exact hi)] at hb
        exact ⟨hf', hb⟩
      · exact absurd hb (hnb b)
    have h1 : Sat (ρ ++ [⟨0, 0⟩]) S (H ++ [e]) w := by
      refine ⟨by simp [h.len], fun i f hf => ?_, fun i j f g b hf hg hfb hgb => ?_, fun b ⟨i, f, hf, hfb⟩ => h.out b ⟨i, f, (hb2 i f b hf hfb).1, (hb2 i f b hf hfb).2⟩, h.low⟩
      · rcases hcase i f hf with ⟨hi, hf'⟩ | ⟨rfl, rfl⟩
        · exact (h.ent i f hf').move [⟨0, 0⟩] (fun _ _ => rfl) fun _ _ => rfl
        · exact hok
      · have x := hb2 i f b hf hfb
        have y := hb2 j g b hg hgb
        exact h.inj i j f g b x.1 y.1 x.2 y.2
    have e1 : Ev ρ S H w (ρ ++ [⟨0, 0⟩]) S (H ++ [e]) w := ⟨⟨_, rfl⟩, rfl, rfl, rfl, Nat.le_refl _, fun _ _ _ => rfl, fun b hb => .inl hb, fun b ⟨i, f, hf, hfb⟩ => .inl ⟨i, f, (hb2 i f b hf hfb).1, (hb2 i f b hf hfb).2⟩⟩
    obtain ⟨t, h2, e2⟩ := Sat.pad es hes h1
    exact ⟨⟨0, 0⟩ :: t, by simpa using h2, by simpa using e1.trans e2⟩

theorem exec_sound {P : Program} (hm : P.follows .mixedOrders = true) : ∀ (c : Code) (s : List AV) (H : List Ent) (K : Ex → List AV → List Ent → Prop), exec P c s H K →
    ∀ (ρ : List Loc) (S : Nat → Prop) (w : World) (a : Act), Sat ρ S H w → RelS ρ s a.tmps.toList → c.wp P (Post ρ S H w a.defers K) a w := by
  intro c
  induction c with
  | skip => intro s H K h ρ S w a hs hr; exact wp_skip ⟨ρ, S, s, H, .normal, hs, Ev.refl _ _ _ _, hr, rfl, trivial, h⟩
  | label l => intro s H K h ρ S w a hs hr; exact wp_label ⟨ρ, S, s, H, .normal, hs, Ev.refl _ _ _ _, hr, rfl, trivial, h⟩
  | exit id => intro s H K h ρ S w a hs hr; exact wp_exit ⟨ρ, S, s, H, .exit id, hs, Ev.refl _ _ _ _, hr, rfl, rfl, h⟩
  | ret => intro s H K h ρ S w a hs hr; exact wp_ret ⟨ρ, S, s, H, .ret, hs, Ev.refl _ _ _ _, hr, rfl, trivial, h⟩
  | goto l => intro s H K h; exact h.elim
  | refuse y => intro s H K h; exact h.elim
  | scope b ih => intro s H K h; exact h.elim
  | rangeFunc f ps _ b _ _ => intro s H K h; exact h.elim
  | region id ops draw =>
    intro s H K h0 ρ S w a hs hr
    have h : regionK P ops draw s H K := h0
    clear h0
    unfold regionK at h
    split at h
    · exact wp_region_list (execOps_sound _ _ _ h ρ S w a hs hr)
    · have h0 : Cls ρ S H w { w with drawn := w.drawn + 1 } := ⟨S, hs.heap rfl, Ev.drew _ _ _ _⟩
      rcases h with ⟨hB, h⟩ | ⟨pre, hd, tl, hB, h⟩ | ⟨pre, hd, tl, hB, h⟩ | ⟨C, pre, hd, tl, hB, hC, h⟩
      · refine wp_region_quiet (C := Cls ρ S H w) hm hB h0 ?_
        have hq := execQ_sound ⟨_, h0⟩ _ _ h a hr
        refine wpQuiet_mono (fun a' ⟨s', hK, hr', hd⟩ w' ⟨S', hs', hev⟩ => ?_) _ _ hq
        exact ⟨ρ, S', s', H, .normal, hs', hev, hr', hd, trivial, hK⟩
      · exact plan_sound hm hB h hs hr
      · exact planQ_sound hm hB h hs hr
      · exact planC_sound hm hB hC h hs hr
  | seq x y ihx ihy =>
    intro s H K h ρ S w a hs hr
    refine wp_seq (wp_mono (ihx s H (seqK (exec P y) K) h ρ S w a hs hr) fun e a' w' hp => ?_)
    obtain ⟨ρ1, S1, s1, H1, ex, hs1, hev, hr1, hd, hex, hK⟩ := hp
    cases ex with
    | normal =>
      cases e <;> first | exact hex.elim | skip
      refine wp_mono (ihy s1 H1 K hK ρ1 S1 w' a' hs1 hr1) fun e2 a2 w2 hp2 => ?_
      rw [hd] at hp2
      exact hp2.from hev
    | exit n => cases e <;> first | exact hex.elim | exact ⟨ρ1, S1, s1, H1, .exit n, hs1, hev, hr1, hd, hex, hK⟩
    | ret => cases e <;> first | exact hex.elim | exact ⟨ρ1, S1, s1, H1, .ret, hs1, hev, hr1, hd, hex, hK⟩
    | pan n => cases e <;> first | exact hex.elim | exact ⟨ρ1, S1, s1, H1, .pan n, hs1, hev, hr1, hd, hex, hK⟩
  | cond c x y ihx ihy =>
    intro s H K h0 ρ S w a hs hr
    have h : condK c s (fun s => exec P x s H K) (fun s => exec P y s H K) := h0
    obtain ⟨b, hb, hc⟩ := condK_spec h hr
    refine wp_cond hb ?_
    rcases hc with ⟨rfl, s', hK, hr'⟩ | ⟨rfl, s', hK, hr'⟩
    · exact ihx s' H K hK ρ S w a hs hr'
    · exact ihy s' H K hK ρ S w a hs hr'
  | block id b ih =>
    intro s H K h ρ S w a hs hr
    refine wp_block (wp_mono (ih s H (blockK id K) h ρ S w a hs hr) fun e a' w' hp => ?_)
    obtain ⟨ρ1, S1, s1, H1, ex, hs1, hev, hr1, hd, hex, hK⟩ := hp
    cases ex with
    | normal => cases e <;> first | exact hex.elim | exact ⟨ρ1, S1, s1, H1, .normal, hs1, hev, hr1, hd, trivial, hK⟩
    | ret => cases e <;> first | exact hex.elim | exact ⟨ρ1, S1, s1, H1, .ret, hs1, hev, hr1, hd, trivial, hK⟩
    | pan n => cases e <;> first | exact hex.elim | exact ⟨ρ1, S1, s1, H1, .pan n, hs1, hev, hr1, hd, hex, hK⟩
    | exit n =>
      cases e <;> first | exact hex.elim | skip
      rename_i m
      have hnm : n = m := hex
      subst hnm
      by_cases hid : n = id
      · subst hid
        simp only [Exit.inBlock, if_true]
        have hK' : K .normal s1 H1 := by simpa [blockK] using hK
        exact ⟨ρ1, S1, s1, H1, .normal, hs1, hev, hr1, hd, trivial, hK'⟩
      · simp only [Exit.inBlock, if_neg hid]
        have hbq : Nat.beq n id = false := by cases hq : Nat.beq n id with | false => rfl | true => exact absurd (Nat.eq_of_beq_eq_true hq) hid
        have hK' : K (.exit n) s1 H1 := by simpa [blockK, hbq] using hK
        exact ⟨ρ1, S1, s1, H1, .exit n, hs1, hev, hr1, hd, rfl, hK'⟩
  | loop b ih =>
    intro s H K h0 ρ S w a hs hr
    have h : LoopN (exec P b) s H K := h0
    rcases h with ⟨ι, inv, sl, hp, μ, pad, hpad, hlen, hoks, hokh, ⟨i0, hi0, hst, hsh⟩, hround⟩ | ⟨n, hU⟩
    · obtain ⟨t0, hs0, hev0⟩ := Sat.pad pad hpad hs
      have hr0 := RelS_pre t0 hr
      refine wp_mono (P := P) (c := .loop b) (Q := Post (ρ ++ t0) S (H ++ pad) w a.defers K) ?_ fun e a' w' hp => hp.from hev0
      clear hs hr h0
      have hs := hs0
      have hr := hr0
      clear hs0 hr0
      generalize ρ ++ t0 = ρ at *
      generalize H ++ pad = H at *
      simp only [forceS_eq, forceH_eq] at hround
      refine wp_loop_by (fun n a' w' => ∃ i ρ' S', inv i ∧ μ i = n ∧ Sat ρ' S' (hp i) w' ∧ Ev ρ S H w ρ' S' (hp i) w' ∧ RelS ρ' (sl i) a'.tmps.toList ∧ a'.defers = a.defers) ?_ (μ i0) a w ?_
      · rintro n a' w' ⟨i, ρ', S', hinv, rfl, hs', hev, hr', hd⟩
        refine wp_mono (ih (sl i) (hp i) _ (hround i hinv) ρ' S' w' a' hs' hr') fun e a2 w2 hq => ?_
        obtain ⟨ρ2, S2, s2, H2, ex, hs2, hev2, hr2, hd2, hex, hK⟩ := hq
        cases ex with
        | normal =>
          cases e <;> first | exact hex.elim | skip
          obtain ⟨j, hij, hj, hws, hwh⟩ := hK
          have hw := hs2.weak hwh (by rw [hlen]; exact hokh j hij)
          refine ⟨μ j, hj, j, ρ2.take (hp j).length, S2, hij, rfl, hw.1, ?_, ?_, hd2.trans hd⟩
          · have h12 := hev.trans hev2
            refine ⟨?_, h12.os, h12.tape, h12.output, h12.size, h12.keep, h12.imm, fun b hb => h12.own b (hw.2 b hb)⟩
            obtain ⟨t, ht⟩ := h12.pre
            refine ⟨t.take ((hp j).length - ρ.length), ?_⟩
            rw [ht, List.take_append, List.take_of_length_le (by rw [hs.len, hlen]; omega)]
          · rw [hlen]; exact wkS_rel hws (hoks j) hr2
        | exit n => cases e <;> first | exact hex.elim | exact ⟨ρ2, S2, s2, H2, .exit n, hs2, hev.trans hev2, hr2, hd2.trans hd, hex, hK⟩
        | ret => cases e <;> first | exact hex.elim | exact ⟨ρ2, S2, s2, H2, .ret, hs2, hev.trans hev2, hr2, hd2.trans hd, trivial, hK⟩
        | pan n => cases e <;> first | exact hex.elim | exact ⟨ρ2, S2, s2, H2, .pan n, hs2, hev.trans hev2, hr2, hd2.trans hd, hex, hK⟩
      · have hw := hs.weak hsh (by rw [hlen]; exact hokh i0 hi0)
        have hρ : ρ.take (hp i0).length = ρ := List.take_of_length_le (by rw [hs.len, hlen]; omega)
        rw [hρ] at hw
        refine ⟨i0, ρ, S, hi0, rfl, hw.1, ⟨⟨[], by simp⟩, rfl, rfl, rfl, Nat.le_refl _, fun _ _ _ => rfl, fun b hb => .inl hb, fun b hb => .inl (hw.2 b hb)⟩, ?_, rfl⟩
        have := wkS_rel hst (hoks i0) hr
        rw [← hlen i0, hρ] at this
        exact this
    · refine wp_loop_by (fun n a' w' => ∃ s' H' ρ' S', LoopU (exec P b) K n s' H' ∧ Sat ρ' S' H' w' ∧ Ev ρ S H w ρ' S' H' w' ∧ RelS ρ' s' a'.tmps.toList ∧ a'.defers = a.defers) ?_ n a w ⟨s, H, ρ, S, hU, hs, Ev.refl _ _ _ _, hr, rfl⟩
      rintro n a' w' ⟨s', H', ρ', S', hU, hs', hev, hr', hd⟩
      cases n with
      | zero => exact hU.elim
      | succ n =>
        refine wp_mono (ih s' H' _ hU ρ' S' w' a' hs' hr') fun e a2 w2 hq => ?_
        obtain ⟨ρ2, S2, s2, H2, ex, hs2, hev2, hr2, hd2, hex, hK⟩ := hq
        cases ex with
        | normal =>
          cases e <;> first | exact hex.elim | skip
          exact ⟨n, Nat.lt_succ_self n, s2, H2, ρ2, S2, hK, hs2, hev.trans hev2, hr2, hd2.trans hd⟩
        | exit n => cases e <;> first | exact hex.elim | exact ⟨ρ2, S2, s2, H2, .exit n, hs2, hev.trans hev2, hr2, hd2.trans hd, hex, hK⟩
        | ret => cases e <;> first | exact hex.elim | exact ⟨ρ2, S2, s2, H2, .ret, hs2, hev.trans hev2, hr2, hd2.trans hd, trivial, hK⟩
        | pan n => cases e <;> first | exact hex.elim | exact ⟨ρ2, S2, s2, H2, .pan n, hs2, hev.trans hev2, hr2, hd2.trans hd, hex, hK⟩
  where
  wpQuiet_mono {P : Program} {ops : Array Oper} {C : World → Prop} {Q Q' : Act → Prop} (hq : ∀ a, Q a → Q' a) : ∀ (l : List Oper) (a : Act), wpQuiet P ops C Q l a → wpQuiet P ops C Q' l a
    | [], a, h => hq a h
    | o :: l, a, h => by
      unfold wpQuiet at h ⊢
      split at h
      · rename_i hw; rw [if_pos hw]; exact Oper.quiet_mono (fun a => wpQuiet_mono hq l a) h
      · rename_i hw; rw [if_neg hw]; exact wpQuiet_mono hq l _ h

/-! ### Functions -/
theorem initK_rel : ∀ {n : Nat} {args : List AV} {K : List AV → Prop}, initK n args K → args.length ≤ n →
    ∃ s, K s ∧ ∀ (ρ : List Loc) (vs : List Value), RelS ρ args vs → RelS ρ s (vs ++ List.replicate (n - args.length) undef)
  | 0, [], K, h, _ => ⟨[], h, fun ρ vs hr => by cases vs <;> first | exact hr.elim | simp [RelS]⟩
  | n + 1, [], K, h, _ => by
    obtain ⟨s, hK, hs⟩ := initK_rel (n := n) (args := []) (K := fun s => K (.c .any :: s)) h (by simp)
    refine ⟨_, hK, fun ρ vs hr => ?_⟩
    cases vs with
    | cons _ _ => exact hr.elim
    | nil =>
      have := hs ρ [] trivial
      simp only [List.length_nil, Nat.sub_zero, List.nil_append] at this ⊢
      rw [List.replicate_succ]
      exact ⟨trivial, this⟩
  | n + 1, x :: args, K, h, hl => by
    obtain ⟨s, hK, hs⟩ := initK_rel (n := n) (args := args) (K := fun s => K (x :: s)) h (by simpa using hl)
    refine ⟨_, hK, fun ρ vs hr => ?_⟩
    cases vs with
    | nil => exact hr.elim
    | cons v vs =>
      have := hs ρ vs hr.2
      refine ⟨hr.1, ?_⟩
      simpa using this
  | 0, _ :: _, _, _, hl => by simp at hl

def resSem (tmps : Array Value) : ResultVar → Sem Value
  | .tmp t => pure (tmps.getD t undef)
  | .cell a t => do loadVar t (← asAddr (tmps.getD a undef))

theorem loadL_res {P : Program} {H : List Ent} {K : AV → Prop} {T : TypeId} {i off : Nat} (h : loadL P T (nthE H i) off K) :
    ∃ av, K av ∧ ∀ (ρ : List Loc) (S : Nat → Prop) (w : World) (l : Loc), Sat ρ S H w → ρ[i]? = some l → ∃ v, (loadVar T ⟨l.b, off, none⟩).run P w = .ok v w ∧ av.rel ρ v := by
  obtain ⟨av, hK, hr⟩ := loadL_sound (o := { dst := none, op := .load T (.tmp 0), type := 0, pos := "", after := #[], guard := none }) (s := [.c (.lp i off)]) (x := .tmp 0) rfl rfl h
  refine ⟨av, hK, fun ρ S w l hs hl => ?_⟩
  obtain ⟨v, hrun, hrel⟩ := hr ρ S w { tmps := #[.pointer (some ⟨l.b, off, none⟩)], defers := [] } hs ⟨⟨l, hl, rfl⟩, trivial⟩
  refine ⟨v, ?_, hrel⟩
  unfold execOp at hrun
  simp only [Act.eval, Instr.loadAt, Sem.run_bind] at hrun
  have e : (Instr.sureAddr ((#[Value.pointer (some ⟨l.b, off, none⟩)] : Array Value).getD 0 undef)).run P w = .ok ⟨l.b, off, none⟩ w := rfl
  rw [e] at hrun
  simp only [Result.andThen_ok] at hrun
  revert hrun
  generalize (loadVar T ⟨l.b, off, none⟩).run P w = r
  intro hrun
  cases r with
  | ok x w' =>
    simp only [Result.andThen_ok, Sem.run_pure, Result.ok.injEq, Next.value.injEq] at hrun
    rw [hrun.1, hrun.2]
  | halt x w' => simp [Result.andThen] at hrun

theorem resOne_sound {P : Program} {r : ResultVar} {s : List AV} {H : List Ent} {K : AV → Prop} (h : resOne P r s H K) :
    ∃ av, K av ∧ ∀ (ρ : List Loc) (S : Nat → Prop) (w : World) (tmps : Array Value), Sat ρ S H w → RelS ρ s tmps.toList → ∃ v, (resSem tmps r).run P w = .ok v w ∧ av.rel ρ v := by
  unfold resOne at h
  split at h
  · rename_i t
    rw [forceA_eq] at h
    exact ⟨_, h, fun ρ S w tmps _ hr => ⟨_, rfl, by have := nth_rel t hr; simpa using this⟩⟩
  · rename_i a T
    split at h
    · rename_i i off hx
      obtain ⟨av, hK, hl⟩ := loadL_res h
      refine ⟨av, hK, fun ρ S w tmps hs hr => ?_⟩
      have hxr := nth_rel a hr
      rw [hx] at hxr
      obtain ⟨l, hlo, he⟩ := hxr
      obtain ⟨v, hrun, hrel⟩ := hl ρ S w l hs hlo
      have he' : tmps.getD a undef = .pointer (some ⟨l.b, off, none⟩) := by simpa using he
      exact ⟨v, by simp only [resSem, he', asAddr, Sem.run_bind, Sem.run_pure, Result.andThen_ok, hrun], hrel⟩
    · exact h.elim

theorem resAll_sound {P : Program} {s : List AV} {H : List Ent} : ∀ {rs : List ResultVar} {K : List AV → Prop}, resAll P s H rs K →
    ∃ l, K l ∧ l.length = rs.length ∧ ∀ (ρ : List Loc) (S : Nat → Prop) (w : World) (tmps : Array Value), Sat ρ S H w → RelS ρ s tmps.toList → ∃ vs, (rs.mapM (resSem tmps)).run P w = .ok vs w ∧ RelS ρ l vs
  | [], K, h => ⟨[], h, rfl, fun _ _ _ _ _ _ => ⟨[], by simp, trivial⟩⟩
  | r :: rs, K, h0 => by
    have h : resOne P r s H fun av => resAll P s H rs fun xs => K (av :: xs) := h0
    obtain ⟨av, hK, hr⟩ := resOne_sound h
    obtain ⟨l, hK2, hl, hrs⟩ := resAll_sound hK
    refine ⟨av :: l, hK2, by simp [hl], fun ρ S w tmps hs hrel => ?_⟩
    obtain ⟨v, hrun, hv⟩ := hr ρ S w tmps hs hrel
    obtain ⟨vs, hrun2, hvs⟩ := hrs ρ S w tmps hs hrel
    exact ⟨v :: vs, by simp only [List.mapM_cons, Sem.run_bind, hrun, Result.andThen_ok, hrun2, Sem.run_pure], hv, hvs⟩

theorem plainS_rel {ρ : List Loc} : ∀ {l : List AV} {xs vs : List Value}, plainS l = some xs → RelS ρ l vs → vs = xs
  | [], xs, [], h, _ => by simp [plainS] at h; exact h.symm
  | .c (.v x) :: l, xs, v :: vs, h, hr => by
    simp only [plainS] at h
    split at h
    · rename_i ys hys
      obtain rfl := Option.some.inj h
      have h1 : v = x := hr.1
      rw [h1, plainS_rel hys hr.2]
    · cases h
  | .c .any :: _, _, _, h, _ => by simp [plainS] at h
  | .c (.lp ..) :: _, _, _, h, _ => by simp [plainS] at h
  | .c (.sl ..) :: _, _, _, h, _ => by simp [plainS] at h
  | .agg _ :: _, _, _, h, _ => by simp [plainS] at h
  | [], _, _ :: _, _, hr => hr.elim
  | .c (.v _) :: _, _, [], _, hr => hr.elim

theorem results_eq (fn : Func) (tmps : Array Value) : results fn tmps = (do
    let vs ← fn.results.mapM (resSem tmps)
    pure (if h : vs.size = 1 then vs[0] else .tuple vs)) := by
  unfold results
  congr 1

theorem resK_sound {P : Program} {fn : Func} {s : List AV} {H : List Ent} {K : Out → Prop} (h : resK P fn.results.toList s H K) :
    ∃ out, K out ∧ ∀ (ρ : List Loc) (S : Nat → Prop) (w : World) (tmps : Array Value), Sat ρ S H w → RelS ρ s tmps.toList → ∃ v, (results fn tmps).run P w = .ok v w ∧ OutOk ρ out (.returned v) := by
  unfold resK at h
  split at h
  · rename_i r hr
    obtain ⟨av, hK, hs⟩ := resOne_sound h
    refine ⟨.val av, hK, fun ρ S w tmps hsat hrel => ?_⟩
    obtain ⟨v, hrun, hv⟩ := hs ρ S w tmps hsat hrel
    refine ⟨v, ?_, ⟨v, rfl, hv⟩⟩
    have hfr : fn.results = #[r] := by rw [← Array.toArray_toList (xs := fn.results), hr]
    rw [results_eq, hfr, Sem.run_bind, Array.mapM_eq_mapM_toList]
    simp [hrun]
  · rename_i hne
    obtain ⟨l, hK, hl, hs⟩ := resAll_sound h
    have key : ∀ (ρ : List Loc) (S : Nat → Prop) (w : World) (tmps : Array Value), Sat ρ S H w → RelS ρ s tmps.toList → ∃ vs, (results fn tmps).run P w = .ok (.tuple vs.toArray) w ∧ RelS ρ l vs := fun ρ S w tmps hsat hrel => by
      obtain ⟨vs, h1, hr⟩ := hs ρ S w tmps hsat hrel
      refine ⟨vs, ?_, hr⟩
      rw [results_eq, Sem.run_bind, Array.mapM_eq_mapM_toList, Sem.run_map, h1]
      have hlen : vs.length ≠ 1 := by
        intro e
        rw [← RelS_len hr, hl] at e
        match hq : fn.results.toList, e with
        | [r], _ => exact hne r hq
      simp only [Result.andThen_ok, Sem.run_pure]
      rw [dif_neg (by simpa using hlen)]
    split at hK
    · rename_i xs hp
      refine ⟨_, hK, fun ρ S w tmps hsat hrel => ?_⟩
      obtain ⟨vs, h1, hr⟩ := key ρ S w tmps hsat hrel
      rw [plainS_rel hp hr] at h1
      exact ⟨_, h1, _, rfl, rfl⟩
    · refine ⟨_, hK, fun ρ S w tmps hsat hrel => ?_⟩
      obtain ⟨vs, h1, hr⟩ := key ρ S w tmps hsat hrel
      exact ⟨_, h1, vs, rfl, hr⟩

/-- What the executor shows of a function's body holds of its calls. -/
theorem spec_of_exec {P : Program} (hm : P.follows .mixedOrders = true) {f : FuncId} {fn : Func} {c : Code} (hf : P.funcs[f]? = some fn) (hn : (fn.name == "runtime.NumGoroutine") = false) (hb : fn.body = some c)
    {args : List AV} (hl : Nat.ble args.length fn.ntmps = true) {H : List Ent} {K : Out → List Ent → Prop} (h : initK fn.ntmps args fun s => exec P c s H (endK P fn.results.toList K)) : SpecH P f args H K := by
  refine ⟨⟨fn, hf, hn, by rw [hb]; rfl⟩, fun ρ S w vs hs hr => ?_⟩
  have hvl := RelS_len hr
  obtain ⟨s0, h, hs0⟩ := initK_rel h (Nat.le_of_ble_eq_true hl)
  have hinit : RelS ρ s0 (vs.toArray ++ Array.replicate (fn.ntmps - vs.toArray.size) undef).toList := by
    have := hs0 ρ vs hr
    simpa [hvl] using this
  refine calls_of_wp hf hb (wp_mono (exec_sound hm c _ H _ h ρ S w ⟨_, []⟩ hs hinit) ?_)
  · intro e a w' hp
    obtain ⟨ρ1, S1, s1, H1, ex, hs1, hev, hr1, hd, hex, hK⟩ := hp
    have fin : RelS ρ1 s1 a.tmps.toList → ∀ {K' : Out → Prop}, resK P fn.results.toList s1 H1 K' → (∀ out, K' out → K out H1) → ∃ v, (results fn a.tmps).run P w' = .ok v w' ∧
        ∃ ρ' S' H' out, Sat ρ' S' H' w' ∧ Ev ρ S H w ρ' S' H' w' ∧ OutOk ρ' out (.returned v) ∧ K out H' := fun hr2 {_} hK1 hK2 => by
      obtain ⟨out, hK3, hres⟩ := resK_sound hK1
      obtain ⟨v, hrun, hv⟩ := hres ρ1 S1 w' a.tmps hs1 hr2
      exact ⟨v, hrun, ρ1, S1, H1, out, hs1, hev, hv, hK2 out hK3⟩
    cases ex with
    | normal =>
      cases e <;> first | exact hex.elim | skip
      obtain ⟨v, hrun, hR⟩ := fin hr1 (K' := fun out => K out H1) hK fun _ h => h
      exact ⟨hd, v, hrun, hR⟩
    | ret =>
      cases e <;> first | exact hex.elim | skip
      obtain ⟨v, hrun, hR⟩ := fin hr1 (K' := fun out => K out H1) hK fun _ h => h
      exact ⟨hd, v, hrun, hR⟩
    | exit n => exact hK.elim
    | pan ch =>
      cases e <;> first | exact hex.elim | skip
      have : ch = _ := hex
      subst this
      exact ⟨hd, ρ1, S1, H1, .pan ch, hs1, hev, rfl, hK⟩
end Go.AX

/-
  AX, twelfth text: how the executor is used.
-/
namespace Go.AX

/-- The call hands back x and leaves the abstract memory as it is. -/
def Ret (x : Value) (H : List Ent) : Out → List Ent → Prop := fun out H' => out = .val (.c (.v x)) ∧ H' = H
/-- The call hands back some x of R and leaves the abstract memory as it is. -/
def RetR (R : Value → Prop) (H : List Ent) : Out → List Ent → Prop := fun out H' => ∃ x, out = .val (.c (.v x)) ∧ R x ∧ H' = H

theorem Sat.nil (w : World) : Sat [] (fun _ => False) [] w :=
  ⟨rfl, fun i e he => by simp at he, fun i j e f b he => by simp at he, fun b _ h => h, fun b h => h.elim⟩

theorem RelS_pvs {ρ : List Loc} : ∀ {xs vs : List Value}, RelS ρ (pvs xs) vs → vs = xs
  | [], [], _ => rfl
  | x :: xs, v :: vs, h => by
    have h1 : v = x := h.1
    rw [h1, RelS_pvs (xs := xs) h.2]
  | [], _ :: _, h => h.elim
  | _ :: _, [], h => h.elim

theorem mb_nil (ρ : List Loc) (b : Nat) : ¬ mb ρ [] b := fun ⟨i, e, he, _⟩ => by simp at he

/-- What holds of a call that knows of no memory holds of it in any. -/
theorem SpecH.frame {P : Program} {f : FuncId} {xs : List Value} {R : Value → Prop} (h : SpecH P f (pvs xs) [] fun out _ => ∃ x, out = .val (.c (.v x)) ∧ R x) (H : List Ent) : SpecH P f (pvs xs) H (RetR R H) := by
  refine ⟨h.ok, fun ρ S w vs hs hr => ?_⟩
  have hv := RelS_pvs hr
  subst hv
  refine (h.run [] (fun _ => False) w vs (Sat.nil w) (pvs_rel [] vs)).mono fun e w' ⟨ρ', S', H', out, hs', hev, hout, x, hx, hR⟩ => ?_
  subst hx
  obtain ⟨v, rfl, hv⟩ := hout
  have : v = x := hv
  subst this
  have hk : ∀ b, b < w.heap.size → w'.heap[b]? = w.heap[b]? := fun b hb => hev.keep b hb (mb_nil [] b)
  refine ⟨ρ, S, H, .val (.c (.v v)), ⟨hs.len, fun i e he => ?_, hs.inj, hs.out, fun b hb => Nat.lt_of_lt_of_le (hs.low b hb) hev.size⟩,
    ⟨⟨[], by simp⟩, hev.os, hev.tape, hev.output, hev.size, fun b hb _ => hk b hb, fun b hb => .inl hb, fun b hb => .inl hb⟩, ⟨v, rfl, rfl⟩, v, rfl, hR, rfl⟩
  have := (hs.ent i e he).move (w' := w') [] (fun b hb => hk _ (hs.blk_lt he hb)) fun b hb => hk b (hs.low b hb)
  simpa using this

theorem pureC {P : Program} (hm : P.follows .mixedOrders = true) {f : FuncId} {fn : Func} {c : Code} (hf : P.funcs[f]? = some fn) (hn : (fn.name == "runtime.NumGoroutine") = false) (hb : fn.body = some c)
    {xs : List Value} (hl : Nat.ble (pvs xs).length fn.ntmps = true) {r : Value} (h : initK fn.ntmps (pvs xs) fun s => exec P c s [] (endK P fn.results.toList fun out _ => out = .val (.c (.v r)))) (H : List Ent) : SpecH P f (pvs xs) H (Ret r H) :=
  ((spec_of_exec hm hf hn hb hl h).mono fun out _ ho => ⟨r, ho, rfl⟩ : SpecH P f (pvs xs) [] fun out _ => ∃ x, out = .val (.c (.v x)) ∧ x = r).frame H |>.mono fun _ _ ⟨_, ho, hx, hH⟩ => ⟨by rw [ho, hx], hH⟩

/-- A call whose contract gives one value. -/
theorem call1 {P : Program} {f : FuncId} {args : List AV} {H : List Ent} {x : Value} {K : Out → List Ent → Prop} (h : SpecH P f args H (Ret x H)) (hk : K (.val (.c (.v x))) H) : SpecH P f args H K :=
  h.mono fun _ _ ⟨ho, hH⟩ => by rw [ho, hH]; exact hk
theorem callQ {P : Program} {f : FuncId} {args : List AV} {H : List Ent} {x : Value} {K : AV → Prop} (h : SpecH P f args H (Ret x H)) (hk : K (.c (.v x))) : QCall P f args H K :=
  .intro x h (by rw [forceV_eq]; exact hk)

theorem brd_dec {p : Prop} [Decidable p] {A B : Prop} (hA : p → A) (hB : ¬ p → B) : brd (decide p) A B :=
  brd_intro (fun h => hA (of_decide_eq_true h)) fun h => hB (of_decide_eq_false h)
theorem brd_eq {a b : Int} {A B : Prop} (hA : a = b → A) (hB : ¬ a = b → B) : brd (a == b) A B :=
  brd_intro (fun h => hA (by simpa using h)) fun h => hB (by simpa using h)
theorem brd_ne {a b : Int} {A B : Prop} (hA : ¬ a = b → A) (hB : a = b → B) : brd (a != b) A B :=
  brd_intro (fun h => hA (by simpa using h)) fun h => hB (by simpa using h)
theorem wrap_eq (x : Int) : IntKind.wrap .i64 x = if x % 18446744073709551616 ≥ 9223372036854775808 then x % 18446744073709551616 - 18446744073709551616 else x % 18446744073709551616 := by
  simp [IntKind.wrap, IntKind.bits, IntKind.signed]
theorem wrap_i64 {x : Int} (h : -9223372036854775808 ≤ x ∧ x < 9223372036854775808) : IntKind.wrap .i64 x = x := by
  rw [wrap_eq]
  split <;> omega

/-! ### Loops -/
theorem wkC_refl (c : CV) : wkC c c := by cases c <;> simp [wkC]
theorem wkCs_refl : ∀ cs : List CV, wkCs cs cs
  | [] => trivial
  | c :: cs => ⟨wkC_refl c, wkCs_refl cs⟩
theorem wkE_refl (e : Ent) : wkE e e := by
  cases e with
  | blk T cs => exact ⟨rfl, wkCs_refl cs⟩
  | row T a n cs => exact ⟨rfl, rfl, rfl, rfl⟩
  | fact F => exact fun _ h => h
  | fz => exact ⟨rfl, rfl, rfl, rfl, rfl, rfl⟩
  | app => exact .inl ⟨rfl, rfl, rfl, rfl, rfl, rfl⟩
  | mp => exact ⟨rfl, rfl, rfl⟩
  | dead => trivial
/-- A slice that grew is nil again. -/
theorem wkE_nil {T U : TypeId} {sz sz' : Nat} {xs : List Value} {a : Option Addr} {n cap : Nat} : wkE (.app T sz xs a n cap) (.app U sz' [] none 0 0) := .inr (.inl ⟨rfl, rfl, rfl, rfl⟩)
theorem wkH_pre : ∀ (H X : List Ent), wkH (H ++ X) H
  | [], _ => by simp [wkH]
  | e :: H, X => ⟨wkE_refl e, wkH_pre H X⟩
theorem wkH_refl (H : List Ent) : wkH H H := by simpa using wkH_pre H []
def okHB (n : Nat) : List Ent → Bool
  | [] => true
  | .blk _ cs :: H => match okCsB n cs with | true => okHB n H | false => false
  | .row _ _ _ cs :: H => match okCsB n cs with | true => okHB n H | false => false
  | _ :: H => okHB n H
theorem okHB_eq {n : Nat} : ∀ {H : List Ent}, okHB n H = true → okH n H
  | [], _ => trivial
  | .blk _ cs :: H, h => by
    simp only [okHB] at h
    split at h
    · rename_i hc; exact ⟨okCsB_eq hc, okHB_eq h⟩
    · cases h
  | .row _ _ _ cs :: H, h => by
    simp only [okHB] at h
    split at h
    · rename_i hc; exact ⟨okCsB_eq hc, okHB_eq h⟩
    · cases h
  | .fact _ :: H, h => ⟨trivial, okHB_eq (H := H) h⟩
  | .fz .. :: H, h => ⟨trivial, okHB_eq (H := H) h⟩
  | .app .. :: H, h => ⟨trivial, okHB_eq (H := H) h⟩
  | .mp .. :: H, h => ⟨trivial, okHB_eq (H := H) h⟩
  | .dead :: H, h => ⟨trivial, okHB_eq (H := H) h⟩
/-- A loop that leaves the abstract memory as it is. -/
theorem loopS {E : List AV → List Ent → (Ex → List AV → List Ent → Prop) → Prop} {s : List AV} {H : List Ent} {K : Ex → List AV → List Ent → Prop}
    (ι : Type) (inv : ι → Prop) (sl : ι → List AV) (μ : ι → Nat) (okh : okHB H.length H = true) (oks : ∀ i, okSB H.length (sl i) = true)
    (i0 : ι) (h0 : inv i0) (start : wkS s (sl i0))
    (round : ∀ i, inv i → forceS (sl i) fun s => E s H fun e s' H' => match e with
        | .normal => ∃ j, inv j ∧ μ j < μ i ∧ wkS s' (sl j) ∧ wkH H' H
        | .exit n => K (.exit n) s' H'
        | .ret => K .ret s' H'
        | .pan c => K (.pan c) s' H') : LoopN E s H K :=
  .intro ι inv sl (fun _ => H) μ [] rfl (fun _ => by simp) (by simpa using oks) (fun _ _ => by simpa using okHB_eq okh) ⟨i0, h0, start, by simpa using wkH_refl H⟩ fun i hi => by
    rw [forceS_eq, forceH_eq]
    have := round i hi
    rw [forceS_eq] at this
    exact this
theorem av_int {k : IntKind} {a b : Int} (h : a = b) : AV.c (.v (.int k a)) = AV.c (.v (.int k b)) := by rw [h]
end Go.AX
namespace Go.AX
theorem VrN.norm {n m : Int} {K : Int → Prop} (h : n = m) (hk : K m) : VrN n K := .keep (by rw [h]; exact hk)
end Go.AX

/-
  AX, fourteenth text: calls over plain values and facts on memory that nobody writes; what a call made is handed on as such.
-/
namespace Go.AX
open Go.RowKit

theorem Imm.mono {S : Nat → Prop} {w : World} {F G : World → Prop} (h : Imm S w F) (hk : ∀ w, F w → G w) : Imm S w G := ⟨hk w h.1, fun w' hw => hk w' (h.2 w' hw)⟩
theorem Imm.grow {S S' : Nat → Prop} {w : World} {F : World → Prop} (h : Imm S w F) (hs : ∀ b, S b → S' b) : Imm S' w F := ⟨h.1, fun w' hw => h.2 w' fun b hb => hw b (hs b hb)⟩
theorem Imm.and {S : Nat → Prop} {w : World} {F G : World → Prop} (h : Imm S w F) (k : Imm S w G) : Imm S w fun w => F w ∧ G w := ⟨⟨h.1, k.1⟩, fun w' hw => ⟨h.2 w' hw, k.2 w' hw⟩⟩
theorem Imm.triv (S : Nat → Prop) (w : World) : Imm S w fun _ => True := ⟨trivial, fun _ _ => trivial⟩

theorem EntOk.grow {ρ : List Loc} {S S' : Nat → Prop} {w : World} {i : Nat} {e : Ent} (h : EntOk ρ S w i e) (hs : ∀ b, S b → S' b) : EntOk ρ S' w i e := by
  cases e with
  | fact F => exact Imm.grow h hs
  | fz => exact ⟨h.1, Imm.grow h.2 hs⟩
  | _ => exact h

theorem Facts_imm {ρ : List Loc} {S : Nat → Prop} {w : World} : ∀ {H : List Ent}, (∀ e ∈ H, ∃ i, EntOk ρ S w i e ∧ match e with | .app _ _ _ a _ _ => ∀ b, a.map Addr.block = some b → S b | .mp b _ _ => S b | _ => True) → Imm S w (Facts H)
  | [], _ => Imm.triv S w
  | .fact F :: es, h => by
    obtain ⟨i, hi, _⟩ := h (.fact F) (by simp)
    exact Imm.and hi (Facts_imm fun e he => h e (by simp [he]))
  | .fz T sz n xs b cap :: es, h => by
    obtain ⟨i, hi, _⟩ := h (.fz T sz n xs b cap) (by simp)
    exact Imm.and hi.2 (Facts_imm fun e he => h e (by simp [he]))
  | .blk .. :: es, h => Facts_imm (H := es) fun e he => h e (by simp [he])
  | .row .. :: es, h => Facts_imm (H := es) fun e he => h e (by simp [he])
  | .app T sz xs a n cap :: es, h => by
    obtain ⟨i, hi, hS⟩ := h (.app T sz xs a n cap) (by simp)
    have h1 : Imm S w (SlAt a (n * sz) xs) := ⟨appSl hi, fun w' hw => by
      rcases hi with ⟨rfl, rfl, rfl, rfl⟩ | ⟨b, rfl, hr⟩
      · rw [Nat.zero_mul]; exact SlAt.nil
      · exact (hr.move (hw b (hS b rfl))).sl⟩
    exact Imm.and h1 (Facts_imm fun e he => h e (by simp [he]))
  | .mp b es c :: H, h => by
    obtain ⟨i, hi, hS⟩ := h (.mp b es c) (by simp)
    have h1 : Imm S w (fun w => w.heap[b]? = some (.map es c)) := ⟨hi, fun w' hw => (hw b hS).trans hi⟩
    exact Imm.and h1 (Facts_imm fun e he => h e (by simp [he]))
  | .dead :: es, h => Facts_imm (H := es) fun e he => h e (by simp [he])
/-- The blocks of slices that still grow. -/
def appB (H : List Ent) (b : Nat) : Prop := (∃ T sz xs a n cap, Ent.app T sz xs a n cap ∈ H ∧ a.map Addr.block = some b) ∨ ∃ es c, Ent.mp b es c ∈ H
theorem appB_mb {ρ : List Loc} {H : List Ent} {b : Nat} (h : appB H b) : mb ρ H b := by
  rcases h with ⟨T, sz, xs, a, n, cap, hm, hb⟩ | ⟨es, c, hm⟩
  · obtain ⟨i, hi⟩ := List.getElem?_of_mem hm
    exact ⟨i, _, hi, hb⟩
  · obtain ⟨i, hi⟩ := List.getElem?_of_mem hm
    exact ⟨i, _, hi, rfl⟩
theorem Sat.imm {ρ : List Loc} {S : Nat → Prop} {H : List Ent} {w : World} (h : Sat ρ S H w) : Imm (fun b => S b ∨ appB H b) w (Facts H) :=
  Facts_imm (ρ := ρ) fun e he => by
    obtain ⟨i, hi⟩ := List.getElem?_of_mem he
    refine ⟨i, (h.ent i e hi).grow fun b hb => .inl hb, ?_⟩
    cases e with
    | app T sz xs a n cap => exact fun b hb => .inr (.inl ⟨T, sz, xs, a, n, cap, he, hb⟩)
    | mp b es c => exact .inr (.inr ⟨es, c, he⟩)
    | _ => trivial
/-- What is known of memory that nobody writes, slices that still grow aside. -/
def FactsP : List Ent → World → Prop
  | [], _ => True
  | .fz T sz n xs b cap :: es, w => RowF T sz n xs b cap w ∧ FactsP es w
  | .fact F :: es, w => F w ∧ FactsP es w
  | _ :: es, w => FactsP es w
theorem FactsP_imm {ρ : List Loc} {S : Nat → Prop} {w : World} : ∀ {H : List Ent}, (∀ e ∈ H, ∃ i, EntOk ρ S w i e) → Imm S w (FactsP H)
  | [], _ => Imm.triv S w
  | .fact F :: es, h => by
    obtain ⟨i, hi⟩ := h (.fact F) (by simp)
    exact Imm.and hi (FactsP_imm fun e he => h e (by simp [he]))
  | .fz T sz n xs b cap :: es, h => by
    obtain ⟨i, hi⟩ := h (.fz T sz n xs b cap) (by simp)
    exact Imm.and hi.2 (FactsP_imm fun e he => h e (by simp [he]))
  | .blk .. :: es, h => FactsP_imm (H := es) fun e he => h e (by simp [he])
  | .row .. :: es, h => FactsP_imm (H := es) fun e he => h e (by simp [he])
  | .app .. :: es, h => FactsP_imm (H := es) fun e he => h e (by simp [he])
  | .mp .. :: es, h => FactsP_imm (H := es) fun e he => h e (by simp [he])
  | .dead :: es, h => FactsP_imm (H := es) fun e he => h e (by simp [he])
theorem Sat.immP {ρ : List Loc} {S : Nat → Prop} {H : List Ent} {w : World} (h : Sat ρ S H w) : Imm S w (FactsP H) :=
  FactsP_imm (ρ := ρ) fun e he => by
    obtain ⟨i, hi⟩ := List.getElem?_of_mem he
    exact ⟨i, h.ent i e hi⟩

/-- A call over plain values, under a fact on memory that nobody writes: a value, and a fact on it. -/
structure SpecF (P : Program) (f : FuncId) (xs : List Value) (F : World → Prop) (R : Value → (World → Prop) → Prop) : Prop where
  ok : CallOk P f
  run : ∀ (S : Nat → Prop) (w : World), Imm S w F → (∀ b, S b → b < w.heap.size) → Calls P f xs.toArray w fun e w' =>
    ∃ v G S', e = .returned v ∧ R v G ∧ Imm S' w' G ∧ (∀ b, S' b → S b ∨ w.heap.size ≤ b) ∧ (∀ b, S' b → b < w'.heap.size) ∧ Below w.heap.size w w'

theorem below_ev {ρ : List Loc} {S S' : Nat → Prop} {H H' : List Ent} {w w' : World} (t : List Loc) (h : Below w.heap.size w w') (hS : ∀ b, S' b → S b ∨ w.heap.size ≤ b) (hm : ∀ b, mb (ρ ++ t) H' b → mb ρ H b) : Ev ρ S H w (ρ ++ t) S' H' w' :=
  ⟨⟨t, rfl⟩, h.os, h.tape, h.output, h.size, fun b hb _ => h.block b hb, fun b hb => (hS b hb).elim .inl fun h => .inr (.inr h), fun b hb => .inl (hm b hb)⟩

theorem Sat.below {ρ : List Loc} {S : Nat → Prop} {H : List Ent} {w w' : World} (hs : Sat ρ S H w) (h : Below w.heap.size w w') : Sat ρ S H w' :=
  ⟨hs.len, fun i e he => by
      have := (hs.ent i e he).move (w' := w') [] (fun b hb => h.block _ (hs.blk_lt he hb)) fun b hb => h.block b (hs.low b hb)
      simpa using this,
    hs.inj, hs.out, fun b hb => Nat.lt_of_lt_of_le (hs.low b hb) h.size⟩

/-- The fact that a call gave is kept. -/
theorem Sat.addFact {ρ : List Loc} {S S' : Nat → Prop} {H : List Ent} {w w' : World} {G : World → Prop} (hs : Sat ρ S H w) (h : Below w.heap.size w w') (hG : Imm S' w' G) (hS : ∀ b, S' b → S b ∨ w.heap.size ≤ b) (hl : ∀ b, S' b → b < w'.heap.size) :
    Sat (ρ ++ [⟨0, 0⟩]) (fun b => S b ∨ S' b) (H ++ [.fact G]) w' ∧ ∀ b, mb (ρ ++ [⟨0, 0⟩]) (H ++ [.fact G]) b → mb ρ H b := by
  have h1 := hs.below h
  have hcase : ∀ (i : Nat) (e : Ent), (H ++ [Ent.fact G])[i]? = some e → (i < H.length ∧ H[i]? = some e) ∨ e = .fact G := fun i e he => by
    by_cases hi : i < H.length
    · rw [List.getElem?_append_left hi] at he; exact .inl ⟨hi, he⟩
    · rw [List.getElem?_append_right (by omega)] at he
      have : i - H.length < 1 := by have := (List.getElem?_eq_some_iff.1 he).1; simpa using this
      have h0 : i - H.length = 0 := by omega
      rw [h0] at he
      simp at he
      exact .inr he.symm
  have hb2 : ∀ (i : Nat) (e : Ent) (b : Nat), (H ++ [Ent.fact G])[i]? = some e → entB (ρ ++ [⟨0, 0⟩]) i e = some b → H[i]? = some e ∧ entB ρ i e = some b := fun i e b he hb => by
    rcases hcase i e he with ⟨hi, he'⟩ | rfl
    · rw [entB_pre _ (by rw [hs.len]; exact hi)] at hb
      exact ⟨he', hb⟩
    · cases hb
  have hmb : ∀ b, mb (ρ ++ [⟨0, 0⟩]) (H ++ [.fact G]) b → mb ρ H b := by
    rintro b ⟨i, e, he, hb⟩
    exact ⟨i, e, hb2 i e b he hb⟩
  refine ⟨⟨by simp [hs.len], fun i e he => ?_, fun i j e f b he hf heb hfb => ?_, fun b hb hn => ?_, fun b hb => ?_⟩, hmb⟩
  · rcases hcase i e he with ⟨hi, he'⟩ | rfl
    · have := (hs.ent i e he').move (w' := w') [⟨0, 0⟩] (fun b hb => h.block _ (hs.blk_lt he' hb)) fun b hb => h.block b (hs.low b hb)
      exact this.grow fun b hb => .inl hb
    · exact Imm.grow hG fun b hb => .inr hb
  · have h1 := hb2 i e b he heb
    have h2 := hb2 j f b hf hfb
    exact hs.inj i j e f b h1.1 h2.1 h1.2 h2.2
  · obtain ⟨i, e, he, heb⟩ := hmb b hb
    rcases hn with hn | hn
    · exact hs.out _ ⟨i, e, he, heb⟩ hn
    · rcases hS _ hn with h2 | h2
      · exact hs.out _ ⟨i, e, he, heb⟩ h2
      · have := hs.blk_lt he heb; omega
  · rcases hb with hb | hb
    · exact h1.low b hb
    · exact hl b hb

theorem SpecF.call {P : Program} {f : FuncId} {xs : List Value} {F : World → Prop} {R : Value → (World → Prop) → Prop} {H : List Ent} {K : Out → List Ent → Prop} (h : SpecF P f xs F R) (hF : ∀ w, FactsP H w → F w)
    (hk : ∀ v G, R v G → snocK H (.fact G) 0 fun H' _ => K (.val (.c (.v v))) H') : SpecH P f (pvs xs) H K := by
  simp only [snocK_eq] at hk
  refine ⟨h.ok, fun ρ S w vs hs hr => ?_⟩
  obtain rfl := RelS_pvs hr
  refine (h.run S w (hs.immP.mono hF) hs.low).mono fun e w' ⟨v, G, S', he, hR, hG, hS, hlow, bel⟩ => ?_
  have hsat := hs.addFact bel hG hS hlow
  exact ⟨_, _, _, .val (.c (.v v)), hsat.1, below_ev [⟨0, 0⟩] bel (fun b hb => hb.elim .inl (hS b)) hsat.2, ⟨v, he, rfl⟩, hk v G hR⟩

/-- Where the fact is not wanted any more. -/
theorem SpecF.call0 {P : Program} {f : FuncId} {xs : List Value} {F : World → Prop} {R : Value → (World → Prop) → Prop} {H : List Ent} {K : Out → List Ent → Prop} (h : SpecF P f xs F R) (hF : ∀ w, Facts H w → F w)
    (hk : ∀ v G, R v G → K (.val (.c (.v v))) H) : SpecH P f (pvs xs) H K := by
  refine ⟨h.ok, fun ρ S w vs hs hr => ?_⟩
  obtain rfl := RelS_pvs hr
  refine (h.run _ w (hs.imm.mono hF) (fun b hb => hb.elim (hs.low b) fun hb => by obtain ⟨i, e, he, heb⟩ := appB_mb (ρ := ρ) hb; exact hs.blk_lt he heb)).mono fun e w' ⟨v, G, S', he, hR, hG, hS, hlow, bel⟩ => ?_
  exact ⟨ρ, S, H, .val (.c (.v v)), hs.below bel, by simpa using below_ev (S := S) (S' := S) (ρ := ρ) (H := H) (H' := H) [] bel (fun b hb => .inl hb) (fun b hb => by simpa using hb), ⟨v, he, rfl⟩, hk v G hR⟩

/-! ### From a body to such a call -/
def EntF (ρ : List Loc) (w : World) (i : Nat) : Ent → Prop
  | .blk T cs => ∃ l arr, ρ[i]? = some l ∧ w.heap[l.b]? = some (.cells arr T (0, 0)) ∧ RelL ρ cs arr.toList
  | .row T sz n cs => ∃ l arr, ρ[i]? = some l ∧ w.heap[l.b]? = some (.cells arr T (0, 0)) ∧ cs.length = n * sz ∧ n ≤ l.cap ∧ l.cap ≤ maxLen ∧ arr.size = l.cap * sz ∧ RelL ρ cs (arr.toList.take (n * sz))
  | .fact F => F w
  | .fz T sz n xs b cap => ρ[i]? = some ⟨b, cap⟩ ∧ RowF T sz n xs b cap w
  | .app T sz xs a n cap => (a = none ∧ n = 0 ∧ cap = 0 ∧ xs = []) ∨ ∃ b, a = some ⟨b, 0, none⟩ ∧ RowF T sz n xs b cap w
  | .mp b es c => w.heap[b]? = some (.map es c)
  | .dead => True
/-- What an abstract memory says of a world, its places given. -/
def All (ρ : List Loc) (H : List Ent) (w : World) : Prop := ∀ i e, H[i]? = some e → EntF ρ w i e
/-- The end of a body: at whatever places, the value and a fact that holds of it. -/
def Fin (R : Value → (World → Prop) → Prop) (out : Out) (H : List Ent) : Prop :=
  ∀ ρ v w0, All ρ H w0 → OutOk ρ out (.returned v) → ∃ G, R v G ∧ ∀ w, All ρ H w → G w
def notPan : Out → Prop
  | .pan _ => False
  | _ => True

theorem specF_of {P : Program} {f : FuncId} {xs : List Value} {F : World → Prop} {R : Value → (World → Prop) → Prop} (h : SpecH P f (pvs xs) [.fact F] fun out H' => notPan out ∧ Fin R out H') : SpecF P f xs F R := by
  refine ⟨h.ok, fun S w hF hlow => ?_⟩
  have nomb : ∀ b, ¬ mb [⟨0, 0⟩] [Ent.fact F] b := by
    rintro b ⟨i, e, he, ho⟩
    match i, he with
    | 0, he => simp at he; subst he; cases ho
  have hs : Sat [⟨0, 0⟩] S [.fact F] w := by
    refine ⟨rfl, fun i e he => ?_, fun i j e f b he hf heo => ?_, fun b hb => absurd hb (nomb b), hlow⟩
    · match i, he with
      | 0, he => simp at he; subst he; exact hF
    · match i, he with
      | 0, he => simp at he; subst he; cases heo
  refine (h.run _ S w xs hs (pvs_rel _ xs)).mono fun e w' ⟨ρ', S', H', out, hs', hev, hout, hn, hfin⟩ => ?_
  obtain ⟨v, rfl⟩ : ∃ v, e = .returned v := by
    cases out with
    | val av => obtain ⟨v, he, _⟩ := hout; exact ⟨v, he⟩
    | vals l => obtain ⟨v, he, _⟩ := hout; exact ⟨_, he⟩
    | pan c => exact hn.elim
  have hall : ∀ w'' : World, (∀ b, S' b ∨ mb ρ' H' b → w''.heap[b]? = w'.heap[b]?) → All ρ' H' w'' := fun w'' hw i e he => by
    have hk := hs'.ent i e he
    cases e with
    | blk T cs => obtain ⟨l, arr, hl, hb, hr⟩ := hk; exact ⟨l, arr, hl, by rw [hw l.b (.inr ⟨i, _, he, entB_own rfl hl⟩)]; exact hb, hr⟩
    | row T sz n cs => obtain ⟨l, arr, hl, hb, hr⟩ := hk; exact ⟨l, arr, hl, by rw [hw l.b (.inr ⟨i, _, he, entB_own rfl hl⟩)]; exact hb, hr⟩
    | fact F => exact hk.2 w'' fun b hb => hw b (.inl hb)
    | fz => exact ⟨hk.1, hk.2.2 w'' fun b hb => hw b (.inl hb)⟩
    | app T sz xs a n cap =>
      rcases hk with hk | ⟨b, rfl, hk⟩
      · exact .inl hk
      · exact .inr ⟨b, rfl, hk.move (hw b (.inr ⟨i, _, he, rfl⟩))⟩
    | mp b es c => exact (hw b (.inr ⟨i, _, he, rfl⟩)).trans hk
    | dead => trivial
  obtain ⟨G, hR, hG⟩ := hfin ρ' v w' (hall w' fun _ _ => rfl) hout
  refine ⟨v, G, fun b => S' b ∨ mb ρ' H' b, rfl, hR, ⟨hG _ (hall w' fun _ _ => rfl), fun w'' hw => hG w'' (hall w'' hw)⟩, ?_, ?_, ⟨hev.os, hev.tape, hev.output, hev.size, fun b hb => hev.keep b hb (nomb b)⟩⟩
  · rintro b (hb | hb)
    · rcases hev.imm b hb with h | h | h
      · exact .inl h
      · exact absurd h (nomb b)
      · exact .inr h
    · rcases hev.own b hb with h | h
      · exact absurd h (nomb b)
      · exact .inr h
  · rintro b (hb | hb)
    · exact hs'.low b hb
    · obtain ⟨i, e, he, heb⟩ := hb
      exact hs'.blk_lt he heb

theorem fin_v {R : Value → (World → Prop) → Prop} {x : Value} {H : List Ent} (h : R x fun _ => True) : notPan (.val (.c (.v x))) ∧ Fin R (.val (.c (.v x))) H :=
  ⟨trivial, fun _ v _ _ hv => by
    obtain ⟨_, e, hr⟩ := hv
    obtain rfl := Ending.returned.inj e
    have : v = x := hr
    subst this
    exact ⟨_, h, fun _ _ => trivial⟩⟩

theorem vs_only {ρ : List Loc} : ∀ {xs vs' : List Value}, RelL ρ (vs xs) vs' → vs' = xs
  | [], [], _ => rfl
  | x :: xs, v :: vs', h => by
    have h1 : v = x := h.1
    rw [h1, vs_only h.2]
  | [], _ :: _, h => h.elim
  | _ :: _, [], h => h.elim

/-- A row of plain values becomes a fact. -/
theorem EntF.row {ρ : List Loc} {w : World} {i : Nat} {T : TypeId} {sz n : Nat} {xs : List Value} {l : Loc} (h : EntF ρ w i (.row T sz n (vs xs))) (hl : ρ[i]? = some l) : RowF T sz n xs l.b l.cap w := by
  obtain ⟨l', arr, hl', hb, h1, h2, h3, h4, hr⟩ := h
  obtain rfl := Option.some.inj (hl'.symm.trans hl)
  exact ⟨arr, (0, 0), ⟨hb, .inl rfl⟩, by rwa [vs_len] at h1, h2, h3, h4, vs_only hr⟩

end Go.AX

/-
  AX, fifteenth text: how slices are used.
-/
namespace Go.AX
open Go.RowKit

theorem All.facts {ρ : List Loc} {H : List Ent} {w : World} (h : All ρ H w) : Facts H w := by
  refine Facts_of (ρ := ρ) (S := fun _ => True) fun e he => ?_
  obtain ⟨i, hi⟩ := List.getElem?_of_mem he
  have := h i e hi
  cases e with
  | fact F => exact this
  | fz => exact this.2
  | app T sz xs a n cap => exact appSl (ρ := ρ) (S := fun _ => True) (i := i) this
  | _ => trivial

/-- The result is a plain value; the facts on it are those at hand. -/
theorem fin_p {R : Value → (World → Prop) → Prop} {x : Value} {H : List Ent} (G : World → Prop) (h : R x G) (hG : ∀ w, Facts H w → G w) : notPan (.val (.c (.v x))) ∧ Fin R (.val (.c (.v x))) H :=
  ⟨trivial, fun ρ v _ _ hv => by
    obtain ⟨_, e, hr⟩ := hv
    obtain rfl := Ending.returned.inj e
    have : v = x := hr
    subst this
    exact ⟨_, h, fun w hall => hG w hall.facts⟩⟩

/-! ### Rows of the call's own handed on -/
theorem Sat.dropRow {ρ : List Loc} {S : Nat → Prop} {H : List Ent} {w : World} (h : Sat ρ S H w) {i : Nat} {T : TypeId} {sz n : Nat} {xs : List Value} (hi : H[i]? = some (.row T sz n (vs xs))) :
    ∃ b cap S', n ≤ cap ∧ Sat ρ S' (H.set i (.fz T sz n xs b cap)) w ∧ Ev ρ S H w ρ S' (H.set i (.fz T sz n xs b cap)) w := by
  have hilt : i < H.length := (List.getElem?_eq_some_iff.1 hi).1
  obtain ⟨l, arr, hl, hb, h1, h2, h3, h4, hr⟩ := h.ent i _ hi
  have hrow : RowF T sz n xs l.b l.cap w := ⟨arr, (0, 0), ⟨hb, .inl rfl⟩, by rwa [vs_len] at h1, h2, h3, h4, vs_only hr⟩
  have hblk : entB ρ i (.row T sz n (vs xs)) = some l.b := entB_own rfl hl
  refine ⟨l.b, l.cap, fun b => S b ∨ b = l.b, h2, ?_⟩
  have hcase : ∀ (j : Nat) (f : Ent) (b : Nat), (H.set i (.fz T sz n xs l.b l.cap))[j]? = some f → entB ρ j f = some b → j ≠ i ∧ H[j]? = some f := by
    intro j f b hf hfb
    by_cases hj : i = j
    · subst hj
      simp [hilt] at hf
      subst hf
      cases hfb
    · rw [List.getElem?_set_ne hj] at hf
      exact ⟨Ne.symm hj, hf⟩
  refine ⟨⟨by simp [h.len], fun j f hf => ?_, fun j k f g b hf hg hfb hgb => ?_, fun b ⟨j, f, hf, hfb⟩ hn => ?_, fun b hb => ?_⟩,
    ⟨⟨[], by simp⟩, rfl, rfl, rfl, Nat.le_refl _, fun _ _ _ => rfl, fun b hb => ?_, fun b ⟨j, f, hf, hfb⟩ => .inl ⟨j, f, (hcase j f b hf hfb).2, hfb⟩⟩⟩
  · by_cases hj : i = j
    · subst hj
      simp [hilt] at hf
      subst hf
      exact ⟨hl, hrow, fun w' hw => hrow.move (hw _ (.inr rfl))⟩
    · rw [List.getElem?_set_ne hj] at hf
      exact (h.ent j f hf).grow fun b hb => .inl hb
  · exact h.inj j k f g b (hcase j f b hf hfb).2 (hcase k g b hg hgb).2 hfb hgb
  · have hjf := hcase j f b hf hfb
    rcases hn with hn | hn
    · exact h.out b ⟨j, f, hjf.2, hfb⟩ hn
    · exact hjf.1 (h.inj j i f _ b hjf.2 hi hfb (hn ▸ hblk))
  · rcases hb with hb | hb
    · exact h.low b hb
    · subst hb; exact h.blk_lt hi hblk
  · rcases hb with hb | hb
    · exact .inl hb
    · exact .inr (.inl ⟨i, _, hi, hb ▸ hblk⟩)

theorem SpecH.freeze {P : Program} {f : FuncId} {args : List AV} {H : List Ent} {K : Out → List Ent → Prop} (ok : CallOk P f) (i : Nat) {T : TypeId} {sz n : Nat} {cs : List CV} {xs : List Value} (hi : nthE H i = some (.row T sz n cs)) (hx : plains cs = some xs)
    (h : ∀ b cap, n ≤ cap → setEK H i (.fz T sz n xs b cap) fun H' => SpecH P f args H' K) : SpecH P f args H K := by
  have hcs : ∀ {cs : List CV} {xs : List Value}, plains cs = some xs → cs = vs xs := by
    intro cs
    induction cs with
    | nil => intro xs h; simp [plains] at h; subst h; rfl
    | cons c cs ih =>
      intro xs h
      cases c with
      | v x =>
        simp only [plains] at h
        split at h
        · rename_i l hl
          cases h
          rw [ih hl]; rfl
        · cases h
      | _ => simp [plains] at h
  rw [nthE_eq, hcs hx] at hi
  refine ⟨ok, fun ρ S w vs hs hr => ?_⟩
  obtain ⟨b, cap, S', hnc, hs', hev⟩ := hs.dropRow hi
  obtain ⟨_, h⟩ := setEK_spec (h b cap hnc)
  exact (h.run ρ S' w vs hs' hr).mono fun e w' ⟨ρ2, S2, H2, out, a1, a2, a3, a4⟩ => ⟨ρ2, S2, H2, out, a1, hev.trans a2, a3, a4⟩

def plainC (H : List Ent) : CV → Option Value
  | .v x => some x
  | .sl i m => match nthE H i with | some (.fz _ _ _ _ b cap) => some (.slice (some ⟨b, 0, none⟩) m cap) | _ => none
  | _ => none
def plainCs (H : List Ent) : List CV → Option (List Value)
  | [] => some []
  | c :: cs => match plainC H c, plainCs H cs with | some x, some xs => some (x :: xs) | _, _ => none
def plainA (H : List Ent) : AV → Option Value
  | .c c => plainC H c
  | .agg cs => match plainCs H cs with | some xs => some (.agg xs.toArray) | none => none
def plainAs (H : List Ent) : List AV → Option (List Value)
  | [] => some []
  | c :: cs => match plainA H c, plainAs H cs with | some x, some xs => some (x :: xs) | _, _ => none

theorem plainC_rel {ρ : List Loc} {S : Nat → Prop} {H : List Ent} {w : World} (hs : Sat ρ S H w) {c : CV} {x v : Value} (h : plainC H c = some x) (hr : c.rel ρ v) : v = x := by
  cases c with
  | any => cases h
  | v y => cases h; exact hr
  | lp => cases h
  | sl i m =>
    simp only [plainC] at h
    split at h
    · rename_i T sz n xs b cap he
      cases h
      rw [nthE_eq] at he
      obtain ⟨l, hl, rfl⟩ := hr
      have hl2 := (hs.ent i _ he).1
      obtain rfl := Option.some.inj (hl.symm.trans hl2)
      rfl
    · cases h
theorem plainCs_rel {ρ : List Loc} {S : Nat → Prop} {H : List Ent} {w : World} (hs : Sat ρ S H w) : ∀ {cs : List CV} {xs vs : List Value}, plainCs H cs = some xs → RelL ρ cs vs → vs = xs
  | [], xs, [], h, _ => by simp [plainCs] at h; exact h.symm
  | c :: cs, xs, v :: vs, h, hr => by
    simp only [plainCs] at h
    split at h
    · rename_i x ys hx hy
      cases h
      rw [plainC_rel hs hx hr.1, plainCs_rel hs hy hr.2]
    · cases h
  | [], _, _ :: _, _, hr => hr.elim
  | _ :: _, _, [], _, hr => hr.elim
theorem plainA_rel {ρ : List Loc} {S : Nat → Prop} {H : List Ent} {w : World} (hs : Sat ρ S H w) {a : AV} {x v : Value} (h : plainA H a = some x) (hr : a.rel ρ v) : v = x := by
  cases a with
  | c c => exact plainC_rel hs h hr
  | agg cs =>
    simp only [plainA] at h
    split at h
    · rename_i xs hx
      cases h
      obtain ⟨ys, rfl, hy⟩ := hr
      rw [plainCs_rel hs hx hy]
    · cases h
theorem plainAs_rel {ρ : List Loc} {S : Nat → Prop} {H : List Ent} {w : World} (hs : Sat ρ S H w) : ∀ {cs : List AV} {xs vs : List Value}, plainAs H cs = some xs → RelS ρ cs vs → vs = xs
  | [], xs, [], h, _ => by simp [plainAs] at h; exact h.symm
  | c :: cs, xs, v :: vs, h, hr => by
    simp only [plainAs] at h
    split at h
    · rename_i x ys hx hy
      cases h
      rw [plainA_rel hs hx hr.1, plainAs_rel hs hy hr.2]
    · cases h
  | [], _, _ :: _, _, hr => hr.elim
  | _ :: _, _, [], _, hr => hr.elim

/-- Arguments that are rows nobody writes any more are plain values. -/
theorem SpecH.plain {P : Program} {f : FuncId} {args : List AV} {H : List Ent} {K : Out → List Ent → Prop} {xs : List Value} (hx : plainAs H args = some xs) (h : SpecH P f (pvs xs) H K) : SpecH P f args H K :=
  ⟨h.ok, fun ρ S w vs hs hr => by
    obtain rfl := plainAs_rel hs hx hr
    exact h.run ρ S w vs hs (pvs_rel ρ vs)⟩

/-! ### Loads from slices that are facts -/
theorem loadVar_cell {P : Program} {T : TypeId} {w : World} {p : Addr} {x : Value} (hs : shapeT P T = some none) (hc : w.cell? p = some x) : (loadVar T p).run P w = .ok x w := by
  unfold shapeT at hs
  have key : ∀ d, P.underlying T = some d → isAggD d = false → (loadVar T p).run P w = .ok x w := fun d hd hf => by
    unfold loadVar
    rw [Sem.run_bind, run_isAgg hd, hf]
    simp [hc]
  cases hd : P.underlying T with
  | none => rw [hd] at hs; simp at hs
  | some d =>
    rw [hd] at hs
    cases d <;> first
      | exact key _ hd rfl
      | (simp only at hs; split at hs <;> simp at hs)
theorem loadVar_cells {P : Program} {T : TypeId} {n : Nat} {w : World} {p : Addr} {xs : List Value} (hs : shapeT P T = some (some n)) (hl : xs.length = n) (hc : ∀ j v, xs[j]? = some v → w.cell? (p.add j) = some v) : (loadVar T p).run P w = .ok (.agg xs.toArray) w := by
  unfold shapeT at hs
  have key : ∀ d i, P.underlying T = some d → P.info? T = some i → i.size = n → isAggD d = true → (loadVar T p).run P w = .ok (.agg xs.toArray) w := fun d i hd hi hn hf => by
    have hcells := run_loadCells_list (P := P) w p xs hc
    rw [hl] at hcells
    unfold loadVar
    rw [Sem.run_bind, run_isAgg hd, hf]
    simp [sizeOf, typeInfo, hi, hn, hcells]
  cases hd : P.underlying T with
  | none => rw [hd] at hs; simp at hs
  | some d =>
    rw [hd] at hs
    cases d <;> first
      | (simp at hs; done)
      | (simp only at hs
         split at hs
         · rename_i i hi
           simp at hs
           exact key _ i hd hi hs rfl
         · cases hs)

theorem SlAt.cell {a : Option Addr} {k : Nat} {xs : List Value} {w : World} (h : SlAt a k xs w) {q : Nat} {x : Value} (hx : xs[q]? = some x) : w.cell? ((a.getD default).add q) = some x := by
  have : q < k := by rw [← h.1]; exact (List.getElem?_eq_some_iff.1 hx).1
  rw [h.2.2 q this, hx]

/-- A load of one cell of a slice. -/
theorem LdN.one {P : Program} {T : TypeId} {a : Option Addr} {q : Nat} {H : List Ent} {K : AV → Prop} {k : Nat} {xs : List Value} (x : Value) (hT : shapeT P T = some none) (hF : ∀ w, Facts H w → SlAt a k xs w) (hx : xs[q]? = some x)
    (next : forceV x fun x => K (.c (.v x))) : LdN P T (elemAddr a q) H K :=
  ⟨x, fun w hw => loadVar_cell hT ((hF w hw).cell hx), next⟩
/-- A load of a field. -/
theorem LdN.fld {P : Program} {T : TypeId} {a : Option Addr} {q fo : Nat} {H : List Ent} {K : AV → Prop} {k : Nat} {xs : List Value} (x : Value) (hT : shapeT P T = some none) (hF : ∀ w, Facts H w → SlAt a k xs w) (hx : xs[q + fo]? = some x)
    (next : forceV x fun x => K (.c (.v x))) : LdN P T ((elemAddr a q).add fo) H K :=
  ⟨x, fun w hw => loadVar_cell hT (by rw [elemAddr, Addr.add_add]; exact (hF w hw).cell hx), next⟩
/-- A load of a struct. -/
theorem LdN.agg {P : Program} {T : TypeId} {a : Option Addr} {q n : Nat} {H : List Ent} {K : AV → Prop} {k : Nat} {xs : List Value} (ys : List Value) (hT : shapeT P T = some (some n)) (hF : ∀ w, Facts H w → SlAt a k xs w) (hl : ys.length = n)
    (hx : ∀ j, j < n → xs[q + j]? = ys[j]?) (next : K (.c (.v (.agg ys.toArray)))) : LdN P T (elemAddr a q) H K :=
  ⟨.agg ys.toArray, fun w hw => loadVar_cells hT hl fun j v hv => by
    have hj : j < n := by rw [← hl]; exact (List.getElem?_eq_some_iff.1 hv).1
    rw [elemAddr, Addr.add_add]
    exact (hF w hw).cell ((hx j hj).trans hv), next⟩

/-! ### Lists of structs as cells -/
theorem flat_get {α : Type} {g : α → List Value} {m : Nat} (hg : ∀ a, (g a).length = m) : ∀ (l : List α) (i j : Nat), j < m → (l.flatMap g)[i * m + j]? = (l[i]?).bind fun a => (g a)[j]?
  | [], i, j, _ => by simp
  | a :: l, 0, j, hj => by rw [List.flatMap_cons, Nat.zero_mul, Nat.zero_add, List.getElem?_append_left (by rw [hg]; exact hj)]; simp
  | a :: l, i + 1, j, hj => by
    rw [List.flatMap_cons, List.getElem?_append_right (by rw [hg, Nat.add_mul]; omega), hg, show (i + 1) * m + j - m = i * m + j by rw [Nat.add_mul]; omega, flat_get hg l i j hj]
    simp
end Go.AX

/-
  AX, sixteenth text: a contract that speaks of some entries holds among others.
-/
namespace Go.AX

/-- The number of an entry of a part, in the whole: those that the part was given, then those behind the whole's. -/
def rnI : List Nat → Nat → Nat → Nat
  | [], N, j => N + j
  | s :: _, _, 0 => s
  | _ :: σ, N, j + 1 => rnI σ N j
def rnC (σ : List Nat) (N : Nat) : CV → CV
  | .lp i o => .lp (rnI σ N i) o
  | .sl i n => .sl (rnI σ N i) n
  | c => c
def rnCs (σ : List Nat) (N : Nat) : List CV → List CV
  | [] => []
  | c :: cs => rnC σ N c :: rnCs σ N cs
def rnA (σ : List Nat) (N : Nat) : AV → AV
  | .c c => .c (rnC σ N c)
  | .agg cs => .agg (rnCs σ N cs)
def rnS (σ : List Nat) (N : Nat) : List AV → List AV
  | [] => []
  | a :: s => rnA σ N a :: rnS σ N s
def rnE (σ : List Nat) (N : Nat) : Ent → Ent
  | .blk T cs => .blk T (rnCs σ N cs)
  | .row T sz n cs => .row T sz n (rnCs σ N cs)
  | e => e
def rnO (σ : List Nat) (N : Nat) : Out → Out
  | .val a => .val (rnA σ N a)
  | .vals l => .vals (rnS σ N l)
  | .pan c => .pan c
/-- The part's entries put back among the whole's. -/
def mrg (f : Ent → Ent) : List Nat → List Ent → List Ent → (List Ent → Prop) → Prop
  | [], [], H, K => K H
  | [], e :: es, H, K => snocK H (f e) 0 fun H' _ => mrg f [] es H' K
  | s :: σ, e :: es, H, K => setEK H s (f e) fun H' => mrg f σ es H' K
  | _ :: _, [], _, _ => False
/-- The part. -/
def part (σ : List Nat) (N : Nat) (H : List Ent) : List Nat → List Ent → Prop
  | [], [] => True
  | s :: τ, e :: es => nthE H s = some (rnE σ N e) ∧ part σ N H τ es
  | _, _ => False
def ndB : List Nat → Bool
  | [] => true
  | s :: σ => !(σ.any (Nat.beq s)) && ndB σ
theorem ndB_nodup : ∀ {σ : List Nat}, ndB σ = true → σ.Nodup
  | [], _ => List.nodup_nil
  | s :: σ, h => by
    simp only [ndB, Bool.and_eq_true, Bool.not_eq_true', List.any_eq_false] at h
    exact List.nodup_cons.2 ⟨fun hm => h.1 s hm (by simp), ndB_nodup h.2⟩

theorem rnI_get : ∀ {σ : List Nat} {N j s : Nat}, σ[j]? = some s → rnI σ N j = s
  | _ :: _, _, 0, s, h => by simpa [rnI] using h
  | _ :: σ, N, j + 1, s, h => by simpa [rnI] using rnI_get (σ := σ) (N := N) (by simpa using h)
  | [], _, _, _, h => by simp at h
theorem rnI_new : ∀ (σ : List Nat) (N j : Nat), rnI σ N (σ.length + j) = N + j
  | [], N, j => by simp [rnI]
  | _ :: σ, N, j => by
    rw [show (List.length (_ :: σ)) + j = (σ.length + j) + 1 by simp; omega]
    simpa [rnI] using rnI_new σ N j

/-! ### Relations under the renaming -/
section
variable {σ : List Nat} {N : Nat} {ρ ρ' : List Loc}
theorem rnC_rel (h : ∀ j, ρ'[rnI σ N j]? = ρ[j]?) (c : CV) (v : Value) : (rnC σ N c).rel ρ' v ↔ c.rel ρ v := by
  cases c <;> simp only [rnC, CV.rel, h]
theorem rnCs_rel (h : ∀ j, ρ'[rnI σ N j]? = ρ[j]?) : ∀ (cs : List CV) (vs : List Value), RelL ρ' (rnCs σ N cs) vs ↔ RelL ρ cs vs
  | [], [] => Iff.rfl
  | [], _ :: _ => Iff.rfl
  | _ :: _, [] => Iff.rfl
  | c :: cs, v :: vs => by simp only [rnCs, RelL, rnC_rel h, rnCs_rel h cs vs]
theorem rnA_rel (h : ∀ j, ρ'[rnI σ N j]? = ρ[j]?) (a : AV) (v : Value) : (rnA σ N a).rel ρ' v ↔ a.rel ρ v := by
  cases a with
  | c c => exact rnC_rel h c v
  | agg cs => simp only [rnA, AV.rel, rnCs_rel h]
theorem rnS_rel (h : ∀ j, ρ'[rnI σ N j]? = ρ[j]?) : ∀ (cs : List AV) (vs : List Value), RelS ρ' (rnS σ N cs) vs ↔ RelS ρ cs vs
  | [], [] => Iff.rfl
  | [], _ :: _ => Iff.rfl
  | _ :: _, [] => Iff.rfl
  | c :: cs, v :: vs => by simp only [rnS, RelS, rnA_rel h, rnS_rel h cs vs]
theorem rnCs_len : ∀ cs : List CV, (rnCs σ N cs).length = cs.length
  | [] => rfl
  | _ :: cs => by simp [rnCs, rnCs_len cs]
theorem rnE_ok (h : ∀ j, ρ'[rnI σ N j]? = ρ[j]?) (S : Nat → Prop) (w : World) (j : Nat) (e : Ent) : EntOk ρ' S w (rnI σ N j) (rnE σ N e) ↔ EntOk ρ S w j e := by
  cases e <;> simp only [rnE, EntOk, rnCs_rel h, h, rnCs_len]
theorem rnE_blk (h : ∀ j, ρ'[rnI σ N j]? = ρ[j]?) (j : Nat) (e : Ent) : entB ρ' (rnI σ N j) (rnE σ N e) = entB ρ j e := by
  cases e <;> simp only [rnE, entB, h]
theorem EntOk.imm {ρ : List Loc} {S S' : Nat → Prop} {w : World} {i : Nat} {e : Ent} (h : EntOk ρ S w i e) (hs : ∀ b, S b → S' b) : EntOk ρ S' w i e := h.grow hs
end

theorem part_get {σ : List Nat} {N : Nat} {H : List Ent} : ∀ {τ : List Nat} {es : List Ent}, part σ N H τ es → τ.length = es.length ∧ ∀ (j : Nat) (s : Nat) (e : Ent), τ[j]? = some s → es[j]? = some e → H[s]? = some (rnE σ N e)
  | [], [], _ => ⟨rfl, fun j s e h => by simp at h⟩
  | s :: τ, e :: es, h => by
    obtain ⟨h1, h2⟩ := part_get (τ := τ) (es := es) h.2
    refine ⟨by simp [h1], fun j s' e' hs he => ?_⟩
    cases j with
    | zero => simp at hs he; subst hs; subst he; rw [← nthE_eq]; exact h.1
    | succ j => exact h2 j s' e' (by simpa using hs) (by simpa using he)
  | [], _ :: _, h => h.elim
  | _ :: _, [], h => h.elim

theorem mrg_spec (f : Ent → Ent) : ∀ {σ : List Nat} {es H : List Ent} {K : List Ent → Prop}, σ.Nodup → mrg f σ es H K →
    ∃ H', K H' ∧ σ.length ≤ es.length ∧ H'.length = H.length + (es.length - σ.length) ∧ (∀ s ∈ σ, s < H.length) ∧
      (∀ (j : Nat) (e : Ent), es[j]? = some e → H'[rnI σ H.length j]? = some (f e)) ∧ ∀ i, i < H.length → i ∉ σ → H'[i]? = H[i]?
  | [], [], H, K, _, h => ⟨H, h, Nat.le_refl _, by simp, fun _ h => by simp at h, fun j e h => by simp at h, fun _ _ _ => rfl⟩
  | [], e :: es, H, K, _, h => by
    simp only [mrg] at h
    rw [snocK_eq] at h
    obtain ⟨H', hK, _, hl, _, hj, hi⟩ := mrg_spec f (σ := []) List.nodup_nil h
    refine ⟨H', hK, by simp, by simp at hl ⊢; omega, fun _ h => by simp at h, fun j e' he => ?_, fun i hi' _ => ?_⟩
    · cases j with
      | zero =>
        simp at he; subst he
        simp only [rnI, Nat.add_zero]
        rw [hi H.length (by simp) (by simp)]; simp
      | succ j =>
        have := hj j e' (by simpa using he)
        simp only [rnI, List.length_append, List.length_cons, List.length_nil] at this ⊢
        rw [show H.length + (j + 1) = H.length + (0 + 1) + j by omega]; exact this
    · rw [hi i (by simp; omega) (by simp), List.getElem?_append_left hi']
  | s :: σ, e :: es, H, K, hn, h => by
    simp only [mrg] at h
    obtain ⟨hs, h⟩ := setEK_spec h
    obtain ⟨hn1, hn2⟩ := List.nodup_cons.1 hn
    obtain ⟨H', hK, hlen, hl, hlt, hj, hi⟩ := mrg_spec f (σ := σ) hn2 h
    rw [List.length_set] at hl hlt hj hi
    refine ⟨H', hK, by simp; omega, by simp at hl ⊢; omega, fun t ht => ?_, fun j e' he => ?_, fun i hi' hni => ?_⟩
    · cases ht with
      | head => exact hs
      | tail _ ht => exact hlt t ht
    · cases j with
      | zero =>
        simp at he; subst he
        simp only [rnI]
        rw [hi s hs hn1]; simp [hs]
      | succ j => exact hj j e' (by simpa using he)
    · simp only [List.mem_cons, not_or] at hni
      rw [hi i hi' hni.2, List.getElem?_set_ne (Ne.symm hni.1)]
  | _ :: _, [], _, _, _, h => h.elim

/-- A contract that speaks of some entries holds among others. -/
theorem SpecH.at {P : Program} {f : FuncId} {args0 : List AV} {H0 : List Ent} {K0 : Out → List Ent → Prop} (h : SpecH P f args0 H0 K0) (σ : List Nat) {args : List AV} {H : List Ent} {K : Out → List Ent → Prop}
    (hn : ndB σ = true) (hp : part σ H.length H σ H0) (ha : args = rnS σ H.length args0)
    (hk : ∀ out H', K0 out H' → mrg (rnE σ H.length) σ H' H fun G => K (rnO σ H.length out) G) : SpecH P f args H K := by
  subst ha
  refine ⟨h.ok, fun ρ S w vs hs hr => ?_⟩
  have nd := ndB_nodup hn
  obtain ⟨hlen, hget⟩ := part_get hp
  generalize hN : H.length = N at *
  have hρN : ρ.length = N := by rw [hs.len, hN]
  have hσlt : ∀ (j s : Nat), σ[j]? = some s → s < N := fun j s hj => by
    have hj2 : j < H0.length := by rw [← hlen]; exact (List.getElem?_eq_some_iff.1 hj).1
    have := hget j s _ hj (List.getElem?_eq_getElem hj2)
    rw [← hN]; exact (List.getElem?_eq_some_iff.1 this).1
  -- the part's places
  have hρ0 : ∃ ρ0 : List Loc, ρ0.length = σ.length ∧ ∀ (j s : Nat), σ[j]? = some s → ρ0[j]? = ρ[s]? := by
    refine ⟨σ.map fun s => ρ.getD s ⟨0, 0⟩, by simp, fun j s hj => ?_⟩
    have hs' := hσlt j s hj
    rw [List.getElem?_map, hj, Option.map_some, List.getD_eq_getElem?_getD, List.getElem?_eq_getElem (by omega)]
    rfl
  obtain ⟨ρ0, hρl, hρg⟩ := hρ0
  have hre : ∀ j, ρ[rnI σ N j]? = ρ0[j]? := fun j => by
    by_cases hj : j < σ.length
    · have hj' := List.getElem?_eq_getElem hj
      rw [rnI_get hj', ← hρg j _ hj']
    · obtain ⟨k, rfl⟩ : ∃ k, j = σ.length + k := ⟨j - σ.length, by omega⟩
      rw [rnI_new, List.getElem?_eq_none (by omega), List.getElem?_eq_none (by omega)]
  have hidx : ∀ (j : Nat) (e : Ent), H0[j]? = some e → ∃ s, σ[j]? = some s ∧ rnI σ N j = s ∧ H[s]? = some (rnE σ N e) := fun j e he => by
    have hj : j < σ.length := by rw [hlen]; exact (List.getElem?_eq_some_iff.1 he).1
    have hj' := List.getElem?_eq_getElem hj
    exact ⟨_, hj', rnI_get hj', hget j _ e hj' he⟩
  have hsat0 : Sat ρ0 S H0 w := by
    refine ⟨by omega, fun j e he => ?_, fun i j e f b he hf heb hfb => ?_, fun b hb => ?_, hs.low⟩
    · obtain ⟨s, _, h2, h3⟩ := hidx j e he
      have := hs.ent s _ h3
      rw [← h2] at this
      exact (rnE_ok hre S w j e).1 this
    · obtain ⟨s, a1, a2, a3⟩ := hidx i e he
      obtain ⟨t, b1, b2, b3⟩ := hidx j f hf
      have e1 : entB ρ s (rnE σ N e) = some b := by rw [← a2, rnE_blk hre]; exact heb
      have e2 : entB ρ t (rnE σ N f) = some b := by rw [← b2, rnE_blk hre]; exact hfb
      have := hs.inj s t _ _ b a3 b3 e1 e2
      subst this
      have hi' : i < σ.length := (List.getElem?_eq_some_iff.1 a1).1
      exact (List.getElem?_inj hi' nd).1 (a1.trans b1.symm)
    · obtain ⟨j, e, he, heb⟩ := hb
      obtain ⟨s, _, h2, h3⟩ := hidx j e he
      exact hs.out b ⟨s, _, h3, by rw [← h2, rnE_blk hre]; exact heb⟩
  have hmb0 : ∀ b, mb ρ0 H0 b → ∃ s ∈ σ, ∃ e, H[s]? = some e ∧ entB ρ s e = some b := fun b ⟨j, e, he, heb⟩ => by
    obtain ⟨s, h1, h2, h3⟩ := hidx j e he
    exact ⟨s, List.mem_of_getElem? h1, _, h3, by rw [← h2, rnE_blk hre]; exact heb⟩
  refine (h.run ρ0 S w vs hsat0 ((rnS_rel hre _ _).1 hr)).mono fun e w' ⟨ρ0', S', H0', out, hs', hev, hout, hK⟩ => ?_
  obtain ⟨G, hG, hσl, hGl, _, hGj, hGi⟩ := mrg_spec (rnE σ N) nd (hk out H0' hK)
  rw [hN] at hGl hGj hGi
  obtain ⟨t, ht⟩ := hev.pre
  have hl' : H0'.length = σ.length + t.length := by rw [← hs'.len, ht, List.length_append, hρl]
  have hre' : ∀ j, (ρ ++ t)[rnI σ N j]? = ρ0'[j]? := fun j => by
    rw [ht]
    by_cases hj : j < σ.length
    · have hj' := List.getElem?_eq_getElem hj
      have hlt := hσlt j _ hj'
      rw [rnI_get hj', List.getElem?_append_left (by omega), List.getElem?_append_left (by omega), ← hρg j _ hj']
    · obtain ⟨k, rfl⟩ : ∃ k, j = σ.length + k := ⟨j - σ.length, by omega⟩
      rw [rnI_new, List.getElem?_append_right (by omega), List.getElem?_append_right (by omega), hρN, hρl]
      congr 1; omega
  -- an entry of the whole is one of the part's, or one that was
  have hcase : ∀ (i : Nat) (f : Ent), G[i]? = some f → (∃ j e, H0'[j]? = some e ∧ i = rnI σ N j ∧ f = rnE σ N e) ∨ (i < N ∧ i ∉ σ ∧ H[i]? = some f) := fun i f hf => by
    by_cases hi : i < N
    · by_cases him : i ∈ σ
      · obtain ⟨j, hj⟩ := List.getElem?_of_mem him
        have hjl : j < H0'.length := by have := (List.getElem?_eq_some_iff.1 hj).1; omega
        have he := List.getElem?_eq_getElem hjl
        have h1 := hGj j _ he
        rw [rnI_get hj] at h1
        exact .inl ⟨j, _, he, (rnI_get hj).symm, Option.some.inj (hf.symm.trans h1)⟩
      · exact .inr ⟨hi, him, (hGi i hi him) ▸ hf⟩
    · have hil : i < G.length := (List.getElem?_eq_some_iff.1 hf).1
      have hjl : σ.length + (i - N) < H0'.length := by omega
      have he := List.getElem?_eq_getElem hjl
      have h1 := hGj _ _ he
      have hi2 : rnI σ N (σ.length + (i - N)) = i := by rw [rnI_new]; omega
      rw [hi2] at h1
      exact .inl ⟨_, _, he, hi2.symm, Option.some.inj (hf.symm.trans h1)⟩
  have houter : ∀ (i : Nat) (f : Ent) (b : Nat), i < N → i ∉ σ → H[i]? = some f → entB (ρ ++ t) i f = some b → entB ρ i f = some b ∧ b < w.heap.size ∧ ¬ mb ρ0 H0 b := fun i f b hi hni hf hfb => by
    rw [entB_pre _ (by omega)] at hfb
    refine ⟨hfb, hs.blk_lt hf hfb, fun hm => ?_⟩
    obtain ⟨s, hsσ, e', he', heb⟩ := hmb0 b hm
    exact hni (hs.inj i s f e' b hf he' hfb heb ▸ hsσ)
  have hnS : ∀ b, S b → b < w.heap.size ∧ ¬ mb ρ0 H0 b := fun b hb => ⟨hs.low b hb, fun hm => hsat0.out b hm hb⟩
  have hmbG : ∀ b, mb (ρ ++ t) G b → mb ρ H b ∨ w.heap.size ≤ b := fun b ⟨i, f, hf, hfb⟩ => by
    rcases hcase i f hf with ⟨j, e, he, rfl, rfl⟩ | ⟨hi, hni, hf'⟩
    · rw [rnE_blk hre'] at hfb
      rcases hev.own b ⟨j, e, he, hfb⟩ with h1 | h1
      · obtain ⟨s, _, e', he', heb⟩ := hmb0 b h1
        exact .inl ⟨s, e', he', heb⟩
      · exact .inr h1
    · exact .inl ⟨i, f, hf', (houter i f b hi hni hf' hfb).1⟩
  refine ⟨ρ ++ t, fun b => S b ∨ S' b, G, rnO σ N out, ⟨?_, fun i f hf => ?_, fun i j f g b hf hg hfb hgb => ?_, fun b hb hSb => ?_, fun b hb => ?_⟩,
    ⟨⟨t, rfl⟩, hev.os, hev.tape, hev.output, hev.size, fun b hb hn => hev.keep b hb fun hm => ?_, fun b hb => ?_, hmbG⟩, ?_, hG⟩
  · rw [List.length_append, hρN, hGl]; omega
  · rcases hcase i f hf with ⟨j, e, he, rfl, rfl⟩ | ⟨hi, hni, hf'⟩
    · exact ((rnE_ok hre' S' w' j e).2 (hs'.ent j e he)).grow fun b hb => .inr hb
    · refine ((hs.ent i f hf').move t (fun b hb => ?_) fun b hb => ?_).grow fun b hb => .inl hb
      · have := houter i f b hi hni hf' (by rw [entB_pre _ (by omega)]; exact hb)
        exact hev.keep b this.2.1 this.2.2
      · exact hev.keep b (hnS b hb).1 (hnS b hb).2
  · rcases hcase i f hf with ⟨i', e, he, rfl, rfl⟩ | ⟨hi, hni, hf'⟩ <;> rcases hcase j g hg with ⟨j', e', he', rfl, rfl⟩ | ⟨hj, hnj, hg'⟩
    · rw [rnE_blk hre'] at hfb hgb
      rw [hs'.inj i' j' e e' b he he' hfb hgb]
    · rw [rnE_blk hre'] at hfb
      have := houter j g b hj hnj hg' hgb
      rcases hev.own b ⟨i', e, he, hfb⟩ with h1 | h1
      · exact absurd h1 this.2.2
      · omega
    · rw [rnE_blk hre'] at hgb
      have := houter i f b hi hni hf' hfb
      rcases hev.own b ⟨j', e', he', hgb⟩ with h1 | h1
      · exact absurd h1 this.2.2
      · omega
    · exact hs.inj i j f g b hf' hg' (houter i f b hi hni hf' hfb).1 (houter j g b hj hnj hg' hgb).1
  · obtain ⟨i, f, hf, hfb⟩ := hb
    rcases hcase i f hf with ⟨j, e, he, rfl, rfl⟩ | ⟨hi, hni, hf'⟩
    · rw [rnE_blk hre'] at hfb
      rcases hSb with hSb | hSb
      · rcases hev.own b ⟨j, e, he, hfb⟩ with h1 | h1
        · exact (hnS b hSb).2 h1
        · have := (hnS b hSb).1; omega
      · exact hs'.out b ⟨j, e, he, hfb⟩ hSb
    · have h1 := houter i f b hi hni hf' hfb
      rcases hSb with hSb | hSb
      · exact hs.out b ⟨i, f, hf', h1.1⟩ hSb
      · rcases hev.imm b hSb with h2 | h2 | h2
        · exact hs.out b ⟨i, f, hf', h1.1⟩ h2
        · exact h1.2.2 h2
        · omega
  · rcases hb with hb | hb
    · exact Nat.lt_of_lt_of_le (hs.low b hb) hev.size
    · exact hs'.low b hb
  · obtain ⟨s, _, e', he', heb⟩ := hmb0 b hm
    exact hn ⟨s, e', he', heb⟩
  · rcases hb with hb | hb
    · exact .inl hb
    · rcases hev.imm b hb with h1 | h1 | h1
      · exact .inl h1
      · obtain ⟨s, _, e', he', heb⟩ := hmb0 b h1
        exact .inr (.inl ⟨s, e', he', heb⟩)
      · exact .inr (.inr h1)
  · cases out with
    | val a => obtain ⟨v, he, hv⟩ := hout; exact ⟨v, he, (rnA_rel hre' a v).2 hv⟩
    | vals l => obtain ⟨xs, he, hv⟩ := hout; exact ⟨xs, he, (rnS_rel hre' l xs).2 hv⟩
    | pan c => exact hout
end Go.AX

/-
  AX, seventeenth text: contracts that were proved of the model's calls, brought in.
-/
namespace Go.AX
open Go.RowKit

/-- A call over plain values that writes nothing that was there. -/
theorem SpecH.rawP {P : Program} {f : FuncId} {xs : List Value} {H : List Ent} {K : Out → List Ent → Prop} {R : Value → Prop} (ok : CallOk P f)
    (h : ∀ w, Facts H w → Calls P f xs.toArray w fun e w' => ∃ r, e = .returned r ∧ R r ∧ Below w.heap.size w w') (hk : ∀ r, R r → K (.val (.c (.v r))) H) : SpecH P f (pvs xs) H K := by
  refine ⟨ok, fun ρ S w vs hs hr => ?_⟩
  obtain rfl := RelS_pvs hr
  refine (h w hs.facts).mono fun e w' ⟨r, he, hR, bel⟩ => ?_
  exact ⟨ρ, S, H, .val (.c (.v r)), hs.below bel, by simpa using below_ev (S := S) (S' := S) (ρ := ρ) (H := H) (H' := H) [] bel (fun b hb => .inl hb) (fun b hb => by simpa using hb), ⟨r, he, rfl⟩, hk r hR⟩

theorem callOk {P : Program} {f : FuncId} {fn : Func} (hf : P.funcs[f]? = some fn) (hn : (fn.name == "runtime.NumGoroutine") = false) (hb : fn.body.isSome = true) : CallOk P f := ⟨fn, hf, hn, hb⟩

/-- One value under a fact; nothing turns. -/
theorem factC {P : Program} (hm : P.follows .mixedOrders = true) {f : FuncId} {fn : Func} {c : Code} (hf : P.funcs[f]? = some fn) (hn : (fn.name == "runtime.NumGoroutine") = false) (hb : fn.body = some c)
    {xs : List Value} (hl : Nat.ble (pvs xs).length fn.ntmps = true) {F : World → Prop} {r : Value} (h : initK fn.ntmps (pvs xs) fun s => exec P c s [.fact F] (endK P fn.results.toList fun out _ => out = .val (.c (.v r)))) (H : List Ent) (hF : ∀ w, Facts H w → F w) : SpecH P f (pvs xs) H (Ret r H) :=
  SpecF.call0 (R := fun v _ => v = r) (specF_of ((spec_of_exec hm hf hn hb hl h).mono fun out H' ho => by subst ho; exact fin_v rfl)) hF fun v G hv => by subst hv; exact ⟨rfl, rfl⟩
theorem brdF {b : Bool} {A B : Prop} (h : b = false) (hB : B) : brd b A B := by subst h; exact hB
theorem brdT {b : Bool} {A B : Prop} (h : b = true) (hA : A) : brd b A B := by subst h; exact hA
theorem av_bool {a b : Bool} (h : a = b) : AV.c (.v (.bool a)) = AV.c (.v (.bool b)) := by rw [h]
end Go.AX

/-
  AX, thirteenth text: from a contract to the row of a law.
-/
namespace Go.AX
open Go.ChangeShapes Go.WideShapes Go.ChangeAt Go.RowKit

section
variable {H : Type} {enc : TypeId × Value → H} {P : Program}

theorem trodAll_len {w : World} {base : Nat} {sp : Nat → Bool} {held : Bool} : ∀ {ts : List TypeId} {vs : List Value} {ds : List (DataW H)} {ps : List MemPlace}, DataW.TrodAll enc P w base sp held ts vs ds ps → ds.length = ts.length ∧ vs.length = ts.length
  | [], [], [], _, _ => ⟨rfl, rfl⟩
  | t :: ts, v :: vs, d :: ds, _, ⟨_, _, _, h, _⟩ => by have := trodAll_len h; simp [this]
  | [], _ :: _, _, _, h => h.elim
  | [], [], _ :: _, _, h => h.elim
  | _ :: _, [], _, _, h => h.elim
  | _ :: _, _ :: _, [], _, h => h.elim

/-- All that was read ahead of the call reads behind it as it did. -/
theorem trodAll_keep (hl : laidOutB P = true) {W W' : World} (hb : Below W.heap.size W W') : ∀ {ts : List TypeId} {vs : List Value} {ds : List (DataW H)} {ps : List MemPlace},
    (ts.all fun t => P.readableRec t && decide (t < P.types.size)) = true → DataW.TrodAll enc P W 0 (fun _ => true) true ts vs ds ps → DataW.TrodAll enc P W' 0 (fun b => decide (b < W.heap.size)) true ts vs ds ps
  | [], [], [], _, _, h => h
  | t :: ts, v :: vs, d :: ds, _, hp, ⟨p, q, h1, h2, e⟩ => by
    simp only [List.all_cons, Bool.and_eq_true, decide_eq_true_eq] at hp
    have lt : ∀ x ∈ p, x.block < W.heap.size := by obtain ⟨m, hm⟩ := h1; exact DataW.trod_lt m _ _ _ hm
    exact ⟨p, q, Below.trod hl hp.1.1 hp.1.2 h1 hb lt, trodAll_keep hl hb (by simpa using hp.2) h2, e⟩
  | [], _ :: _, _, _, _, h => h.elim
  | [], [], _ :: _, _, _, h => h.elim
  | _ :: _, [], _, _, _, h => h.elim
  | _ :: _, _ :: _, [], _, _, h => h.elim

/-- What a law's walk has to show: true, and nothing that was there has turned. -/
def Walk (P : Program) (f : FuncId) (args : Array Value) (W : World) : Prop :=
  Calls P f args W fun e W' => e = .returned (.bool true) ∧ Below W.heap.size W W'

/-- What is known of a law's arguments. -/
structure Known (enc : TypeId × Value → H) (P : Program) (fn : Func) (W : World) (base : Nat) (args : Array Value) (ds : List (DataW H)) (p : List MemPlace) : Prop where
  val : ∀ (j : Nat) t v, fn.params[j]? = some t → args[j]? = some v → Value.okWide P W .any base t v
  trod : DataW.TrodAll enc P W 0 (fun _ => true) true fn.params.toList args.toList ds p
  weights : (DataW.weightsEach P fn.params.toList ds).all (· ≤ reachBytes) = true
  shaped : W.ShapedOpen P

end

end Go.AX
namespace Go.AX
theorem arr1 {α : Type} {a : Array α} (h : a.toList.length = 1) : ∃ x, a = #[x] := by
  match a, h with
  | ⟨[x]⟩, _ => exact ⟨x, rfl⟩
end Go.AX

/-
  AX, eighteenth text: a law whose arguments are slices of numbers or of strings.
-/
namespace Go.AX
open Go.ChangeShapes Go.WideShapes Go.ChangeAt Go.RowKit

theorem cell?_keep {w w' : World} {a : Addr} {x : Value} (h : w.cell? a = some x) (hb : w'.heap[a.block]? = w.heap[a.block]?) : w'.cell? a = some x := by
  simp only [World.cell?] at h ⊢
  rw [hb]; exact h
theorem cell?_lt {w : World} {a : Addr} {x : Value} (h : w.cell? a = some x) : a.block < w.heap.size := by
  simp only [World.cell?] at h
  rcases hc : w.heap[a.block]? with _ | o
  · rw [hc] at h; cases h
  · exact (Array.getElem?_eq_some_iff.1 hc).1
theorem SlAt.imm {w : World} {a : Option Addr} {k : Nat} {xs : List Value} (h : SlAt a k xs w) : Imm (fun b => b < w.heap.size) w (SlAt a k xs) := by
  refine ⟨h, fun w' hw => ⟨h.1, h.2.1, fun j hj => ?_⟩⟩
  have h1 := h.2.2 j hj
  have hj' : j < xs.length := by rw [h.1]; exact hj
  rw [List.getElem?_eq_getElem hj'] at h1 ⊢
  exact cell?_keep h1 (hw _ (cell?_lt h1))

/-- A law whose arguments are plain values, under facts of the memory that it finds. -/
theorem walkH {P : Program} {f : FuncId} {vs : List Value} {w : World} (H : List Ent) (hF : ∀ e ∈ H, ∃ F, e = .fact F ∧ Imm (fun b => b < w.heap.size) w F)
    (h : SpecH P f (pvs vs) H (Ret (.bool true) H)) : Walk P f vs.toArray w := by
  have hn : ∀ (ρ : List Loc) (i : Nat) (e : Ent) (b : Nat), H[i]? = some e → entB ρ i e = some b → False := fun ρ i e b he hb => by
    obtain ⟨F, rfl, _⟩ := hF e (List.mem_of_getElem? he)
    cases hb
  have hm : ∀ (ρ : List Loc) b, ¬ mb ρ H b := fun ρ b ⟨i, e, he, hb⟩ => hn ρ i e b he hb
  have hs : Sat (H.map fun _ => ⟨0, 0⟩) (fun b => b < w.heap.size) H w := by
    refine ⟨by simp, fun i e he => ?_, fun i j e f b he hf hb _ => (hn _ i e b he hb).elim, fun b hb => (hm _ b hb).elim, fun b hb => hb⟩
    obtain ⟨F, rfl, hi⟩ := hF e (List.mem_of_getElem? he)
    exact hi
  refine (h.run _ _ w vs hs (pvs_rel _ vs)).mono fun e w' ⟨ρ', S', H', out, hs', hev, hout, hx, hH⟩ => ?_
  subst hx
  obtain ⟨v, rfl, hv⟩ := hout
  have : v = .bool true := hv
  subst this
  exact ⟨rfl, hev.os, hev.tape, hev.output, hev.size, fun b hb => hev.keep b hb (hm _ b)⟩

section
variable {H : Type} {enc : TypeId × Value → H} {P : Program} {w : World}

theorem known_string {t : TypeId} {v : Value} {d : DataW H} {ps : List MemPlace} {ts : List TypeId} {ds : List (DataW H)} {j : Nat} (ht : P.underlying t = some .string)
    (hsz : (DataW.weightsEach P ts ds).all (· ≤ reachBytes) = true) (hj : ts[j]? = some t) (hd : ds[j]? = some d)
    {r : Reach} {b : Nat} (hv : Value.okWide P w r b t v) (h : DataW.Trod enc P w 0 (fun _ => true) true t v d ps) : ∃ s : ByteArray, v = .string s ∧ s.size ≤ 200000000000000 := by
  obtain ⟨s, rfl⟩ := okWide_string ht hv
  obtain ⟨fuel, hf⟩ := h
  obtain ⟨s, h1, h2, hw⟩ := DataW.trod_string ht hf
  simp only [Prod.mk.injEq] at h2
  rw [h2.1] at hd
  have hs := sized_string hsz hj hd
  have hr : reachBytes < 200000000000000 := by decide
  refine ⟨s, ?_, ?_⟩
  · simpa [Value.cells] using h1
  · have : s.size = s.data.toList.length := rfl
    omega
theorem trodAll_get {base : Nat} {sp : Nat → Bool} {held : Bool} : ∀ {ts : List TypeId} {vs : List Value} {ds : List (DataW H)} {ps : List MemPlace}, DataW.TrodAll enc P w base sp held ts vs ds ps →
    ∀ (j : Nat) t v, ts[j]? = some t → vs[j]? = some v → ∃ d p, ds[j]? = some d ∧ DataW.Trod enc P w base sp held t v d p
  | [], [], [], _, _, j, t, v, h, _ => by simp at h
  | t :: ts, v :: vs, d :: ds, _, ⟨p, _, h1, h, _⟩, 0, t', v', ht, hv => by
    simp only [List.getElem?_cons_zero, Option.some.injEq] at ht hv
    subst ht; subst hv
    exact ⟨d, p, rfl, h1⟩
  | t :: ts, v :: vs, d :: ds, _, ⟨_, _, _, h, _⟩, j + 1, t', v', ht, hv => by
    simp only [List.getElem?_cons_succ] at ht hv ⊢
    exact trodAll_get h j t' v' ht hv
  | [], _ :: _, _, _, h, _, _, _, _, _ => h.elim
  | [], [], _ :: _, _, h, _, _, _, _, _ => h.elim
  | _ :: _, [], _, _, h, _, _, _, _, _ => h.elim
  | _ :: _, _ :: _, [], _, h, _, _, _, _, _ => h.elim

variable {fn : Func} {base : Nat} {args : Array Value} {ds : List (DataW H)} {p : List MemPlace}
/-- What is known of a law's arguments, its memory's shape aside. -/
structure Known0 (enc : TypeId × Value → H) (P : Program) (fn : Func) (W : World) (base : Nat) (args : Array Value) (ds : List (DataW H)) (p : List MemPlace) : Prop where
  val : ∀ (j : Nat) t v, fn.params[j]? = some t → args[j]? = some v → Value.okWide P W .any base t v
  trod : DataW.TrodAll enc P W 0 (fun _ => true) true fn.params.toList args.toList ds p
  weights : (DataW.weightsEach P fn.params.toList ds).all (· ≤ reachBytes) = true
theorem Known.low (k : Known enc P fn w base args ds p) : Known0 enc P fn w base args ds p := ⟨k.val, k.trod, k.weights⟩
theorem Known0.int (k : Known0 enc P fn w base args ds p) (j : Nat) {t : TypeId} {v : Value} {i : IntKind} (hj : fn.params[j]? = some t) (hv : args[j]? = some v) (ht : P.underlying t = some (.int i)) : ∃ n, v = .int i n := okWide_int ht (k.val j t v hj hv)
theorem Known0.string (k : Known0 enc P fn w base args ds p) (j : Nat) {t : TypeId} {v : Value} (hj : fn.params[j]? = some t) (hv : args[j]? = some v) (ht : P.underlying t = some .string) :
    ∃ s : ByteArray, v = .string s ∧ s.size ≤ 200000000000000 := by
  obtain ⟨d, q, hd, h⟩ := trodAll_get k.trod j t v (by simpa using hj) (by simpa using hv)
  exact known_string ht k.weights (by simpa using hj) hd (k.val j t v hj hv) h
end
end Go.AX

/-
  AX, nineteenth text: from a contract to the row of a law that lists package-level variables.
-/
namespace Go.AX
open Go.ChangeShapes Go.WideShapes Go.ChangeAt Go.RowKit

theorem laid_tail {P : Program} {x : String × DataW Unit} {r : List (String × DataW Unit)} {w : World} (h : laidMet P (x :: r) w) : laidMet P r w := by
  obtain ⟨ps, hv, hnd, hrows⟩ := h
  obtain ⟨n, d⟩ := x
  obtain ⟨g, t, cs, fuel, p, q, _, _, _, _, hq, rfl⟩ := hv
  exact ⟨q, hq, List.Nodup.sublist (List.sublist_append_right _ _) hnd, fun b off hm => hrows b off (List.mem_append_right _ hm)⟩

section
variable {H : Type} {enc : TypeId × Value → H}

/-- A listed table of numbers, wherever it stands. -/
theorem tab_imm {P : Program} {W : World} {name : String} {k : IntKind} {zs : List Int} (h : Lib.TabIs P W name k zs) : Imm (fun b => b < W.heap.size) W fun w => Lib.TabIs P w name k zs := by
  refine ⟨h, fun w' hw => ?_⟩
  unfold Lib.TabIs World.var? at *
  cases hg : P.globalNamed name with
  | none => simp [hg] at h
  | some g =>
    simp only [hg, Option.bind_some] at h ⊢
    have hlt : g < W.heap.size := by
      rcases Nat.lt_or_ge g W.heap.size with h' | h'
      · exact h'
      · rw [Array.getElem?_eq_none h'] at h; simp at h
    rw [hw g hlt]
    exact h
end
end Go.AX

/-
  AX, twentieth text: parts of strings, bytes as a string, stores into a slice that grows.
-/
namespace Go.AX
open Go.RowKit

theorem ReadW.val {P : Program} {o : Oper} {s : List AV} {H : List Ent} {K : AV → Prop} (x : Value) (hsel : ∀ cs b, o.op ≠ .select cs b) (hp : allPlain s o.op.operands.toList = true)
    (ok : ∀ w, Facts H w → (execOp (plainEv s) o).run P w = .ok (.value x) w) (hk : K (.c (.v x))) : ReadW P o s H K :=
  ⟨_, hk, fun ρ S w a hs hr => ⟨x, by rw [execOp_congr o hsel (ρ' := plainEv s) fun x hx => allPlain_eval hr _ hp x (Array.mem_toList_iff.2 hx)]; exact ok w hs.facts, rfl⟩⟩

theorem plainEv_v {s : List AV} {x : Operand} {v : Value} (h : opv s x = .c (.v v)) : plainEv s x = v := by simp [plainEv, h]
theorem run_op_slice {P : Program} {o : Oper} {ev : Operand → Value} {t : TypeId} {x : Operand} {lo hi mx : Option Operand} {r : Value} {w : World} (ho : o.op = .slice t x lo hi mx)
    (h : (Instr.sliceAt t (ev x) (lo.map ev) (hi.map ev) (mx.map ev)).run P w = .ok r w) : (execOp ev o).run P w = .ok (.value r) w := by
  unfold execOp; simp only [ho, Sem.run_bind, h, Result.andThen_ok, Sem.run_pure]
theorem run_slice_string_lh {P : Program} (w : World) (t : TypeId) (s : ByteArray) (ht : P.underlying t = some .string) (kl kh : IntKind) (l h : Int) (h0 : 0 ≤ l) (h1 : l ≤ h) (h2 : h ≤ s.size) :
    (Instr.slice t (.string s) (some (.int kl l)) (some (.int kh h)) none).run P w = .ok (.string (s.extract l.toNat h.toNat)) w := by
  have eh : (h.toNat : Int) = h := Int.toNat_of_nonneg (by omega)
  simp [Instr.slice, run_underlying ht, Instr.sliceBounds, run_sliceBound, *, (by omega : 0 ≤ h)]

section
variable {P : Program} {o : Oper} {s : List AV} {H : List Ent} {K : AV → Prop} {t : TypeId} {x y z : Operand} {b : ByteArray} {k k' : IntKind} {i j : Int}
/-- b[i:j] -/
theorem ReadW.str_lh (ho : o.op = .slice t x (some y) (some z) none) (hu : P.underlying t = some .string) (hx : opv s x = .c (.v (.string b))) (hy : opv s y = .c (.v (.int k i))) (hz : opv s z = .c (.v (.int k' j)))
    (h : 0 ≤ i ∧ i ≤ j ∧ j ≤ b.size) (hk : K (.c (.v (.string (b.extract i.toNat j.toNat))))) : ReadW P o s H K :=
  ReadW.val _ (fun cs b e => by rw [ho] at e; cases e) (by rw [ho]; show allPlain s [x, y, z] = true; simp [allPlain, hx, hy, hz])
    (fun w _ => run_op_slice ho (by simp only [Option.map, plainEv_v hx, plainEv_v hy, plainEv_v hz]; rw [run_sliceAt_string w t _ _ _ _ hu, run_slice_string_lh w t b hu k k' i j h.1 h.2.1 h.2.2])) hk
/-- b[i:] -/
theorem ReadW.str_l (ho : o.op = .slice t x (some y) none none) (hu : P.underlying t = some .string) (hx : opv s x = .c (.v (.string b))) (hy : opv s y = .c (.v (.int k i)))
    (h : 0 ≤ i ∧ i ≤ b.size) (hk : K (.c (.v (.string (b.extract i.toNat b.size))))) : ReadW P o s H K :=
  ReadW.val _ (fun cs b e => by rw [ho] at e; cases e) (by rw [ho]; show allPlain s [x, y] = true; simp [allPlain, hx, hy])
    (fun w _ => run_op_slice ho (by simp only [Option.map, plainEv_v hx, plainEv_v hy]; rw [run_sliceAt_string w t _ _ _ _ hu, run_slice_string_l w t b hu k i h.1 h.2])) hk
end

/-- The bytes as values. -/
def u8s (l : List UInt8) : List Value := l.map fun b => .int .u8 (b.toNat : Int)
/-- string(a) of bytes. -/
theorem ReadW.bytes {P : Program} {o : Oper} {s : List AV} {H : List Ent} {K : AV → Prop} {src dst e : TypeId} {x : Operand} {a : Option Addr} {cap n : Nat} (l : List UInt8) (hn : l.length = n) (ho : o.op = .convert src dst x) (hs : P.underlying src = some (.slice e))
    (he : P.underlying e = some (.int .u8)) (hd : P.underlying dst = some .string) (hx : opv s x = .c (.v (.slice a n cap))) (hF : ∀ w, Facts H w → SlAt a n (u8s l) w) (hk : K (.c (.v (.string ⟨l.toArray⟩)))) : ReadW P o s H K := by
  subst hn
  exact ReadW.val _ (fun cs b e => by rw [ho] at e; cases e) (by rw [ho]; show allPlain s [x] = true; simp [allPlain, hx])
    (fun w hw => by
      unfold execOp
      have hS := hF w hw
      have hrun : (convert src dst (.slice a l.length cap)).run P w = .ok (.string ⟨l.toArray⟩) w := by
        cases a with
        | some a =>
          refine run_convert_bytes_back w src dst e a cap l hs he hd ?_
          intro j hj
          have := hS.2.2 j hj
          simpa [u8s, hj] using this
        | none =>
          have hl : l = [] := by
            cases l with
            | nil => rfl
            | cons c l => exact absurd (hS.2.1 (by simp)) (by simp)
          subst hl
          have := run_convert_bytes_string w src dst e none 0 cap hs he hd
          simp [this, Conv.bytesToString]
          rfl
      simp only [ho, plainEv_v hx, Sem.run_bind, hrun, Result.andThen_ok, Sem.run_pure]) hk

/-- A store into a slice that grows. -/
theorem EffW.app {P : Program} {o : Oper} {s : List AV} {H : List Ent} {K : AV → List Ent → Prop} {Ty T : TypeId} {x y : Operand} {sz n cap b q i : Nat} {xs ys : List Value} {inf : TypeInfo} (ho : o.op = .store Ty x y)
    (hx : opv s x = .c (.v (.pointer (some ⟨b, q, none⟩)))) (hi : nthE H i = some (.app T sz xs (some ⟨b, 0, none⟩) n cap)) (hy : avCells (opv s y) = some (vs ys)) (hone : oneCs (vs ys) = true) (hinf : P.info? Ty = some inf) (hlen : ys.length = inf.size)
    (hq : q + ys.length ≤ n * sz) (hk : setEK H i (.app T sz (xs.take q ++ ys ++ xs.drop (q + ys.length)) (some ⟨b, 0, none⟩) n cap) fun H' => K (.c .any) H') : EffW P o s H K := by
  rw [nthE_eq] at hi
  obtain ⟨_, hk⟩ := setEK_spec hk
  refine Effs.w (fun ρ S w a hs hr => ?_) hk
  have hxr : a.eval x = .pointer (some ⟨b, q, none⟩) := by have := opv_rel hr x; rw [hx] at this; exact this
  have hyr := avCells_rel hy (opv_rel hr y)
  have hys : (a.eval y).cells.toList = ys := by
    have : ∀ (l : List Value) (m : List Value), RelL ρ (vs l) m → m = l := by
      intro l
      induction l with
      | nil => intro m h; cases m with
        | nil => rfl
        | cons _ _ => exact h.elim
      | cons v l ih => intro m h; cases m with
        | nil => exact h.elim
        | cons u m => rw [show u = v from h.1, ih m h.2]
    exact this _ _ hyr
  rcases hs.ent i _ hi with ⟨h0, _⟩ | ⟨b', hb', arr, fr, ⟨hb, hfr⟩, hxl, hnc, hcm, hasz, htk⟩
  · cases h0
  cases hb'
  have hnl : n * sz ≤ arr.size := by rw [hasz]; exact Nat.mul_le_mul_right _ hnc
  have hsz : (a.eval y).cells.size = inf.size := by rw [← hlen, ← hys]; simp
  have hfit : q + (a.eval y).cells.toList.length ≤ arr.size := by rw [hys]; omega
  have hrun := run_storeVar (P := P) hb hfr hinf hsz hfit (oneCs_rel hone hyr)
  obtain ⟨f1, f2, f3, f4, f5⟩ := setRow_facts w b (arr.toList.take q ++ (a.eval y).cells.toList ++ arr.toList.drop (q + (a.eval y).cells.toList.length)).toArray
  have hE : EntOk ρ S (w.setRow b (arr.toList.take q ++ (a.eval y).cells.toList ++ arr.toList.drop (q + (a.eval y).cells.toList.length)).toArray) i (.app T sz (xs.take q ++ ys ++ xs.drop (q + ys.length)) (some ⟨b, 0, none⟩) n cap) := by
    have e0 : (arr.toList.take q ++ (a.eval y).cells.toList ++ arr.toList.drop (q + (a.eval y).cells.toList.length)).toArray.size = arr.size := by rw [hys]; simp; omega
    refine .inr ⟨b, rfl, _, fr, ⟨setRow_heap w b arr _ T _ hb, by rw [e0]; exact hfr⟩, ?_, hnc, hcm, ?_, ?_⟩
    · simp; omega
    · rw [hys]; simp; omega
    · rw [hys]
      have e : (arr.toList.take q ++ ys ++ arr.toList.drop (q + ys.length)).toArray.toList.take (n * sz) = (arr.toList.take (n * sz)).take q ++ ys ++ (arr.toList.take (n * sz)).drop (q + ys.length) := by
        apply List.ext_getElem?
        intro j
        simp only [List.getElem?_take, List.getElem?_append, List.getElem?_drop, List.length_append, List.length_take, Array.length_toList]
        by_cases h1 : j < q
        · have : min q arr.size = q := by omega
          have h2 : min q (min (n * sz) arr.size) = q := by omega
          simp [this, h2, h1, show j < q + ys.length by omega, show j < n * sz by omega]
        · have : min q arr.size = q := by omega
          have h2 : min q (min (n * sz) arr.size) = q := by omega
          by_cases h3 : j < q + ys.length
          · simp [this, h2, h1, h3, show j < n * sz by omega]
          · simp only [this, h2, h1, h3, if_false]
            by_cases h4 : j < n * sz
            · simp [h4, show q + ys.length + (j - (q + ys.length)) = j by omega]
            · simp [h4]; omega
      rw [e, htk]
  have hS := hs.setG (e' := .app T sz (xs.take q ++ ys ++ xs.drop (q + ys.length)) (some ⟨b, 0, none⟩) n cap) hi rfl (Nat.le_of_eq f1.symm) (fun k _ hne => f2 k hne) f3 f4 f5 (fun c hc => .inl (Option.some.inj hc).symm) hE
  refine ⟨.skip, undef, ρ, _, ?_, .inr ⟨rfl, rfl⟩, hS.1, hS.2, trivial⟩
  unfold execOp
  simp only [ho, hxr, Instr.storeAt, Instr.sureAddr, Sem.run_bind, Sem.run_pure, Result.andThen_ok, hrun]
end Go.AX

/-
  The walk's own step, under a short name: the goal is walked on as far as nothing is to be decided.
-/
namespace Go.AX
structure WQ (q : Prop) : Prop where
  out : q
theorem wX {p q : Prop} (h : q) (e : WQ q → p := by intro hq; (((conv => whnf); (repeat ((first | refine BoxN.own ?_ | refine RwN.own ?_ | refine VrN.norm (wrap_i64 (by omega)) ?_ | refine VrN.keep ?_ | refine DrawN.calm (by decide +kernel) ?_ | refine Nd.mk (by decide +kernel) ?_ | refine Nd.mk (by omega) ?_ | (refine Nd.mk ?_ ?_; focus ((repeat' (first | exact trivial | exact wkE_refl _ | refine And.intro ?_ ?_)); done)) | refine RdN.intro _ rfl (by rfl) ?_); (conv => whnf))))); exact hq.out) : p := e ⟨h⟩
theorem wZ {p : Prop} (e : p := by ((conv => whnf); (repeat ((first | refine BoxN.own ?_ | refine RwN.own ?_ | refine VrN.norm (wrap_i64 (by omega)) ?_ | refine VrN.keep ?_ | refine DrawN.calm (by decide +kernel) ?_ | refine Nd.mk (by decide +kernel) ?_ | refine Nd.mk (by omega) ?_ | (refine Nd.mk ?_ ?_; focus ((repeat' (first | exact trivial | exact wkE_refl _ | refine And.intro ?_ ?_)); done)) | refine RdN.intro _ rfl (by rfl) ?_); (conv => whnf))))) : p := e
end Go.AX

/-
  AX, twenty-fourth text: from a contract to the row of a law that lists package-level variables, the world's shape kept.
-/
namespace Go.AX
open Go.ChangeShapes Go.WideShapes Go.ChangeAt Go.RowKit

section
variable {H : Type} {enc : TypeId × Value → H}

theorem handed_and_shaped {a : Assume} {C : Checked} {os : Os} {f : FuncId} {fn : Func} {s : ChangeSpec} {conds : List PathCond} {apart fresh handsOn again : Bool} {X : World → Array Value → Prop}
    (hX : ∀ (w w' : World) (args : Array Value), w.heap = w'.heap → X w args → X w' args)
    (own : ownKnob C.prog.godebug = none) (started : os.Started) (noInit : C.prog.inits.idxOf? f = none) (hfn : C.prog.funcs[f]? = some fn)
    (witness : ∃ (w : World) (tape : Tape) (i : Input), w.os = os ∧ (w.forCall tape i).Shaped C.prog ∧ i.vars = [] ∧ Input.okWide C.prog (w.forCall tape i) .any w.heap.size f i ∧
      ((s.pre enc C.prog fn conds apart (w.forCall tape i).memory i.args ∧ X (w.forCall tape i).memory i.args) ∧ sizedMet enc C.prog fn (OpenSpec.ofChange s) apart (w.forCall tape i).memory i.args) ∧ a.holds C.prog (lone (Frame.enter C.prog f i.args .normal) [] (w.forCall tape i)))
    (contract : ∀ (W : World) (base : Nat) (args : Array Value) (ds gs : List (DataW H)) (before : List MemPlace),
      (∀ (j : Nat) t v, fn.params[j]? = some t → args[j]? = some v → Value.okWide C.prog W .any base t v) →
      DataW.Whole enc C.prog fn.params.toList s.vars apart W args.toList ds gs before →
      conds.all (PathCond.test C.prog ⟨fn.params.toList, ds, s.plain.varTypes C.prog, gs⟩) = true →
      (DataW.weightsEach C.prog (fn.params.toList ++ s.plain.varTypes C.prog) (ds ++ gs)).all (· ≤ reachBytes) = true → X W args → W.ShapedOpen C.prog →
      Calls C.prog f args W fun e W' => ∃ v, e = .returned v ∧ s.post enc C.prog fn apart fresh handsOn again W args v W') :
    ReturnsInHanded a C os f .any (fun w args => (s.pre enc C.prog fn conds apart w args ∧ X w args) ∧ sizedMet enc C.prog fn (OpenSpec.ofChange s) apart w args) (s.post enc C.prog fn apart fresh handsOn again) := by
  refine returnsInHanded_of_calls own started noInit witness ?_
  intro w tape i _ hsh _ hok hpre _
  obtain ⟨_, _, _, fn', hfn', _, _, _, _, hval⟩ := hok
  have e : fn' = fn := Option.some.inj (hfn'.symm.trans hfn)
  subst e
  obtain ⟨⟨⟨ds, gs, before, hw, hc⟩, hx⟩, hz⟩ := hpre
  have hw' := DataW.Whole.of_heap (w' := w.forCall tape i) (by rfl) hw
  refine (contract (w.forCall tape i) w.heap.size i.args ds gs before hval hw' hc (hz.weights hw) (hX _ _ _ (by rfl) hx) hsh).mono fun e W' ⟨v, he, hp⟩ => ?_
  subst he
  exact ChangeSpec.post_blind hp

theorem liftS {C : Checked} {os : Os} {f : FuncId} {fn : Func} {s : ChangeSpec} {conds : List PathCond} {laid : List (String × DataW Unit)} (own : ownKnob C.prog.godebug = none) (started : os.Started) (noInit : C.prog.inits.idxOf? f = none)
    (hfn : C.prog.funcs[f]? = some fn)
    (witness : ∃ (w : World) (tape : Tape) (i : Input), w.os = os ∧ (w.forCall tape i).Shaped C.prog ∧ i.vars = [] ∧ Input.okWide C.prog (w.forCall tape i) .any w.heap.size f i ∧
      ((s.pre enc C.prog fn conds false (w.forCall tape i).memory i.args ∧ laidMetH C.prog laid (w.forCall tape i).memory) ∧ sizedMet enc C.prog fn (OpenSpec.ofChange s) false (w.forCall tape i).memory i.args) ∧ ({} : Assume).holds C.prog (lone (Frame.enter C.prog f i.args .normal) [] (w.forCall tape i)))
    (hlaid : laidOutB C.prog = true) (hvars : s.vars = []) {t : TypeId} (hres : fn.resultTypes = #[t]) (hbool : C.prog.underlying t = some .bool)
    (hpar : (fn.params.toList.all fun t => C.prog.readableRec t && decide (t < C.prog.types.size)) = true)
    (hspec : ∀ ds : List (DataW H), ds.length = fn.params.toList.length → s.fn H ds = { results := [.lit (.bool true)], args := ds })
    (walk : ∀ (W : World) (base : Nat) (args : Array Value) (ds : List (DataW H)) (p : List MemPlace), Known enc C.prog fn W base args ds p → laidMetH C.prog laid W → Walk C.prog f args W) :
    ReturnsInHanded {} C os f .any (fun w args => (s.pre enc C.prog fn conds false w args ∧ laidMetH C.prog laid w) ∧ sizedMet enc C.prog fn (OpenSpec.ofChange s) false w args) (s.post enc C.prog fn false true false false) := by
  refine handed_and_shaped (X := fun w _ => laidMetH C.prog laid w) (fun _ _ _ hh h => h.of_heap hh) own started noInit hfn witness ?_
  intro W base args ds gs before hval hW _ hwt hL hsh
  have hW' := hW
  obtain ⟨p, q, hA, hV, rfl, hfz, hnd⟩ := hW
  rw [hvars] at hV
  obtain ⟨rfl, rfl⟩ := trodVars_none hV
  have hvt : s.plain.varTypes C.prog = [] := by simp [DataSpec.varTypes, ChangeSpec.plain, hvars]
  rw [hvt, List.append_nil, List.append_nil] at hwt
  refine (walk W base args ds p ⟨hval, hA, hwt, hsh⟩ hL).mono fun e W' ⟨he, bel⟩ => ?_
  subst he
  have hs := hspec ds (trodAll_len hA).1
  refine ⟨_, rfl, ds, [], p ++ [], [], p, [], hW', ?_, ?_, ?_, bel.frame _, fun h => by cases h⟩
  · rw [List.append_nil, hs, hres]
    exact trodAll_mk1 (shut_bool hbool _)
  · rw [List.append_nil, hs]
    exact trodAll_keep hlaid bel hpar hA
  · rw [List.append_nil, hs, hvars]
    rfl
end
end Go.AX

/-
  AX, twenty-first text: bytes that grow by strings, package unsafe's strings, pointers turned to and fro, functions without a body, parts of slices, entries set ahead.
-/
namespace Go.AX

theorem u8s_len (l : List UInt8) : (u8s l).length = l.length := by simp [u8s]

/-- Where a slice lies: nowhere yet, or at the head of a block. -/
def at0 (ob : Option Nat) : Option Addr := ob.map fun b => ⟨b, 0, none⟩

/-- A type of bytes. -/
def byteB (P : Program) (e : TypeId) : Bool := match P.info? e with
  | some i => (match i.zero with | some (.int .u8 n) => n == 0 | _ => false) && (Nat.beq i.size 1 && Nat.beq i.bytes 1)
  | none => false
theorem byteB_spec {P : Program} {e : TypeId} (h : byteB P e = true) : ∃ i, P.info? e = some i ∧ i.zero = some (.int .u8 0) ∧ i.size = 1 ∧ i.bytes = 1 := by
  unfold byteB at h
  split at h
  · rename_i i hi
    simp only [Bool.and_eq_true] at h
    obtain ⟨h1, h2, h3⟩ := h
    split at h1
    · rename_i n hz
      exact ⟨i, hi, by rw [hz, beq_iff_eq.1 h1], Nat.eq_of_beq_eq_true h2, Nat.eq_of_beq_eq_true h3⟩
    · cases h1
  · cases h
/-! ### Pointers -/
/-! ### Functions without a body -/
theorem EffW.ext {P : Program} {o : Oper} {s : List AV} {H : List Ent} {K : AV → List Ent → Prop} {f : FuncId} {fn : Func} {e : Array Value → Sem Value} {args : Array Operand} {ts : Array TypeId} (ho : o.op = .call { callee := .value (.func f), args := args, argTypes := ts })
    (hf : P.funcs[f]? = some fn) (hname : (fn.name == "runtime.NumGoroutine") = false) (hb : fn.body.isNone = true) (hn : Extern.findNext fn = none) (he : Extern.find fn = some e) (av : AV) (h : K av H)
    (hrun : ∀ (ρ : List Loc) (vs : List Value), RelS ρ (opvs s args.toList) vs → ∃ v, av.rel ρ v ∧ ∀ w, (e vs.toArray).run P w = .ok v w) : EffW P o s H K := by
  intro ρ S w a hs hr
  obtain ⟨v, hv, hrun⟩ := hrun ρ _ (opvs_rel hr args.toList)
  refine ⟨av, H, h, .value v, v, ρ, w, ?_, .inl rfl, hs, Ev.refl _ _ _ _, hv⟩
  have hc := run_callFunc_extern hf hname hb hn he (args.toList.map a.eval).toArray w
  rw [hrun w] at hc
  have he2 : args.map a.eval = (args.toList.map a.eval).toArray := by apply Array.ext'; simp
  unfold execOp
  simp only [ho, resolve, Deferred.ofValue, invoke, Act.eval, Sem.run_bind, Sem.run_pure, Result.andThen_ok, he2]
  simpa using hc
/-! ### Bytes as a string -/
/-! ### Parts of slices -/
/-! ### Entries set ahead -/
theorem SpecH.pad {P : Program} {f : FuncId} {args : List AV} {H : List Ent} {K : Out → List Ent → Prop} (pad : List Ent) (hp : padB pad = true) (h : SpecH P f args (H ++ pad) K) : SpecH P f args H K := by
  refine ⟨h.ok, fun ρ S w vs hs hr => ?_⟩
  obtain ⟨t, hs', hev⟩ := hs.pad pad hp
  exact (h.run (ρ ++ t) S w vs hs' (RelS_pre t hr)).mono fun e w' ⟨ρ', S', H', out, h1, h2, h3, h4⟩ => ⟨ρ', S', H', out, h1, hev.trans h2, h3, h4⟩
end Go.AX

/-
  AX, twenty-second text: bytes as lists; contracts that turn own entries.
-/
namespace Go.AX

def bs (l : List UInt8) : ByteArray := ⟨l.toArray⟩
theorem bs_app (a b : List UInt8) : bs a ++ bs b = bs (a ++ b) := by
  apply ByteArray.ext
  simp [bs]
theorem bs_size (a : List UInt8) : (bs a).size = a.length := by simp [bs, ByteArray.size]
theorem bs_list (a : List UInt8) : (bs a).data.toList = a := by simp [bs]
theorem bs_ext (l : List UInt8) (i j : Nat) : (bs l).extract i j = bs ((l.take j).drop i) := by
  apply ByteArray.ext
  apply Array.ext'
  rw [ByteArray.data_extract]
  simp [bs, List.drop_take]
theorem bs_drop (l : List UInt8) (i : Nat) : (bs l).extract i l.length = bs (l.drop i) := by rw [bs_ext, List.take_length]
theorem byteAt_get {l : List UInt8} {i : Nat} {c : UInt8} (h : l[i]? = some c) : byteAt (bs l) i = (c.toNat : Int) := by
  simp [byteAt, bs_list, List.getD, h]
theorem take_snoc {α : Type} {l : List α} {i : Nat} {c : α} (h : l[i]? = some c) : l.take (i + 1) = l.take i ++ [c] := by
  obtain ⟨hi, rfl⟩ := List.getElem?_eq_some_iff.1 h
  exact List.take_succ_eq_append_getElem hi
theorem u8_eq {c : UInt8} {n : Nat} (hn : n < 256) : ((c.toNat : Int) == (n : Int)) = (c == UInt8.ofNat n) := by
  by_cases h : c = UInt8.ofNat n
  · subst h
    have e : (UInt8.ofNat n).toNat = n := by simp; omega
    rw [e]; simp
  · rw [show (c == UInt8.ofNat n) = false by simpa using h]
    have : ¬ (c.toNat : Int) = (n : Int) := fun h2 => h (UInt8.toNat_inj.1 (by simp; omega))
    simpa using this

/-- s[i:] -/
theorem ReadW.sl_l {P : Program} {o : Oper} {s : List AV} {H : List Ent} {K : AV → Prop} {t : TypeId} {x y : Operand} {b : List UInt8} {k : IntKind} {i : Int} (n : Nat) (ho : o.op = .slice t x (some y) none none) (hu : P.underlying t = some .string) (hx : opv s x = .c (.v (.string (bs b)))) (hy : opv s y = .c (.v (.int k i)))
    (h : i = (n : Int) ∧ n ≤ b.length) (hk : K (.c (.v (.string (bs (b.drop n)))))) : ReadW P o s H K :=
  ReadW.str_l ho hu hx hy ⟨by omega, by rw [bs_size]; omega⟩ (by rw [bs_size, show i.toNat = n by omega, bs_drop]; exact hk)
/-- s[i:j] -/
theorem ReadW.sl_lh {P : Program} {o : Oper} {s : List AV} {H : List Ent} {K : AV → Prop} {t : TypeId} {x y z : Operand} {b : List UInt8} {k k' : IntKind} {i j : Int} (n m : Nat) (ho : o.op = .slice t x (some y) (some z) none) (hu : P.underlying t = some .string) (hx : opv s x = .c (.v (.string (bs b)))) (hy : opv s y = .c (.v (.int k i))) (hz : opv s z = .c (.v (.int k' j)))
    (h : i = (n : Int) ∧ j = (m : Int) ∧ n ≤ m ∧ m ≤ b.length) (hk : K (.c (.v (.string (bs ((b.take m).drop n)))))) : ReadW P o s H K :=
  ReadW.str_lh ho hu hx hy hz ⟨by omega, by omega, by rw [bs_size]; omega⟩ (by rw [show i.toNat = n by omega, show j.toNat = m by omega, bs_ext]; exact hk)

/-- The call hands back a value of a family, and leaves own entries of that family. -/
def RetG {ι : Type} (inv : ι → Prop) (val : ι → Value) (G : ι → List Ent) : Out → List Ent → Prop := fun out H' => ∃ i, inv i ∧ out = .val (.c (.v (val i))) ∧ H' = G i
theorem SpecH.wkG {P : Program} {f : FuncId} {args : List AV} {H : List Ent} {ι : Type} {inv : ι → Prop} {val : ι → Value} {G : ι → List Ent} (hok : ∀ i, inv i → okH (G i).length (G i)) (hl : ∀ i, inv i → H.length ≤ (G i).length)
    (h : SpecH P f args H fun out H' => ∃ i, inv i ∧ out = .val (.c (.v (val i))) ∧ wkH H' (G i)) : SpecH P f args H (RetG inv val G) := by
  refine ⟨h.ok, fun ρ S w vs hs hr => (h.run ρ S w vs hs hr).mono fun e w' ⟨ρ', S', H', out, hs', hev, hout, i, hi, hx, hw⟩ => ?_⟩
  subst hx
  obtain ⟨h1, h2⟩ := hs'.weak hw (hok i hi)
  refine ⟨ρ'.take (G i).length, S', G i, .val (.c (.v (val i))), h1, ⟨?_, hev.os, hev.tape, hev.output, hev.size, hev.keep, hev.imm, fun b hb => hev.own b (h2 b hb)⟩, hout, i, hi, rfl, rfl⟩
  obtain ⟨t, ht⟩ := hev.pre
  refine ⟨t.take ((G i).length - ρ.length), ?_⟩
  rw [ht, List.take_append, List.take_of_length_le (by rw [hs.len]; exact hl i hi)]
/-- A contract on own entries, by the executor. -/
theorem ownC {P : Program} (hm : P.follows .mixedOrders = true) {f : FuncId} {fn : Func} {c : Code} (hf : P.funcs[f]? = some fn) (hn : (fn.name == "runtime.NumGoroutine") = false) (hb : fn.body = some c)
    {args : List AV} {H : List Ent} (hl : Nat.ble args.length fn.ntmps = true) {ι : Type} {inv : ι → Prop} {val : ι → Value} {G : ι → List Ent} (hok : ∀ i, inv i → okH (G i).length (G i)) (hl2 : ∀ i, inv i → H.length ≤ (G i).length)
    (h : initK fn.ntmps args fun s => exec P c s H (endK P fn.results.toList fun out H' => ∃ i, inv i ∧ out = .val (.c (.v (val i))) ∧ wkH H' (G i))) : SpecH P f args H (RetG inv val G) :=
  SpecH.wkG hok hl2 (spec_of_exec hm hf hn hb hl h)
/-- .. used among other entries. -/
theorem callG {P : Program} {f : FuncId} {args0 : List AV} {H0 : List Ent} {ι : Type} {inv : ι → Prop} {val : ι → Value} {G : ι → List Ent} (h : SpecH P f args0 H0 (RetG inv val G)) (σ : List Nat) {args : List AV} {H : List Ent} {K : Out → List Ent → Prop}
    (hn : ndB σ = true) (hp : part σ H.length H σ H0) (ha : args = rnS σ H.length args0) (hk : ∀ i, inv i → mrg (rnE σ H.length) σ (G i) H fun G' => K (.val (.c (.v (val i)))) G') : SpecH P f args H K :=
  h.at σ hn hp ha fun out H' ⟨i, hi, ho, hH⟩ => by subst ho; subst hH; exact hk i hi
theorem wkH_nil (H : List Ent) : wkH H [] := by cases H <;> trivial
theorem wkH_of_eq {H G : List Ent} (h : H = G) : wkH H G := by subst h; exact wkH_refl _
end Go.AX

/-
  Contracts: strings.Builder, own.
-/
namespace Go.Proofs.YteejemdibfbccaaGreatDoor
open Go.AX Go.RowKit
set_option maxRecDepth 20000
theorem hm : Tryz.prog.follows .mixedOrders = true := by kernel_rfl

structure BSt where
  ob : Option Nat
  cap : Nat
/-- Where a Builder's bytes lie. -/
def BSt.ok (n : Nat) (i : BSt) : Prop := (i.ob = none → n = 0 ∧ i.cap = 0) ∧ n ≤ i.cap ∧ (i.cap = 0 → i.ob = none)

end Go.Proofs.YteejemdibfbccaaGreatDoor

/-
  DERIVED: THE SHELF's CONTRACTS AT THIS DUMP, IN PLAIN WORDS (tools/lay-plain.mjs out of 'TryzShelf.lean', which tools/lay-shelf.mjs wrote): THE SAME DECLARATIONS UNDER THE SAME NAMES: 'import', 'namespace', 'open', 'def', 'theorem' AND NOTHING ELSE: no command of the shelf's: FOR A HAND-IN. Each laying: the table of numbers ('.._ren') and one theorem, a field a fact of the dump's own or the kernel's comparison; each contract: ONE APPLICATION.
-/
namespace Go.Proofs
open Go.Shelf
def Tryz.lays137_ren : Go.Shelf.Ren := ⟨fun | 137 => 121 | 217 => 106 | 266 => 131 | n => n, fun | 9 => 9 | 5 => 5 | 3 => 3 | n => n, fun | n => n⟩
theorem Tryz.lays137 : Go.Proofs.Lays.n137 Tryz.prog Tryz.lays137_ren := {
  mixed := by kernel_rfl
  f137 := Tryz.func121.trans (congrArg some (by kernel_rfl))
  f217 := Tryz.func106.trans (congrArg some (by kernel_rfl))
  f266 := Tryz.func131.trans (congrArg some (by kernel_rfl))
  t3 := Tryz.underlying3
  a3 := Tryz.isAgg3
  z3 := Tryz.sizeOf3
  v3 := Tryz.zeroValue3
  t5 := Tryz.underlying5
  a5 := Tryz.isAgg5
  z5 := Tryz.sizeOf5
  v5 := Tryz.zeroValue5
  t9 := Tryz.underlying9
  a9 := Tryz.isAgg9
  z9 := Tryz.sizeOf9
  v9 := Tryz.zeroValue9 }
open Go.RowKit in
/-- strings.IndexByte: "IndexByte returns the index of the first instance of c in s, or -1 if c is not present in s.": IT RETURNS 'Lib.indexByte s c'; the world is as it was. (LAID: no walk: one application.) -/
theorem Tryz.strings_IndexByte (s : ByteArray) (c : Int) (w : World) :
    Calls Tryz.prog 121 #[.string s, .int .u8 c] w fun e w' => e = .returned (.int .i64 (Lib.indexByte s.data.toList c.toNat.toUInt8)) ∧ w' = w := Any.strings_IndexByte Tryz.lays137 s c w
def Tryz.lays144_ren : Go.Shelf.Ren := ⟨fun | 144 => 34 | 143 => 54 | 219 => 82 | 217 => 106 | 225 => 107 | 224 => 108 | 267 => 109 | 266 => 131 | 314 => 132 | n => n, fun | 9 => 9 | 4 => 4 | 3 => 3 | 5 => 5 | 46 => 46 | 146 => 157 | 51 => 75 | n => n, fun | 1 => 2 | n => n⟩
theorem Tryz.lays144 : Go.Proofs.Lays.n144 Tryz.prog Tryz.lays144_ren := {
  mixed := by kernel_rfl
  f143 := Tryz.func54.trans (congrArg some (by kernel_rfl))
  f144 := Tryz.func34.trans (congrArg some (by kernel_rfl))
  f217 := Tryz.func106.trans (congrArg some (by kernel_rfl))
  f219 := Tryz.func82.trans (congrArg some (by kernel_rfl))
  f224 := Tryz.func108.trans (congrArg some (by kernel_rfl))
  f225 := Tryz.func107.trans (congrArg some (by kernel_rfl))
  f266 := Tryz.func131.trans (congrArg some (by kernel_rfl))
  f267 := Tryz.func109.trans (congrArg some (by kernel_rfl))
  f314 := Tryz.func132.trans (congrArg some (by kernel_rfl))
  t3 := Tryz.underlying3
  a3 := Tryz.isAgg3
  z3 := Tryz.sizeOf3
  v3 := Tryz.zeroValue3
  t4 := Tryz.underlying4
  a4 := Tryz.isAgg4
  z4 := Tryz.sizeOf4
  v4 := Tryz.zeroValue4
  t5 := Tryz.underlying5
  a5 := Tryz.isAgg5
  z5 := Tryz.sizeOf5
  v5 := Tryz.zeroValue5
  t9 := Tryz.underlying9
  a9 := Tryz.isAgg9
  z9 := Tryz.sizeOf9
  v9 := Tryz.zeroValue9
  t46 := Tryz.underlying46
  a46 := Tryz.isAgg46
  z46 := Tryz.sizeOf46
  v46 := Tryz.zeroValue46
  t51 := Tryz.underlying75
  a51 := Tryz.isAgg75
  z51 := Tryz.sizeOf75
  v51 := Tryz.zeroValue75
  t146 := Tryz.underlying157
  a146 := Tryz.isAgg157
  z146 := Tryz.sizeOf157
  v146 := Tryz.zeroValue157
  g1 := by kernel_rfl }
open Go.RowKit Go.Lib in
/-- strings.Contains: "Contains reports whether substr is within s.": AT A substr OF ONE BYTE c: IT RETURNS 'decide (0 ≤ Lib.indexByte s c)'; the world is as it was. (LAID: no walk: one application.) -/
theorem Tryz.strings_Contains_one (s : ByteArray) (c : UInt8) (w : World) :
    Calls Tryz.prog 34 #[.string s, .string ⟨#[c]⟩] w fun e w' => e = .returned (.bool (decide (0 ≤ Lib.indexByte s.data.toList c))) ∧ w' = w := Any.strings_Contains_one Tryz.lays144 s c w
open Go.RowKit Go.Lib in
/-- strings.Contains: "Contains reports whether substr is within s.": IT RETURNS 'Lib.contains s substr'; the world is as it was. (LAID: no walk: one application.) -/
theorem Tryz.strings_Contains (s sub : ByteArray) (m : Int) (w : World) (hs : s.size < 4294967281) (hm : w.cell? ⟨2, 0, none⟩ = some (.int .i64 m)) :
    Calls Tryz.prog 34 #[.string s, .string sub] w fun e w' => e = .returned (.bool (Lib.contains s.data.toList sub.data.toList)) ∧ w' = w := Any.strings_Contains Tryz.lays144 s sub m w hs hm
def Tryz.lays138_ren : Go.Shelf.Ren := ⟨fun | 138 => 87 | 195 => 118 | 218 => 119 | 143 => 54 | 219 => 82 | 217 => 106 | 225 => 107 | 224 => 108 | 267 => 109 | 266 => 131 | 314 => 132 | n => n, fun | 9 => 9 | 3 => 3 | 4 => 4 | 5 => 5 | 0 => 0 | 46 => 46 | 146 => 157 | 51 => 75 | n => n, fun | 1 => 2 | n => n⟩
theorem Tryz.lays138 : Go.Proofs.Lays.n138 Tryz.prog Tryz.lays138_ren := {
  mixed := by kernel_rfl
  f138 := Tryz.func87.trans (congrArg some (by kernel_rfl))
  f143 := Tryz.func54.trans (congrArg some (by kernel_rfl))
  f195 := Tryz.func118.trans (congrArg some (by kernel_rfl))
  f217 := Tryz.func106.trans (congrArg some (by kernel_rfl))
  f218 := Tryz.func119.trans (congrArg some (by kernel_rfl))
  f219 := Tryz.func82.trans (congrArg some (by kernel_rfl))
  f224 := Tryz.func108.trans (congrArg some (by kernel_rfl))
  f225 := Tryz.func107.trans (congrArg some (by kernel_rfl))
  f266 := Tryz.func131.trans (congrArg some (by kernel_rfl))
  f267 := Tryz.func109.trans (congrArg some (by kernel_rfl))
  f314 := Tryz.func132.trans (congrArg some (by kernel_rfl))
  t0 := Tryz.underlying0
  a0 := Tryz.isAgg0
  z0 := Tryz.sizeOf0
  v0 := Tryz.zeroValue0
  t3 := Tryz.underlying3
  a3 := Tryz.isAgg3
  z3 := Tryz.sizeOf3
  v3 := Tryz.zeroValue3
  t4 := Tryz.underlying4
  a4 := Tryz.isAgg4
  z4 := Tryz.sizeOf4
  v4 := Tryz.zeroValue4
  t5 := Tryz.underlying5
  a5 := Tryz.isAgg5
  z5 := Tryz.sizeOf5
  v5 := Tryz.zeroValue5
  t9 := Tryz.underlying9
  a9 := Tryz.isAgg9
  z9 := Tryz.sizeOf9
  v9 := Tryz.zeroValue9
  t46 := Tryz.underlying46
  a46 := Tryz.isAgg46
  z46 := Tryz.sizeOf46
  v46 := Tryz.zeroValue46
  t51 := Tryz.underlying75
  a51 := Tryz.isAgg75
  z51 := Tryz.sizeOf75
  v51 := Tryz.zeroValue75
  t146 := Tryz.underlying157
  a146 := Tryz.isAgg157
  z146 := Tryz.sizeOf157
  v146 := Tryz.zeroValue157
  g1 := by kernel_rfl }
open Go.RowKit Go.Lib in
/-- strings.Count AT A substr OF ONE BYTE ('hp'): "Count counts the number of non-overlapping instances of substr in s.": IT RETURNS 'Lib.countByte s (that byte)'; the world is as it was. ✋ NO CONTRACT HERE YET at an empty substr (utf8.RuneCountInString) or at a longer one (a loop over strings.Index). (LAID: no walk: one application.) -/
theorem Tryz.strings_Count_one (s : ByteArray) (c : UInt8) (w : World) :
    Calls Tryz.prog 87 #[.string s, .string ⟨#[c]⟩] w fun e w' => e = .returned (.int .i64 (Lib.countByte s.data.toList c)) ∧ w' = w := Any.strings_Count_one Tryz.lays138 s c w
def Tryz.lays99_ren : Go.Shelf.Ren := ⟨fun | 99 => 91 | 206 => 123 | n => n, fun | 9 => 9 | 4 => 4 | 3 => 3 | n => n, fun | n => n⟩
theorem Tryz.lays99 : Go.Proofs.Lays.n99 Tryz.prog Tryz.lays99_ren := {
  mixed := by kernel_rfl
  f99 := Tryz.func91.trans (congrArg some (by kernel_rfl))
  f206 := Tryz.func123.trans (congrArg some (by kernel_rfl))
  t3 := Tryz.underlying3
  a3 := Tryz.isAgg3
  z3 := Tryz.sizeOf3
  v3 := Tryz.zeroValue3
  t4 := Tryz.underlying4
  a4 := Tryz.isAgg4
  z4 := Tryz.sizeOf4
  v4 := Tryz.zeroValue4
  t9 := Tryz.underlying9
  a9 := Tryz.isAgg9
  z9 := Tryz.sizeOf9
  v9 := Tryz.zeroValue9 }
open Go.RowKit Go.Lib in
/-- strings.HasPrefix: "HasPrefix reports whether the string s begins with prefix.": IT RETURNS 'Lib.hasPrefix s prefix'; the world is as it was. (LAID: no walk: one application.) -/
theorem Tryz.strings_HasPrefix (s p : ByteArray) (w : World) :
    Calls Tryz.prog 91 #[.string s, .string p] w fun e w' => e = .returned (.bool (Lib.hasPrefix s.data.toList p.data.toList)) ∧ w' = w := Any.strings_HasPrefix Tryz.lays99 s p w
def Tryz.lays157_ren : Go.Shelf.Ren := ⟨fun | 157 => 28 | 229 => 48 | 199 => 49 | 261 => 80 | 311 => 104 | 312 => 105 | n => n, fun | 9 => 9 | 31 => 27 | 3 => 3 | 5 => 5 | 4 => 4 | 119 => 67 | 0 => 0 | 40 => 69 | 152 => 101 | 21 => 21 | 154 => 103 | 51 => 75 | 141 => 105 | 196 => 126 | 193 => 123 | 198 => 129 | 49 => 127 | 194 => 124 | 201 => 132 | 226 => 155 | 46 => 46 | 227 => 156 | n => n, fun | 0 => 0 | 6 => 1 | n => n⟩
theorem Tryz.lays157 : Go.Proofs.Lays.n157 Tryz.prog Tryz.lays157_ren := {
  mixed := by kernel_rfl
  f157 := Tryz.func28.trans (congrArg some (by kernel_rfl))
  f199 := Tryz.func49.trans (congrArg some (by kernel_rfl))
  f229 := Tryz.func48.trans (congrArg some (by kernel_rfl))
  f261 := Tryz.func80.trans (congrArg some (by kernel_rfl))
  f311 := Tryz.func104.trans (congrArg some (by kernel_rfl))
  f312 := Tryz.func105.trans (congrArg some (by kernel_rfl))
  t0 := Tryz.underlying0
  a0 := Tryz.isAgg0
  z0 := Tryz.sizeOf0
  v0 := Tryz.zeroValue0
  t3 := Tryz.underlying3
  a3 := Tryz.isAgg3
  z3 := Tryz.sizeOf3
  v3 := Tryz.zeroValue3
  t4 := Tryz.underlying4
  a4 := Tryz.isAgg4
  z4 := Tryz.sizeOf4
  v4 := Tryz.zeroValue4
  t5 := Tryz.underlying5
  a5 := Tryz.isAgg5
  z5 := Tryz.sizeOf5
  v5 := Tryz.zeroValue5
  t9 := Tryz.underlying9
  a9 := Tryz.isAgg9
  z9 := Tryz.sizeOf9
  v9 := Tryz.zeroValue9
  t21 := Tryz.underlying21
  a21 := Tryz.isAgg21
  z21 := Tryz.sizeOf21
  v21 := Tryz.zeroValue21
  t31 := Tryz.underlying27
  a31 := Tryz.isAgg27
  z31 := Tryz.sizeOf27
  v31 := Tryz.zeroValue27
  t40 := Tryz.underlying69
  a40 := Tryz.isAgg69
  z40 := Tryz.sizeOf69
  v40 := Tryz.zeroValue69
  t46 := Tryz.underlying46
  a46 := Tryz.isAgg46
  z46 := Tryz.sizeOf46
  v46 := Tryz.zeroValue46
  t49 := Tryz.underlying127
  a49 := Tryz.isAgg127
  z49 := Tryz.sizeOf127
  v49 := Tryz.zeroValue127
  t51 := Tryz.underlying75
  a51 := Tryz.isAgg75
  z51 := Tryz.sizeOf75
  v51 := Tryz.zeroValue75
  t119 := Tryz.underlying67
  a119 := Tryz.isAgg67
  z119 := Tryz.sizeOf67
  t141 := Tryz.underlying105
  a141 := Tryz.isAgg105
  z141 := Tryz.sizeOf105
  v141 := Tryz.zeroValue105
  t152 := Tryz.underlying101
  a152 := Tryz.isAgg101
  z152 := Tryz.sizeOf101
  v152 := Tryz.zeroValue101
  t154 := Tryz.underlying103
  a154 := Tryz.isAgg103
  z154 := Tryz.sizeOf103
  v154 := Tryz.zeroValue103
  t193 := Tryz.underlying123
  a193 := Tryz.isAgg123
  z193 := Tryz.sizeOf123
  v193 := Tryz.zeroValue123
  t194 := Tryz.underlying124
  a194 := Tryz.isAgg124
  z194 := Tryz.sizeOf124
  v194 := Tryz.zeroValue124
  t196 := Tryz.underlying126
  a196 := Tryz.isAgg126
  z196 := Tryz.sizeOf126
  v196 := Tryz.zeroValue126
  t198 := Tryz.underlying129
  a198 := Tryz.isAgg129
  z198 := Tryz.sizeOf129
  v198 := Tryz.zeroValue129
  t201 := Tryz.underlying132
  a201 := Tryz.isAgg132
  z201 := Tryz.sizeOf132
  v201 := Tryz.zeroValue132
  t226 := Tryz.underlying155
  a226 := Tryz.isAgg155
  z226 := Tryz.sizeOf155
  v226 := Tryz.zeroValue155
  t227 := Tryz.underlying156
  a227 := Tryz.isAgg156
  z227 := Tryz.sizeOf156
  v227 := Tryz.zeroValue156
  g0 := by kernel_rfl
  g6 := by kernel_rfl }
open Go.RowKit Go.Lib in
/-- strings.Fields, the table by 'Lib.TabIs' (as strings.TrimSpace's contract). 'hg': the table's number, by its name: at a dump 'by kernel_rfl'. (LAID: no walk: one application.) -/
theorem Tryz.strings_Fields (s : ByteArray) (w : World) (hs : s.size < 4294967281) (hascii : ∀ (j : Nat) b, s.data.toList[j]? = some b → b.toNat < 128) (htab : Lib.TabIs Tryz.prog w "strings.asciiSpace" .u8 Lib.asciiSpaceTab) :
    Calls Tryz.prog 28 #[.string s] w fun e w' =>
      e = .returned (.slice (some ⟨w.heap.size, 0, none⟩) (Lib.fields s.data.toList).length (Lib.fields s.data.toList).length) ∧ w' = w.alloc (.cells ((Lib.fields s.data.toList).map fun l => Value.string ⟨l.toArray⟩).toArray 9) := Any.strings_Fields Tryz.lays157 (by kernel_rfl) (by kernel_rfl) s w hs hascii htab
end Go.Proofs

/-
  AX, twenty-third text: rows of bytes that the runtime makes; copies of nothing; rows that are made.
-/
namespace Go.AX

/-- A new row in a new block. -/
theorem Sat.newApp {ρ : List Loc} {S : Nat → Prop} {H : List Ent} {w w' : World} {T : TypeId} {sz n cap : Nat} {xs : List Value} (hs : Sat ρ S H w) {ob : Obj} (hheap : w'.heap = w.heap.push ob) (ho : w'.os = w.os) (ht : w'.tape = w.tape) (hu : w'.output = w.output) (hr : RowF T sz n xs w.heap.size cap w') :
    Sat (ρ ++ [⟨0, 0⟩]) S (H ++ [.app T sz xs (some ⟨w.heap.size, 0, none⟩) n cap]) w' ∧ Ev ρ S H w (ρ ++ [⟨0, 0⟩]) S (H ++ [.app T sz xs (some ⟨w.heap.size, 0, none⟩) n cap]) w' :=
  hs.snocG (e := .app T sz xs (some ⟨w.heap.size, 0, none⟩) n cap) (l := ⟨0, 0⟩) (w' := w') (ob := ob) (fun _ hb => (Option.some.inj hb).symm) hheap ho ht hu (.inr ⟨_, rfl, hr⟩)

end Go.AX

/-
  Contracts: functions of package strings that only read (by the shelf); Builder's Grow; Replace.
-/
namespace Go.Proofs.YteejemdibfbccaaGreatDoor
open Go.AX Go.RowKit
set_option maxRecDepth 20000

/-- A variable of the library holds some number. -/
def MaxF (w : World) : Prop := ∃ m, w.cell? ⟨2, 0, none⟩ = some (.int .i64 m)

theorem HasPrefix_c (s p : List UInt8) : ∀ H, SpecH Tryz.prog 91 (pvs [.string (bs s), .string (bs p)]) H (Ret (.bool (p.isPrefixOf s)) H) := fun H =>
  SpecH.rawP (R := fun r => r = .bool (p.isPrefixOf s)) (callOk Tryz.func91 (by kernel_rfl) rfl)
    (fun w _ => (Tryz.strings_HasPrefix (bs s) (bs p) w).mono fun e w' ⟨he, hw⟩ => ⟨_, he, by rw [bs_list, bs_list]; rfl, by subst hw; exact Below.refl _ _⟩) fun r hr => by subst hr; exact ⟨rfl, rfl⟩
theorem IndexByte_c (s : List UInt8) (c : UInt8) : ∀ H, SpecH Tryz.prog 121 (pvs [.string (bs s), .int .u8 (c.toNat : Int)]) H (Ret (.int .i64 (Lib.indexByte s c)) H) := fun H =>
  SpecH.rawP (R := fun r => r = .int .i64 (Lib.indexByte s c)) (callOk Tryz.func121 (by kernel_rfl) rfl)
    (fun w _ => (Tryz.strings_IndexByte (bs s) (c.toNat : Int) w).mono fun e w' ⟨he, hw⟩ => ⟨_, he, by rw [bs_list]; simp, by subst hw; exact Below.refl _ _⟩) fun r hr => by subst hr; exact ⟨rfl, rfl⟩
theorem Count1_c (s : List UInt8) (c : UInt8) : ∀ H, SpecH Tryz.prog 87 (pvs [.string (bs s), .string (bs [c])]) H (Ret (.int .i64 (s.count c : Nat)) H) := fun H =>
  SpecH.rawP (R := fun r => r = .int .i64 (s.count c : Nat)) (callOk Tryz.func87 (by kernel_rfl) rfl)
    (fun w _ => (Tryz.strings_Count_one (bs s) c w).mono fun e w' ⟨he, hw⟩ => ⟨_, he, by rw [bs_list]; rfl, by subst hw; exact Below.refl _ _⟩) fun r hr => by subst hr; exact ⟨rfl, rfl⟩
/-! ### Builder's Grow, where nothing is written yet -/
/-! ### Replace -/
/-- How far the loop has come: what is left is replaced as all would be. -/
structure RpOk (s old new : List UInt8) (k : Nat) (i : Nat) (out : List UInt8) (st : Nat) : Prop where
  le : i ≤ k
  hst : st ≤ s.length
  cnt : k - i ≤ Lib.count (s.drop st) old
  eq : out ++ Lib.replaceK old new (k - i) (s.drop st) = Lib.replaceK old new k s
  len : out.length ≤ st + i * new.length
theorem RpOk.step {s old new : List UInt8} {k i : Nat} {out : List UInt8} {st : Nat} (h1 : 1 ≤ old.length) (h : RpOk s old new k i out st) (hi : i < k) :
    ∃ x : Nat, Lib.index (s.drop st) old = x ∧ st + x + old.length ≤ s.length ∧ RpOk s old new k (i + 1) (out ++ (s.take (st + x)).drop st ++ new) (st + x + old.length) := by
  obtain ⟨x, hx⟩ := Lib.index_of_count (s := s.drop st) (old := old) (by have := h.cnt; omega)
  have hroom := Lib.index_room (s.drop st) old (by omega)
  rw [hx, List.length_drop] at hroom
  have hst := h.hst
  have hd : (s.drop st).drop (x + old.length) = s.drop (st + x + old.length) := by rw [List.drop_drop]; congr 1; omega
  have ht : (s.drop st).take x = (s.take (st + x)).drop st := by rw [List.drop_take]; congr 1; omega
  refine ⟨x, hx, by omega, by omega, by omega, ?_, ?_, ?_⟩
  · have := Lib.count_hit (s := s.drop st) (sub := old) (i := x) (fun e => by rw [e] at h1; simp at h1) hx
    rw [hd] at this
    have := h.cnt
    omega
  · have h2 := h.eq
    rw [show k - i = (k - (i + 1)) + 1 by omega, Lib.replaceK_hit old new _ _ x hx, hd, ht] at h2
    rw [← h2]
    simp
  · have := h.len
    simp only [List.length_append, List.length_drop, List.length_take, Nat.add_mul]
    omega
end Go.Proofs.YteejemdibfbccaaGreatDoor

/-
  Closed facts of the program that every row asks.
-/
namespace Go.Proofs.YteejemdibfbccaaGreatDoor
open Go.ChangeShapes Go.WideShapes Go.ChangeAt Go.RowKit Go.AX
set_option maxRecDepth 100000
theorem own0 : ownKnob Tryz.prog.godebug = none := by kernel_rfl
theorem laidOut : laidOutB Tryz.prog = true := by kernel_rfl
theorem max_of {W : World} (h : W.ShapedOpen Tryz.prog) : MaxF W :=
  cell_of_shapedOpen_int (g := 2) (t := 3) (zero := #[.int .i64 0]) h (of_decide_eq_true (by kernel_rfl)) (by kernel_rfl) (by kernel_rfl) (by kernel_rfl) (by kernel_rfl) (by kernel_rfl)
theorem max_imm {W : World} (h : MaxF W) : Imm (fun b => b < W.heap.size) W MaxF := by
  refine ⟨h, fun w' hw => ?_⟩
  obtain ⟨m, hm⟩ := h
  exact ⟨m, cell?_keep hm (hw _ (cell?_lt hm))⟩
end Go.Proofs.YteejemdibfbccaaGreatDoor

/-
  AX, twenty-sixth text: maps with numbers as keys that the call makes, fills and asks.
-/
namespace Go.AX

end Go.AX

/-
  AX, twenty-eighth text: a struct of one's own at a known address: one cell is set (as the model's own functions without body set it).
-/
namespace Go.AX

theorem app1_arr {ρ : List Loc} {S : Nat → Prop} {w : World} {i : Nat} {T : TypeId} {m b : Nat} {xs : List Value} (h : EntOk ρ S w i (.app T m xs (some ⟨b, 0, none⟩) 1 1)) : (∃ fr, w.heap[b]? = some (.cells xs.toArray T fr) ∧ NoFr fr xs.length) ∧ xs.length = m := by
  rcases h with ⟨h0, _⟩ | ⟨b', hb', arr, fr, ⟨hb, hfr⟩, hxl, _, _, hasz, htk⟩
  · cases h0
  · cases hb'
    rw [Nat.one_mul] at hxl hasz htk
    have e : arr.toList = xs := by rw [← htk, List.take_of_length_le (by simp [hasz])]
    refine ⟨⟨fr, ?_, ?_⟩, hxl⟩
    · rw [hb, ← e]
    · rw [← e]; simpa using hfr
theorem Sat.setApp1 {ρ : List Loc} {S : Nat → Prop} {H : List Ent} {w : World} {i : Nat} {T : TypeId} {m b : Nat} {xs : List Value} (hs : Sat ρ S H w) (hi : H[i]? = some (.app T m xs (some ⟨b, 0, none⟩) 1 1)) (j : Nat) (v : Value) {w0 : World} (hh : w0.heap = w.heap) (ho : w0.os = w.os) (ht : w0.tape = w.tape) (hu : w0.output = w.output) :
    Sat ρ S (H.set i (.app T m (xs.set j v) (some ⟨b, 0, none⟩) 1 1)) (w0.setCell ⟨b, j, none⟩ v) ∧ Ev ρ S H w ρ S (H.set i (.app T m (xs.set j v) (some ⟨b, 0, none⟩) 1 1)) (w0.setCell ⟨b, j, none⟩ v) := by
  obtain ⟨⟨fr, hb, hfr⟩, hm⟩ := app1_arr (hs.ent i _ hi)
  have hbl : b < w.heap.size := (Array.getElem?_eq_some_iff.1 hb).1
  have hsame : (w0.setCell ⟨b, j, none⟩ v).heap[b]? = some (.cells (xs.toArray.setIfInBounds j v) T fr) := by
    simp [World.setCell, Array.getElem?_modify, hh, hb]
  refine hs.setG (e' := .app T m (xs.set j v) (some ⟨b, 0, none⟩) 1 1) (c := b) hi rfl (by simp [World.setCell, hh]) (fun k _ hne => by simp [World.setCell, Array.getElem?_modify, Ne.symm hne, hh]) ho ht hu (fun c hc => .inl (Option.some.inj hc).symm) (.inr ⟨b, rfl, _, fr, ⟨hsame, by simpa using hfr⟩, by simp [hm], Nat.le_refl _, by simp only [maxLen]; omega, by simp [hm], ?_⟩)
  simp only [Nat.one_mul]
  rw [List.take_of_length_le (by simp [hm])]
  simp
theorem app1_cell {ρ : List Loc} {S : Nat → Prop} {w : World} {i : Nat} {T : TypeId} {m b : Nat} {xs : List Value} (h : EntOk ρ S w i (.app T m xs (some ⟨b, 0, none⟩) 1 1)) {j : Nat} {v : Value} (hv : xs[j]? = some v) : w.cell? ⟨b, j, none⟩ = some v ∧ w.frozen? ⟨b, j, none⟩ = false := by
  obtain ⟨⟨fr, hb, hfr⟩, _⟩ := app1_arr h
  have hj := (List.getElem?_eq_some_iff.1 hv).1
  constructor
  · simp [World.cell?, hb, hv]
  · obtain ⟨lo, hi⟩ := fr
    simp only [World.frozen?, hb, Bool.and_eq_false_iff, decide_eq_false_iff_not]
    rcases hfr with h | h
    · cases h; right; omega
    · left; simp only at h; omega
/-- sync.Once.Do of a function by its contract, not yet done: cells 0 and 1 of the struct are the Once's word and its lock's state. -/
theorem SpecH.once {P : Program} {fd fb : FuncId} {p : Value} {H : List Ent} {K : Out → List Ent → Prop} (ok : CallOk P fd) (i : Nat) {T : TypeId} {m b : Nat} {xs : List Value} (hi : nthE H i = some (.app T m xs (some ⟨b, 0, none⟩) 1 1)) (hx0 : xs[0]? = some (.int .u32 0)) (hx1 : xs[1]? = some (.int .i32 0))
    (raw : ∀ (Q : World → Prop) (w : World), w.cell? ⟨b, 0, none⟩ = some (.int .u32 0) → w.cell? ⟨b, 1, none⟩ = some (.int .i32 0) → w.frozen? ⟨b, 1, none⟩ = false →
      Calls P fb #[p] (w.setCell ⟨b, 1, none⟩ (.int .i32 1)) (fun e w2 => e = .returned (.tuple #[]) ∧ Q w2) →
      (∀ w2, Q w2 → (∃ x, w2.cell? ⟨b, 0, none⟩ = some x) ∧ w2.cell? ⟨b, 1, none⟩ = some (.int .i32 1) ∧ w2.frozen? ⟨b, 0, none⟩ = false ∧ w2.frozen? ⟨b, 1, none⟩ = false) →
      Calls P fd #[.pointer (some ⟨b, 0, none⟩), .func (.func fb) #[p] #[]] w fun e w' => e = .returned (.tuple #[]) ∧ ∃ w2, Q w2 ∧ w' = (w2.drew.setCell ⟨b, 0, none⟩ (.int .u32 1)).setCell ⟨b, 1, none⟩ (.int .i32 0))
    (hb : SpecH P fb (pvs [p]) (H.set i (.app T m (xs.set 1 (.int .i32 1)) (some ⟨b, 0, none⟩) 1 1)) fun out H2 => out = .val (.c (.v (.tuple #[]))) ∧ ∃ m2 ys, H2[i]? = some (.app T m2 ys (some ⟨b, 0, none⟩) 1 1) ∧ (∃ x, ys[0]? = some x) ∧ ys[1]? = some (.int .i32 1) ∧
      K (.val (.c (.v (.tuple #[])))) (H2.set i (.app T m2 ((ys.set 0 (.int .u32 1)).set 1 (.int .i32 0)) (some ⟨b, 0, none⟩) 1 1))) :
    SpecH P fd (pvs [.pointer (some ⟨b, 0, none⟩), .func (.func fb) #[p] #[]]) H K := by
  rw [nthE_eq] at hi
  refine ⟨ok, fun ρ S w vs hs hr => ?_⟩
  obtain rfl := RelS_pvs hr
  obtain ⟨c0, _⟩ := app1_cell (hs.ent i _ hi) hx0
  obtain ⟨c1, z1⟩ := app1_cell (hs.ent i _ hi) hx1
  obtain ⟨hs1, hev1⟩ := hs.setApp1 hi 1 (.int .i32 1) (w0 := w) rfl rfl rfl rfl
  have hrun := hb.run ρ S _ [p] hs1 (pvs_rel ρ [p])
  refine (raw (fun w2 => ∃ ρ' S' H2, Sat ρ' S' H2 w2 ∧ Ev ρ S H w ρ' S' H2 w2 ∧ ∃ m2 ys, H2[i]? = some (.app T m2 ys (some ⟨b, 0, none⟩) 1 1) ∧ (∃ x, ys[0]? = some x) ∧ ys[1]? = some (.int .i32 1) ∧
      K (.val (.c (.v (.tuple #[])))) (H2.set i (.app T m2 ((ys.set 0 (.int .u32 1)).set 1 (.int .i32 0)) (some ⟨b, 0, none⟩) 1 1))) w c0 c1 z1 ?_ ?_).mono ?_
  · refine hrun.mono fun e w2 ⟨ρ', S', H2, out, hs2, hev2, hout, hx, hrest⟩ => ?_
    subst hx
    obtain ⟨v, rfl, hv⟩ := hout
    have : v = .tuple #[] := hv
    subst this
    exact ⟨rfl, ρ', S', H2, hs2, hev1.trans hev2, hrest⟩
  · rintro w2 ⟨ρ', S', H2, hs2, _, m2, ys, h2, ⟨x, hy0⟩, hy1, _⟩
    obtain ⟨d0, y0⟩ := app1_cell (hs2.ent i _ h2) hy0
    obtain ⟨d1, y1⟩ := app1_cell (hs2.ent i _ h2) hy1
    exact ⟨⟨x, d0⟩, d1, y0, y1⟩
  · rintro e w' ⟨rfl, w2, ⟨ρ', S', H2, hs2, hev2, m2, ys, h2, _, _, hK⟩, rfl⟩
    obtain ⟨hs3, hev3⟩ := hs2.setApp1 h2 0 (.int .u32 1) (w0 := w2.drew) rfl rfl rfl rfl
    have h3 : (H2.set i (.app T m2 (ys.set 0 (.int .u32 1)) (some ⟨b, 0, none⟩) 1 1))[i]? = some (.app T m2 (ys.set 0 (.int .u32 1)) (some ⟨b, 0, none⟩) 1 1) := by
      rw [List.getElem?_set_self (List.getElem?_eq_some_iff.1 h2).1]
    obtain ⟨hs4, hev4⟩ := hs3.setApp1 h3 1 (.int .i32 0) (w0 := w2.drew.setCell ⟨b, 0, none⟩ (.int .u32 1)) rfl rfl rfl rfl
    rw [List.set_set] at hs4 hev4
    exact ⟨ρ', S', _, .val (.c (.v (.tuple #[]))), hs4, (hev2.trans hev3).trans hev4, ⟨.tuple #[], rfl, rfl⟩, hK⟩
end Go.AX

/-
  AX, twenty-ninth text: the rest of a slice.
-/
namespace Go.AX
theorem ReadW.slc_l {P : Program} {o : Oper} {s : List AV} {H : List Ent} {K : AV → Prop} {t e : TypeId} {x y : Operand} {b n cap : Nat} {k : IntKind} {i : Int} (j : Nat) (ho : o.op = .slice t x (some y) none none) (hu : P.underlying t = some (.slice e)) (he : byteB P e = true)
    (hx : opv s x = .c (.v (.slice (some ⟨b, 0, none⟩) n cap))) (hy : opv s y = .c (.v (.int k i))) (hj : i = (j : Int) ∧ j ≤ n ∧ n ≤ cap ∧ j < cap) (h : K (.c (.v (.slice (some ⟨b, j, none⟩) (n - j) (cap - j))))) : ReadW P o s H K := by
  obtain ⟨inf, hi, _, h1, _⟩ := byteB_spec he
  obtain ⟨rfl, hjn, hnc, hjc⟩ := hj
  refine ReadW.val _ (fun cs b => by rw [ho]; simp) (by rw [ho]; simp [Op.operands, allPlain, hx, hy]) (fun w _ => ?_) h
  have e1 := plainEv_v hx
  have e2 := plainEv_v hy
  have : (Instr.sliceAt t (.slice (some ⟨b, 0, none⟩) n cap) (some (.int k (j : Int))) none none).run P w = .ok (.slice (some ⟨b, j, none⟩) (n - j) (cap - j)) w := by
    simp [Instr.sliceAt, Instr.slice, run_underlying hu, Instr.sliceBounds, Instr.sliceBound, asIntOf, hjn, sizeOf, typeInfo, hi, h1, add_lit0]
    omega
  refine run_op_slice ho ?_
  rw [e1]
  simpa [e2] using this
theorem setCells_heap (b : Nat) (T : TypeId) (fr : Nat × Nat) : ∀ (ys : List Value) (q : Nat) (w : World) (arr : Array Value), w.heap[b]? = some (.cells arr T fr) → q + ys.length ≤ arr.size →
    (w.setCells b q ys).heap[b]? = some (.cells (arr.toList.take q ++ ys ++ arr.toList.drop (q + ys.length)).toArray T fr)
  | [], q, w, arr, h, _ => by simp [World.setCells, h]
  | v :: r, q, w, arr, h, hl => by
    simp only [List.length_cons] at hl
    rw [World.setCells, setCells_heap b T fr r (q + 1) (w.setCell ⟨b, q, none⟩ v) (arr.setIfInBounds q v) (by simp [World.setCell, Array.getElem?_modify, h]) (by simp; omega)]
    congr 3
    rw [Array.toList_setIfInBounds, List.drop_set_of_lt (by omega), List.take_set, List.length_cons, show q + 1 + r.length = q + (r.length + 1) by omega]
    have e : (arr.toList.take (q + 1)).set q v = arr.toList.take q ++ [v] := by
      rw [List.take_succ_eq_append_getElem (by simp; omega), List.set_append_right _ _ (by simp; omega)]
      simp [show min q arr.size = q by omega]
    rw [e]; simp
theorem setCells_rest (b : Nat) : ∀ (ys : List Value) (q : Nat) (w : World), (w.setCells b q ys).heap.size = w.heap.size ∧ (∀ k, k ≠ b → (w.setCells b q ys).heap[k]? = w.heap[k]?) ∧ (w.setCells b q ys).os = w.os ∧ (w.setCells b q ys).tape = w.tape ∧ (w.setCells b q ys).output = w.output
  | [], _, _ => ⟨rfl, fun _ _ => rfl, rfl, rfl, rfl⟩
  | v :: r, q, w => by
    obtain ⟨h1, h2, h3, h4, h5⟩ := setCells_rest b r (q + 1) (w.setCell ⟨b, q, none⟩ v)
    rw [World.setCells]
    exact ⟨h1.trans (by simp [World.setCell]), fun k hk => (h2 k hk).trans (by simp [World.setCell, Array.getElem?_modify, Ne.symm hk]), h3, h4, h5⟩
/-- copy of cells that are read into a part of an own row of bytes. -/
theorem EffW.copyIn {P : Program} {o : Oper} {s : List AV} {H : List Ent} {K : AV → List Ent → Prop} {args : Array Operand} {ts : Array TypeId} {T U e : TypeId} {x y : Operand} {b q dl dc n cap sl sc : Nat} {a : Addr} {xs ys : List Value} (i : Nat) (ho : o.op = .call { callee := .builtin .copy, args := args, argTypes := ts }) (ha : args.toList = [x, y]) (ht : ts.toList = [T, U])
    (hT : P.underlying T = some (.slice e)) (he : byteB P e = true) (hx : opv s x = .c (.v (.slice (some ⟨b, q, none⟩) dl dc))) (hy : opv s y = .c (.v (.slice (some a) sl sc))) (hi : nthE H i = some (.app e 1 xs (some ⟨b, 0, none⟩) n cap))
    (hF : ∀ w, Facts H w → SlAt (some a) sl ys w) (hone : ∀ v ∈ ys, v.oneCell' = true) (hle : sl ≤ dl) (hq : q + sl ≤ n)
    (next : setEK H i (.app e 1 (xs.take q ++ ys ++ xs.drop (q + sl)) (some ⟨b, 0, none⟩) n cap) fun H' => K (.c (.v (.int .i64 (sl : Int)))) H') : EffW P o s H K := by
  obtain ⟨inf, hinf, _, h1, _⟩ := byteB_spec he
  rw [nthE_eq] at hi
  obtain ⟨_, hk⟩ := setEK_spec next
  intro ρ S w ac hs hr
  have e1 : args = #[x, y] := by rw [← Array.toArray_toList (xs := args), ha]
  have e2 : ts = #[T, U] := by rw [← Array.toArray_toList (xs := ts), ht]
  subst e1; subst e2
  have hxr := opv_rel hr x
  have hyr := opv_rel hr y
  rw [hx] at hxr; rw [hy] at hyr
  have hxe : ac.eval x = .slice (some ⟨b, q, none⟩) dl dc := hxr
  have hye : ac.eval y = .slice (some a) sl sc := hyr
  obtain ⟨hyl, _, hyc⟩ := hF w hs.facts
  rcases hs.ent i _ hi with ⟨h0, _⟩ | ⟨b', hb', arr, fr, ⟨hb, hfr⟩, hxl, hnc, hcm, hasz, htk⟩
  · cases h0
  cases hb'
  rw [Nat.mul_one] at hxl hasz htk
  have hrun := run_copy_cells (P := P) w T U o.type e b q dl dc a sl sc ys hT (by simp [hinf, h1]) (by rw [hyl]; exact (Nat.min_eq_left hle).symm)
    (fun j v hv => by
      have hj : j < sl := by rw [← hyl]; exact (List.getElem?_eq_some_iff.1 hv).1
      exact (hyc j hj).trans hv)
    (fun j hj => by
      have : q + j < arr.size := by omega
      simp [World.cell?, hb, this])
    (fun j hj => by
      obtain ⟨lo, hi'⟩ := fr
      simp only [World.frozen?, hb, Bool.and_eq_false_iff, decide_eq_false_iff_not]
      rcases hfr with h | h
      · cases h; right; omega
      · left; simp only at h; omega) hone
  obtain ⟨r1, r2, r3, r4, r5⟩ := setCells_rest b ys q w
  have hheap := setCells_heap b e fr ys q w arr hb (by omega)
  rw [hyl] at hrun hheap
  have hrow : RowF e 1 n (xs.take q ++ ys ++ xs.drop (q + sl)) b cap (w.setCells b q ys) := by
    refine ⟨_, fr, ⟨hheap, by have e0 : (arr.toList.take q ++ ys ++ arr.toList.drop (q + sl)).toArray.size = arr.size := (by simp; omega); rw [e0]; exact hfr⟩, by simp; omega, hnc, hcm, by simp; omega, ?_⟩
    rw [Nat.mul_one, ← htk]
    apply List.ext_getElem?
    intro j
    simp only [List.getElem?_take, List.getElem?_append, List.getElem?_drop, List.length_append, List.length_take, Array.length_toList]
    by_cases j1 : j < q
    · simp [show min q arr.size = q by omega, show min q (min n arr.size) = q by omega, j1, show j < q + ys.length by omega, show j < n by omega]
    · by_cases j2 : j < q + ys.length
      · simp [show min q arr.size = q by omega, show min q (min n arr.size) = q by omega, j1, j2, show j < n by omega]
      · simp only [show min q arr.size = q by omega, show min q (min n arr.size) = q by omega, j1, j2, if_false]
        by_cases j3 : j < n
        · simp [j3, show q + sl + (j - (q + ys.length)) = j by omega]
        · simp [j3]; omega
  have hS := hs.setG (e' := .app e 1 (xs.take q ++ ys ++ xs.drop (q + sl)) (some ⟨b, 0, none⟩) n cap) hi rfl (Nat.le_of_eq r1.symm) (fun k _ hne => r2 k hne) r3 r4 r5 (fun c hc => .inl (Option.some.inj hc).symm) (.inr ⟨b, rfl, hrow⟩)
  refine ⟨_, _, hk, .value (goInt (sl : Int)), _, ρ, _, ?_, .inl rfl, hS.1, hS.2, rfl⟩
  unfold execOp
  simp only [ho, resolve, invoke, builtin, Sem.run_bind, Sem.run_pure, Result.andThen_ok, List.map_toArray, List.map_cons, List.map_nil, hxe, hye, hrun]
end Go.AX

/-
  AX, twenty-fifth text: rows of bytes that are made.
-/
namespace Go.AX

theorem made_bytes (n : Nat) : (madeCells #[Value.int .u8 0] n).toList = List.replicate n (.int .u8 0) := by
  apply List.ext_getElem?
  intro i
  rw [madeCells, Array.toList_map, List.getElem?_map, Array.toList_range]
  by_cases h : i < n
  · rw [List.getElem?_range h, List.getElem?_replicate, if_pos h]
    simp [Nat.mod_one]
  · rw [List.getElem?_eq_none (by simpa using h), List.getElem?_eq_none (by simpa using h)]
    rfl
/-- make([]byte, n) -/
theorem EffW.mkBytes {P : Program} {o : Oper} {s : List AV} {H : List Ent} {K : AV → List Ent → Prop} {t e : TypeId} {x y : Operand} (n : Nat) (ho : o.op = .makeSlice t x y) (ht : P.underlying t = some (.slice e)) (he : byteB P e = true)
    (hx : opv s x = .c (.v (.int .i64 (n : Int)))) (hy : opv s y = .c (.v (.int .i64 (n : Int)))) (hn : n ≤ 16000000)
    (next : ∀ b, K (.c (.v (.slice (some ⟨b, 0, none⟩) n n))) (H ++ [.app e 1 (List.replicate n (.int .u8 0)) (some ⟨b, 0, none⟩) n n])) : EffW P o s H K := by
  obtain ⟨inf, hi, hz, h1, h2⟩ := byteB_spec he
  intro ρ S w a hs hr
  have hxr := opv_rel hr x
  have hyr := opv_rel hr y
  rw [hx] at hxr; rw [hy] at hyr
  have hxe : a.eval x = .int .i64 (n : Int) := hxr
  have hye : a.eval y = .int .i64 (n : Int) := hyr
  have hrun := run_makeSlice (P := P) (w := w) t e inf (.int .u8 0) ht hi hz .i64 .i64 (n : Int) (n : Int) (by omega) (Int.le_refl _) (by rw [h1]; omega) (by rw [h2]; omega) (by omega)
  simp only [Int.toNat_natCast, h1, Nat.mul_one] at hrun
  have hrow : RowF e 1 n (List.replicate n (.int .u8 0)) w.heap.size n (w.alloc (.cells (madeCells #[Value.int .u8 0] n) e)) :=
    ⟨_, (0, 0), ⟨heap_alloc_new w _, .inl rfl⟩, by simp, Nat.le_refl _, by simp only [maxLen]; omega, by rw [size_madeCells, Nat.mul_one], by rw [made_bytes, Nat.mul_one, List.take_of_length_le (by simp)]⟩
  have hS := hs.newApp (w' := w.alloc (.cells (madeCells #[Value.int .u8 0] n) e)) rfl rfl rfl rfl hrow
  refine ⟨_, _, next w.heap.size, _, _, _, _, ?_, .inl rfl, hS.1, hS.2, rfl⟩
  unfold execOp
  simp only [ho, hxe, hye, Sem.run_bind, Sem.run_pure, hrun, Result.andThen_ok]
  rfl
end Go.AX

/-
  AX, thirtieth text: bytes of a string; own entries that nobody writes any more become facts.
-/
namespace Go.AX

theorem EffW.appTo {P : Program} {o : Oper} {s : List AV} {H : List Ent} {K : AV → List Ent → Prop} {Ty T : TypeId} {x y : Operand} {sz n cap b q i : Nat} {xs ys : List Value} {inf : TypeInfo} (zs : List Value) (sz' : Nat) (ho : o.op = .store Ty x y)
    (hx : opv s x = .c (.v (.pointer (some ⟨b, q, none⟩)))) (hi : nthE H i = some (.app T sz xs (some ⟨b, 0, none⟩) n cap)) (hy : avCells (opv s y) = some (vs ys)) (hone : oneCs (vs ys) = true) (hinf : P.info? Ty = some inf) (hlen : ys.length = inf.size)
    (hq : q + ys.length ≤ n * sz) (hz : xs.take q ++ ys ++ xs.drop (q + ys.length) = zs) (hs : sz = sz') (hk : setEK H i (.app T sz' zs (some ⟨b, 0, none⟩) n cap) fun H' => K (.c .any) H') : EffW P o s H K := by
  subst hz; subst hs
  exact EffW.app ho hx hi hy hone hinf hlen hq hk
theorem put_set {xs : List Value} {q : Nat} (v : Value) (h : q < xs.length) : xs.take q ++ [v] ++ xs.drop (q + [v].length) = xs.set q v := by
  rw [List.set_eq_take_append_cons_drop, if_pos h]
  simp
/-- The arguments in another spelling. -/
theorem SpecH.args {P : Program} {f : FuncId} {args args' : List AV} {H : List Ent} {K : Out → List Ent → Prop} (e : args = args') (h : SpecH P f args' H K) : SpecH P f args H K := e ▸ h
theorem plains_vs : ∀ xs : List Value, plains (vs xs) = some xs
  | [] => rfl
  | _ :: xs => by simp [vs, plains, plains_vs xs]
/-- string(b) of bytes of the call's own. -/
theorem ReadW.bytesOwn {P : Program} {o : Oper} {s : List AV} {H : List Ent} {K : AV → Prop} {src dst e : TypeId} {x : Operand} {i n : Nat} (l : List UInt8) (hn : l.length = n) (ho : o.op = .convert src dst x) (hs : P.underlying src = some (.slice e))
    (he : P.underlying e = some (.int .u8)) (hd : P.underlying dst = some .string) (hx : opv s x = .c (.sl i n)) (hi : nthE H i = some (.row e 1 n (vs (u8s l)))) (hk : K (.c (.v (.string (bs l))))) : ReadW P o s H K := by
  subst hn
  rw [nthE_eq] at hi
  refine ⟨.c (.v (.string (bs l))), hk, fun ρ S w ac hsat hr => ⟨.string (bs l), ?_, rfl⟩⟩
  obtain ⟨l', arr, hl, hb, h1, h2, h3, h4, hrel⟩ := hsat.ent i _ hi
  have hxr := opv_rel hr x
  rw [hx] at hxr
  obtain ⟨l2, hl2, hxe⟩ := hxr
  obtain rfl := Option.some.inj (hl2.symm.trans hl)
  have hrun := run_convert_bytes_back w src dst e ⟨l2.b, 0, none⟩ l2.cap l hs he hd (fun j hj => by
    have e0 := vs_only hrel
    rw [add_lit0, cell_of_row w l2.b j arr e (0, 0) hb]
    have : (arr.toList.take (l.length * 1))[j]? = (u8s l)[j]? := by rw [e0]
    rw [List.getElem?_take, if_pos (by omega)] at this
    rw [← Array.getElem?_toList, this]
    simp [u8s, hj])
  unfold execOp
  simp only [ho, hxe, Sem.run_bind, hrun, Result.andThen_ok, Sem.run_pure]
  rfl
/-- make([]T, 0, n) -/
theorem EffW.mkEmpty {P : Program} {o : Oper} {s : List AV} {H : List Ent} {K : AV → List Ent → Prop} {t e : TypeId} {x y : Operand} {inf : TypeInfo} {z : Value} (n : Nat) (ho : o.op = .makeSlice t x y) (ht : P.underlying t = some (.slice e)) (hi : P.info? e = some inf) (hz : inf.zero = some z)
    (hx : opv s x = .c (.v (.int .i64 0))) (hy : opv s y = .c (.v (.int .i64 (n : Int)))) (hn : n ≤ 1000000 ∧ inf.size ≤ 16 ∧ inf.bytes ≤ 1000)
    (next : ∀ b, K (.c (.v (.slice (some ⟨b, 0, none⟩) 0 n))) (H ++ [.app e inf.size [] (some ⟨b, 0, none⟩) 0 n])) : EffW P o s H K := by
  intro ρ S w a hs hr
  have hxr := opv_rel hr x
  have hyr := opv_rel hr y
  rw [hx] at hxr; rw [hy] at hyr
  have hxe : a.eval x = .int .i64 0 := hxr
  have hye : a.eval y = .int .i64 (n : Int) := hyr
  have hm1 : n * inf.size ≤ n * 16 := Nat.mul_le_mul_left _ hn.2.1
  have hm2 : inf.bytes * n ≤ 1000 * n := Nat.mul_le_mul_right _ hn.2.2
  have hrun := run_makeSlice (P := P) (w := w) t e inf z ht hi hz .i64 .i64 0 (n : Int) (Int.le_refl _) (by omega) (by rw [Int.toNat_natCast]; omega) (by rw [← Int.natCast_mul]; omega) (by omega)
  simp only [Int.toNat_natCast] at hrun
  have hrow : RowF e inf.size 0 [] w.heap.size n (w.alloc (.cells (madeCells z.cells (n * inf.size)) e)) :=
    ⟨_, (0, 0), ⟨heap_alloc_new w _, .inl rfl⟩, by simp, Nat.zero_le _, by simp only [maxLen]; omega, by rw [size_madeCells], by simp⟩
  have hS := hs.newApp (w' := w.alloc (.cells (madeCells z.cells (n * inf.size)) e)) rfl rfl rfl rfl hrow
  refine ⟨_, _, next w.heap.size, _, _, _, _, ?_, .inl rfl, hS.1, hS.2, rfl⟩
  unfold execOp
  simp only [ho, hxe, hye, Sem.run_bind, Sem.run_pure, hrun, Result.andThen_ok]
  rfl
/-- []byte(s) -/
theorem EffW.bytesOf {P : Program} {o : Oper} {s : List AV} {H : List Ent} {K : AV → List Ent → Prop} {src dst e : TypeId} {x : Operand} (l : List UInt8) (ho : o.op = .convert src dst x) (hs : P.underlying src = some .string) (hd : P.underlying dst = some (.slice e)) (he : P.underlying e = some (.int .u8))
    (hx : opv s x = .c (.v (.string (bs l)))) (hl : l.length ≤ 140737488355328) (next : ∀ b cap : Nat, l.length ≤ cap → cap ≤ maxLen → K (.c (.v (.slice (some ⟨b, 0, none⟩) l.length cap))) (H ++ [.app e 1 (u8s l) (some ⟨b, 0, none⟩) l.length cap])) : EffW P o s H K := by
  intro ρ S w ac hsat hr
  have hxr := opv_rel hr x
  rw [hx] at hxr
  have hxe : ac.eval x = .string (bs l) := hxr
  have hrun := run_bytes_of_string (P := P) w src dst e (bs l) hs hd he
  rw [bs_size] at hrun
  have hge := grownCap_ge w l.length 0 e
  have hgm := grownCap_le_maxLen w l.length 0 e (by simp only [maxLen]; omega)
  generalize grownCap w l.length 0 e = cap at hrun hge hgm
  have hsz : (bytesRow (bs l) cap).size = cap := by
    have e1 : (bs l).data.size = l.length := by simp [bs]
    simp only [bytesRow, Array.size_append, Array.size_map, Array.size_replicate, bs_size, e1]
    omega
  have hrow : RowF e 1 l.length (u8s l) w.heap.size cap (w.drew.alloc (.cells (bytesRow (bs l) cap) e ((bytesRow (bs l) cap).size, (bytesRow (bs l) cap).size + 1))) := by
    refine ⟨_, _, ⟨heap_alloc_new w.drew _, .inr (Nat.le_refl _)⟩, by simp [u8s_len], hge, hgm, by rw [hsz, Nat.mul_one], ?_⟩
    rw [Nat.mul_one]
    unfold bytesRow
    rw [Array.toList_append, List.take_append_of_le_length (by simp [bs]), List.take_of_length_le (by simp [bs])]
    simp [bs, u8s]
  have hS := hsat.newApp (w' := w.drew.alloc (.cells (bytesRow (bs l) cap) e ((bytesRow (bs l) cap).size, (bytesRow (bs l) cap).size + 1))) rfl rfl rfl rfl hrow
  refine ⟨_, _, next w.heap.size cap hge hgm, _, _, _, _, ?_, .inl rfl, hS.1, hS.2, rfl⟩
  unfold execOp
  simp only [ho, hxe, Sem.run_bind, hrun, Result.andThen_ok, Sem.run_pure]

/-- Own entries that nobody writes any more: what they say becomes facts. -/
theorem Sat.seal {ρ : List Loc} {S : Nat → Prop} {H : List Ent} {w : World} (h : Sat ρ S H w) {G : List Ent} (hl : G.length ≤ H.length) (hG : ∀ e ∈ G, e = .dead ∨ ∃ Γ, e = .fact Γ ∧ ∀ w, Facts H w → Γ w) :
    Sat (ρ.take G.length) (fun b => S b ∨ appB H b) G w ∧ ∀ ρ' b, ¬ mb ρ' G b := by
  have hno : ∀ (ρ' : List Loc) (i : Nat) (e : Ent), G[i]? = some e → entB ρ' i e = none := fun ρ' i e he => by
    rcases hG e (List.mem_of_getElem? he) with rfl | ⟨Γ, rfl, _⟩ <;> rfl
  have hmb : ∀ ρ' b, ¬ mb ρ' G b := fun ρ' b ⟨i, e, he, hb⟩ => by rw [hno ρ' i e he] at hb; cases hb
  refine ⟨⟨by rw [List.length_take, h.len]; omega, fun i e he => ?_, fun i j e f b he _ hb _ => ?_, fun b hb => absurd hb (hmb _ b), fun b hb => ?_⟩, hmb⟩
  · rcases hG e (List.mem_of_getElem? he) with rfl | ⟨Γ, rfl, hΓ⟩
    · trivial
    · exact h.imm.mono hΓ
  · rw [hno _ i e he] at hb; cases hb
  · rcases hb with hb | hb
    · exact h.low b hb
    · obtain ⟨i, e, he, heb⟩ := appB_mb (ρ := ρ) hb
      exact h.blk_lt he heb
theorem SpecH.seal {P : Program} {f : FuncId} {args : List AV} {H : List Ent} {ι : Type} {inv : ι → Prop} {val : ι → Value} {G : ι → List Ent} (hl : ∀ i, inv i → H.length ≤ (G i).length)
    (h : SpecH P f args H fun out H' => ∃ i, inv i ∧ out = .val (.c (.v (val i))) ∧ (G i).length ≤ H'.length ∧ ∀ e ∈ G i, e = .dead ∨ ∃ Γ, e = .fact Γ ∧ ∀ w, Facts H' w → Γ w) : SpecH P f args H (RetG inv val G) := by
  refine ⟨h.ok, fun ρ S w vs hs hr => (h.run ρ S w vs hs hr).mono fun e w' ⟨ρ', S', H', out, hs', hev, hout, i, hi, hx, hln, hG⟩ => ?_⟩
  subst hx
  obtain ⟨h1, h2⟩ := hs'.seal hln hG
  refine ⟨ρ'.take (G i).length, _, G i, .val (.c (.v (val i))), h1, ⟨?_, hev.os, hev.tape, hev.output, hev.size, hev.keep, fun b hb => ?_, fun b hb => absurd hb (h2 _ b)⟩, hout, i, hi, rfl, rfl⟩
  · obtain ⟨t, ht⟩ := hev.pre
    refine ⟨t.take ((G i).length - ρ.length), ?_⟩
    rw [ht, List.take_append, List.take_of_length_le (by rw [hs.len]; exact hl i hi)]
  · rcases hb with hb | hb
    · exact hev.imm b hb
    · rcases hev.own b (appB_mb (ρ := ρ') hb) with h3 | h3
      · exact .inr (.inl h3)
      · exact .inr (.inr h3)
end Go.AX

/-
  AX, thirty-first text: a key that a map does not have.
-/
namespace Go.AX
/-! ### Parts of strings, where memory is not looked at -/
theorem BlindW.val {P : Program} {o : Oper} {s : List AV} {K : AV → Prop} (x : Value) (hp : allPlain s o.op.operands.toList = true) (hrun : ∀ w, (execOp (plainEv s) o).run P w = .ok (.value x) w) (h : K (.c (.v x))) : ∃ x, BlindW P o s K x := ⟨x, hp, hrun, h⟩
/-- s[i:] -/
theorem BlindW.sl_l {P : Program} {o : Oper} {s : List AV} {K : AV → Prop} {t : TypeId} {x y : Operand} {b : List UInt8} {k : IntKind} {i : Int} (n : Nat) (ho : o.op = .slice t x (some y) none none) (hu : P.underlying t = some .string) (hx : opv s x = .c (.v (.string (bs b)))) (hy : opv s y = .c (.v (.int k i)))
    (h : i = (n : Int) ∧ n ≤ b.length) (hk : K (.c (.v (.string (bs (b.drop n)))))) : ∃ x, BlindW P o s K x :=
  BlindW.val (.string (bs (b.drop n))) (by rw [ho]; show allPlain s [x, y] = true; simp [allPlain, hx, hy])
    (fun w => run_op_slice ho (by
      simp only [Option.map, plainEv_v hx, plainEv_v hy]
      rw [run_sliceAt_string w t _ _ _ _ hu, run_slice_string_l w t (bs b) hu k i (by omega) (by rw [bs_size]; omega), bs_size, show i.toNat = n by omega, bs_drop])) hk
/-- s[1:] -/
theorem BlindW.tl {P : Program} {o : Oper} {s : List AV} {K : AV → Prop} {t : TypeId} {x y : Operand} {c : UInt8} {r : List UInt8} {k : IntKind} (ho : o.op = .slice t x (some y) none none) (hu : P.underlying t = some .string) (hx : opv s x = .c (.v (.string (bs (c :: r))))) (hy : opv s y = .c (.v (.int k 1)))
    (hk : K (.c (.v (.string (bs r))))) : ∃ x, BlindW P o s K x := BlindW.sl_l 1 ho hu hx hy ⟨rfl, by simp⟩ hk
theorem ReadW.tl {P : Program} {o : Oper} {s : List AV} {H : List Ent} {K : AV → Prop} {t : TypeId} {x y : Operand} {c : UInt8} {r : List UInt8} {k : IntKind} (ho : o.op = .slice t x (some y) none none) (hu : P.underlying t = some .string) (hx : opv s x = .c (.v (.string (bs (c :: r))))) (hy : opv s y = .c (.v (.int k 1)))
    (hk : K (.c (.v (.string (bs r))))) : ReadW P o s H K := ReadW.sl_l 1 ho hu hx hy ⟨rfl, by simp⟩ hk
end Go.AX

/-
  AX, thirty-second text: append(l, make([]byte, n)...): so many zeros onto a slice of bytes that grows.
-/
namespace Go.AX

end Go.AX

/-
  AX, thirty-third text: readings that are the same in all worlds of a kind.
-/
namespace Go.AX

theorem ReadC.load {P : Program} {C : World → Prop} {o : Oper} {s : List AV} {K : AV → Prop} {T : TypeId} {x : Operand} {p : Addr} (v : Value) (ho : o.op = .load T x) (hx : opv s x = .c (.v (.pointer (some p)))) (hF : ∀ w, C w → (loadVar T p).run P w = .ok v w) (hk : K (.c (.v v))) : ∃ x, ReadC P C o s K x :=
  ⟨v, fun cs b e => (by rw [ho] at e; cases e), by rw [ho]; show allPlain s [x] = true; simp [allPlain, hx], fun w hw => by
    have hx2 : plainEv s x = .pointer (some p) := by unfold plainEv; rw [hx]
    unfold execOp
    simp [ho, hx2, Instr.loadAt, Instr.sureAddr, hF w hw], hk⟩
/-- A load of one cell. -/
theorem ReadC.one {P : Program} {C : World → Prop} {o : Oper} {s : List AV} {K : AV → Prop} {T : TypeId} {x : Operand} {a : Option Addr} {q k : Nat} {xs : List Value} (v : Value) (ho : o.op = .load T x) (hx : opv s x = .c (.v (.pointer (some (elemAddr a q))))) (hT : shapeT P T = some none)
    (hF : ∀ w, C w → SlAt a k xs w) (hv : xs[q]? = some v) (hk : K (.c (.v v))) : ∃ x, ReadC P C o s K x :=
  ReadC.load v ho hx (fun w hw => loadVar_cell hT ((hF w hw).cell hv)) hk
/-- A load of a struct. -/
theorem ReadC.agg {P : Program} {C : World → Prop} {o : Oper} {s : List AV} {K : AV → Prop} {T : TypeId} {x : Operand} {a : Option Addr} {q n k : Nat} {xs : List Value} (ys : List Value) (ho : o.op = .load T x) (hx : opv s x = .c (.v (.pointer (some (elemAddr a q))))) (hT : shapeT P T = some (some n))
    (hF : ∀ w, C w → SlAt a k xs w) (hl : ys.length = n) (hv : ∀ j, j < n → xs[q + j]? = ys[j]?) (hk : K (.c (.v (.agg ys.toArray)))) : ∃ x, ReadC P C o s K x :=
  ReadC.load (.agg ys.toArray) ho hx (fun w hw => loadVar_cells hT hl fun j v hj => by
    have hjn : j < n := by rw [← hl]; exact (List.getElem?_eq_some_iff.1 hj).1
    rw [elemAddr, Addr.add_add]
    exact (hF w hw).cell ((hv j hjn).trans hj)) hk
theorem ReadC.nil {P : Program} {C : World → Prop} {o : Oper} {s : List AV} {K : AV → Prop} {x : Operand} {p : Addr} (ho : o.op = .nilCheck x) (hx : opv s x = .c (.v (.pointer (some p)))) (hk : K (.c (.v (.pointer (some p))))) : ∃ x, ReadC P C o s K x :=
  ⟨.pointer (some p), fun cs b e => (by rw [ho] at e; cases e), by rw [ho]; show allPlain s [x] = true; simp [allPlain, hx], fun w _ => by
    have hx2 : plainEv s x = .pointer (some p) := by unfold plainEv; rw [hx]
    unfold execOp
    simp [ho, hx2], hk⟩
end Go.AX

/-
  AX, thirty-fifth text: an executor whose arms may come together again.
-/
namespace Go.AX

end Go.AX

/-
  AX, thirty-sixth text: a function that defers one closure, which is quiet where nothing panics.
-/
namespace Go.AX
open Go.RowKit

/-- The end of a function behind its defer: no panic. -/
def endD (P : Program) (rs : List ResultVar) (K : Out → List Ent → Prop) (e : Ex) (s : List AV) (H : List Ent) : Prop :=
  match e with
  | .normal => resK P rs s H fun out => K out H
  | .ret => resK P rs s H fun out => K out H
  | .exit _ => False
  | .pan _ => False
/-- What a call's end must satisfy. -/
def EndF (ρ : List Loc) (S : Nat → Prop) (H : List Ent) (w : World) (K : Out → List Ent → Prop) (e : Ending) (w' : World) : Prop :=
  ∃ ρ' S' H' out, Sat ρ' S' H' w' ∧ Ev ρ S H w ρ' S' H' w' ∧ OutOk ρ' out e ∧ K out H'
theorem early_end {P : Program} {fn : Func} {ρ : List Loc} {S : Nat → Prop} {H : List Ent} {w : World} {K : Out → List Ent → Prop} {e : Exit} {a : Act} {w' : World}
    (h : Post ρ S H w [] (endK P fn.results.toList K) e a w') : bodyPostD P fn (EndF ρ S H w K) e a w' := by
  obtain ⟨ρ1, S1, s1, H1, ex, hs1, hev, hr1, hd, hex, hK⟩ := h
  have fin : RelS ρ1 s1 a.tmps.toList → resK P fn.results.toList s1 H1 (fun out => K out H1) → Leaves P fn a.tmps (EndF ρ S H w K) a.defers .returning w' := fun hr2 hK1 => by
    obtain ⟨out, hK3, hres⟩ := resK_sound hK1
    obtain ⟨v, hrun, hv⟩ := hres ρ1 S1 w' a.tmps hs1 hr2
    rw [hd]
    exact ⟨v, hrun, ρ1, S1, H1, out, hs1, hev, hv, hK3⟩
  cases ex with
  | normal =>
    cases e <;> first | exact hex.elim | skip
    exact fin hr1 hK
  | ret =>
    cases e <;> first | exact hex.elim | skip
    exact fin hr1 hK
  | exit n => exact hK.elim
  | pan ch =>
    cases e <;> first | exact hex.elim | skip
    have : ch = _ := hex
    subst this
    show Leaves P fn a.tmps _ a.defers _ w'
    rw [hd]
    exact ⟨ρ1, S1, H1, .pan ch, hs1, hev, rfl, hK⟩
theorem late_end {P : Program} {fn : Func} {ρ : List Loc} {S : Nat → Prop} {H : List Ent} {w : World} {K : Out → List Ent → Prop} {g : FuncId} {cap : Array Value}
    (hI : ∀ w, (invoke (.fn (.func g) cap) #[]).run P w = .ok (.enter g cap) w)
    (hq : ∀ w, CallsD P g cap .returning w fun e u' w' => (∃ v, e = .returned v) ∧ u' = .returning ∧ Below w.heap.size w w') {e : Exit} {a : Act} {w' : World}
    (h : Post ρ S H w [⟨.fn (.func g) cap, #[]⟩] (endD P fn.results.toList K) e a w') : bodyPostD P fn (EndF ρ S H w K) e a w' := by
  obtain ⟨ρ1, S1, s1, H1, ex, hs1, hev, hr1, hd, hex, hK⟩ := h
  have fin : RelS ρ1 s1 a.tmps.toList → resK P fn.results.toList s1 H1 (fun out => K out H1) → Leaves P fn a.tmps (EndF ρ S H w K) a.defers .returning w' := fun hr2 hK1 => by
    obtain ⟨out, hK3, hres⟩ := resK_sound hK1
    rw [hd]
    refine leaves_cons (by simp) (hI w') ((hq w').mono fun e2 u2 w2 ⟨⟨v2, he⟩, hu, bel⟩ => ?_)
    subst he hu
    have hs2 := hs1.below bel
    obtain ⟨v, hrun, hv⟩ := hres ρ1 S1 w2 a.tmps hs2 hr2
    have hev2 : Ev ρ1 S1 H1 w' ρ1 S1 H1 w2 := by simpa using below_ev (S := S1) (S' := S1) (ρ := ρ1) (H := H1) (H' := H1) [] bel (fun b hb => .inl hb) (fun b hb => by simpa using hb)
    exact ⟨v, hrun, ρ1, S1, H1, out, hs2, hev.trans hev2, hv, hK3⟩
  cases ex with
  | normal =>
    cases e <;> first | exact hex.elim | skip
    exact fin hr1 hK
  | ret =>
    cases e <;> first | exact hex.elim | skip
    exact fin hr1 hK
  | exit n => exact hK.elim
  | pan ch => exact hK.elim
/-- Such a function's calls: the body's spine is three statements, the defer, the rest. -/
theorem spec_of_defer {P : Program} (hm : P.follows .mixedOrders = true) {f : FuncId} {fn : Func} {a b c e : Code} {id : Nat} {ops : Array Oper} {g : FuncId} {d : Nat} {cp : Array Value → Array Value} (hf : P.funcs[f]? = some fn) (hn : (fn.name == "runtime.NumGoroutine") = false)
    (hb : fn.body = some (a.seq (b.seq (c.seq ((Code.region id ops false).seq e)))))
    (hD : ∀ (t : Array Value) (w : World) (Q : Exit → Act → World → Prop), d < t.size → Q .normal { tmps := t.setIfInBounds d (.func (.func g) #[] (cp t)), defers := [⟨.fn (.func g) (cp t), #[]⟩] } w → (Code.region id ops false).wp P Q { tmps := t, defers := [] } w)
    (hI : ∀ t w, (invoke (.fn (.func g) (cp t)) #[]).run P w = .ok (.enter g (cp t)) w)
    (hq : ∀ t w, CallsD P g (cp t) .returning w fun e u' w' => (∃ v, e = .returned v) ∧ u' = .returning ∧ Below w.heap.size w w')
    {args : List AV} (hl : Nat.ble args.length fn.ntmps = true) {H : List Ent} {K : Out → List Ent → Prop}
    (h : initK fn.ntmps args fun s => exec P a s H (seqK (fun s H K' => exec P b s H (seqK (fun s H K' => exec P c s H (seqK (fun s H _ => Nat.ble (d + 1) s.length = true ∧ putK s (some d) (.c .any) fun s => exec P e s H (endD P fn.results.toList K)) K')) K')) (endK P fn.results.toList K))) : SpecH P f args H K := by
  refine ⟨⟨fn, hf, hn, by rw [hb]; rfl⟩, fun ρ S w vs hs hr => ?_⟩
  have hvl := RelS_len hr
  obtain ⟨s0, h, hs0⟩ := initK_rel h (Nat.le_of_ble_eq_true hl)
  have hinit : RelS ρ s0 (vs.toArray ++ Array.replicate (fn.ntmps - vs.toArray.size) undef).toList := by
    have := hs0 ρ vs hr
    simpa [hvl] using this
  refine calls_of_wp_defers hf hb ?_
  -- one statement ahead of the defer
  have one : ∀ {x : Code} {y : Code} {s : List AV} {H1 : List Ent} {E : List AV → List Ent → (Ex → List AV → List Ent → Prop) → Prop} {ρ1 : List Loc} {S1 : Nat → Prop} {w1 : World} {a1 : Act},
      exec P x s H1 (seqK E (endK P fn.results.toList K)) → Sat ρ1 S1 H1 w1 → Ev ρ S H w ρ1 S1 H1 w1 → RelS ρ1 s a1.tmps.toList → a1.defers = [] →
      (∀ (s2 : List AV) (H2 : List Ent) (ρ2 : List Loc) (S2 : Nat → Prop) (w2 : World) (a2 : Act), E s2 H2 (endK P fn.results.toList K) → Sat ρ2 S2 H2 w2 → Ev ρ S H w ρ2 S2 H2 w2 → RelS ρ2 s2 a2.tmps.toList → a2.defers = [] → y.wp P (bodyPostD P fn (EndF ρ S H w K)) a2 w2) →
      (Code.seq x y).wp P (bodyPostD P fn (EndF ρ S H w K)) a1 w1 := by
    intro x y s H1 E ρ1 S1 w1 a1 hx hs1 hev hrel hdf hy
    refine wp_seq (wp_mono (exec_sound hm x s H1 _ hx ρ1 S1 w1 a1 hs1 hrel) fun ee a' w' hp => ?_)
    obtain ⟨ρ2, S2, s2, H2, ex, hs2, hev2, hr2, hd2, hex, hK2⟩ := hp
    rw [hdf] at hd2
    cases ex with
    | normal =>
      cases ee <;> first | exact hex.elim | skip
      exact hy s2 H2 ρ2 S2 w' a' hK2 hs2 (hev.trans hev2) hr2 hd2
    | exit n => cases ee <;> first | exact hex.elim | exact early_end (P := P) (fn := fn) (K := K) ⟨ρ2, S2, s2, H2, .exit n, hs2, hev.trans hev2, hr2, hd2, hex, hK2⟩
    | ret => cases ee <;> first | exact hex.elim | exact early_end (P := P) (fn := fn) (K := K) ⟨ρ2, S2, s2, H2, .ret, hs2, hev.trans hev2, hr2, hd2, hex, hK2⟩
    | pan n => cases ee <;> first | exact hex.elim | exact early_end (P := P) (fn := fn) (K := K) ⟨ρ2, S2, s2, H2, .pan n, hs2, hev.trans hev2, hr2, hd2, hex, hK2⟩
  refine one h hs (Ev.refl _ _ _ _) hinit rfl fun s1 H1 ρ1 S1 w1 a1 h1 hs1 hev1 hr1 hd1 => ?_
  refine one h1 hs1 hev1 hr1 hd1 fun s2 H2 ρ2 S2 w2 a2 h2 hs2 hev2 hr2 hd2 => ?_
  refine one h2 hs2 hev2 hr2 hd2 fun s3 H3 ρ3 S3 w3 a3 h3 hs3 hev3 hr3 hd3 => ?_
  obtain ⟨hsz, h3⟩ := h3
  obtain ⟨s4, h4, hput⟩ := putK_spec h3
  obtain ⟨t3, d3⟩ := a3
  have : d3 = [] := hd3
  subst this
  have hts : d < t3.size := by
    have h5 := RelS_len hr3
    have h6 := Nat.le_of_ble_eq_true hsz
    simp only [Array.length_toList] at h5
    omega
  refine wp_seq (hD t3 w3 _ hts ?_)
  have hr4 := hput ρ3 _ (.func (.func g) #[] (cp t3)) hr3 trivial
  refine wp_mono (exec_sound hm e s4 H3 _ h4 ρ3 S3 w3 ⟨t3.setIfInBounds d (.func (.func g) #[] (cp t3)), [⟨.fn (.func g) (cp t3), #[]⟩]⟩ hs3 ?_) fun ee a' w' hp => late_end (hI t3) (hq t3) (hp.from hev3)
  exact hr4
theorem cell_alloc (w : World) (cells : List Value) (T : TypeId) (j : Nat) : (w.alloc (.cells cells.toArray T)).cell? ⟨w.heap.size, j, none⟩ = cells[j]? := by
  unfold World.cell?
  rw [heap_alloc_new]
  simp
theorem add_0 (b j : Nat) : Addr.add ⟨b, 0, none⟩ j = ⟨b, j, none⟩ := by
  unfold Addr.add
  split
  · rename_i h; rw [h]
  · simp
/-- A call over plain values that hands back a new slice, its cells known. -/
theorem specF_new {P : Program} {f : FuncId} {xs : List Value} {F : World → Prop} {T : TypeId} (ok : CallOk P f) {n : Nat} {cells : List Value} (hn : cells.length = n)
    (h : ∀ w, F w → Calls P f xs.toArray w fun e w' => e = .returned (.slice (some ⟨w.heap.size, 0, none⟩) n n) ∧ w' = w.alloc (.cells cells.toArray T)) :
    SpecF P f xs F fun v G => ∃ b, v = .slice (some ⟨b, 0, none⟩) n n ∧ ∀ w, G w → SlAt (some ⟨b, 0, none⟩) n cells w := by
  refine ⟨ok, fun S w hF hS => (h w hF.1).mono fun e w' ⟨he, hw⟩ => ⟨_, SlAt (some ⟨w.heap.size, 0, none⟩) n cells, fun b => b = w.heap.size, he, ⟨_, rfl, fun _ h => h⟩, ?_, fun b hb => .inr (by omega), fun b hb => ?_, ?_⟩⟩
  · have hS1 : SlAt (some ⟨w.heap.size, 0, none⟩) n cells w' := ⟨hn, fun _ => rfl, fun j hj => by
      rw [hw]
      show (w.alloc (.cells cells.toArray T)).cell? (Addr.add ⟨w.heap.size, 0, none⟩ j) = _
      rw [add_0]
      exact cell_alloc w cells T j⟩
    refine ⟨hS1, fun w2 h2 => ⟨hn, fun _ => rfl, fun j hj => ?_⟩⟩
    have h1 := hS1.2.2 j hj
    rw [List.getElem?_eq_getElem (by omega)] at h1 ⊢
    refine cell?_keep h1 (h2 _ ?_)
    show (Addr.add ⟨w.heap.size, 0, none⟩ j).block = _
    rw [add_0]
  · rw [hw, hb]
    simp
  · rw [hw]
    exact (Below.refl _ _).alloc (Nat.le_refl _) _
end Go.AX

/-
  Contract: what Scan defers, where nothing panics.
-/
namespace Go.Proofs.YteejemdibfbccaaGreatDoor
open Go.AX Go.RowKit
set_option maxRecDepth 20000

set_option maxHeartbeats 1000000 in
theorem quiet_c (v0 v1 v2 : Value) (w : World) : CallsD Tryz.prog 43 #[v0, v1, v2] .returning w fun e u' w' => (∃ v, e = .returned v) ∧ u' = .returning ∧ Below w.heap.size w w' := by
  have hta : ∀ w : World, (Instr.typeAssert .nilIface 20 60 true).run Tryz.prog w = .ok (.tuple #[.agg #[.int .i64 0, .int .i64 0], .bool false]) w := fun _ => by kernel_rfl
  refine callsD_of_wpS Tryz.func43 rfl fun c₀ cs hu => ?_
  apply wpS_seq
  apply wpS_region
  simp [wpOpsS, go_sem, recoverD, hu, hta, Tryz.ntmps43, Exit.thenS]
  apply wpS_seq
  apply wpS_region
  simp [wpOpsS, go_sem, Exit.thenS]
  refine wpS_cond (t := false) (by simp [Act.eval, Array.replicate]) ?_
  simp only [Bool.false_eq_true, if_false]
  refine wpS_of_wp (wp_skip ?_)
  cases c₀
  simp_all [bodyPostS, results, Tryz.results43]
  exact (Below.refl _ _).alloc (Nat.le_refl _) _
end Go.Proofs.YteejemdibfbccaaGreatDoor
