/-
  Lemmas (Ax14 Ax15 Ax16 Ax17 Ax13 Ax18 Ax19 Ax20 Ax34 Ax24 Ax21 Ax22 LB1 T1 Ax23 LB2 R0 LB3 P1 C1 C2 C3 Ax28 Ax29 Ax25).
-/
import Derived.Below
import Derived.DataElems
import Derived.WalkKit
import Derived.ProofKit
import Derived.OpenShut
import Derived.ShutString
import Derived.ChangeOld
import Derived.Carry
import Derived.HandedShaped
import Derived.SliceStrings
import Derived.ChangeSlices
import Derived.SizedLaws
import Derived.MakeChecks
import Derived.LaidMore
import Derived.LaidLaws
import Derived.LaidHandle
import Derived.Lib.LaidTab
import Derived.SevenTiedAt
import Derived.Laws.IdiomStrings
import Derived.Shelf.Vars
import Derived.Lib.AppendStr
import Derived.Lib.UnsafeStr
import Derived.Lib.Builder
import Derived.Laws.Externs
import Derived.Test.YteljlkkppaobeaaGreatDoorChecked
import Derived.Shelf.Strings.Builder1
import Derived.Shelf.Strings.Builder2
import Derived.Shelf.Strings.OnBuilder
import Derived.Shelf.Strings.Trim
import Derived.Shelf.Small.Utf8
import Derived.Shelf.Small.Strs
import Derived.Shelf.Strings.BuilderF
import Derived.Shelf.Strings.BuilderK
import Derived.Shelf.Strings.BuilderRune
import Derived.Shelf.Utf8.AppendRune
import Derived.Shelf.Utf8.AppendRunePlain
import Derived.Shelf.Utf8.RuneCount
import Derived.Shelf.Strings.Builder2Cap
import Derived.Shelf.Strings.Search1
import Derived.Shelf.Strings.Search2
import Derived.Shelf.Strings.Search3
import Derived.Shelf.Strings.Cut
import Derived.Shelf.Strings.Count
import Derived.Shelf.LaysM
import Derived.Shelf.Strings.Shaped
import Derived.Shelf.Strings.Prefix
import Derived.Shelf.Strings.Split
import Derived.Shelf.Unicode.Latin
import Derived.Shelf.Unicode.Decode
import Derived.Shelf.Strings.Runes
import Derived.Shelf.Strings.RuneCount
import Derived.Shelf.Strings.AsciiSet
import Derived.Shelf.Unicode.DecodeSlow
import Derived.Shelf.Unicode.DecodeAny
import Derived.Shelf.Unicode.DecodeLast
import Derived.Shelf.Unicode.CaseLookup
import Derived.Shelf.Unicode.CaseConvert
import Derived.Shelf.Unicode.CaseTo
import Derived.Shelf.Unicode.CaseLaid
import Derived.Shelf.Strings.BuilderCap
import Derived.Test.YteljlkkppaobeaaGreatDoorProg
import Derived.Lib.MakeNoZero
import Derived.Lib.CutLaws
import Derived.Lib.ReplaceLaws
import Derived.Test.YteljlkkppaobeaaGreatDoorRows
import Derived.LaidOnce
import Derived.Laws.IdiomCopy
import Derived.Laws.MakeOwn
import Derived.Test.YteljlkkppaobeaaGreatDoorMw3
/-
  AX, fourteenth text: calls over plain values and facts on memory that nobody writes; what a call made is handed on as such.
-/
namespace Go.AX
open Go.RowKit

theorem Imm.mono {S : Nat → Prop} {w : World} {F G : World → Prop} (h : Imm S w F) (hk : ∀ w, F w → G w) : Imm S w G := ⟨hk w h.1, fun w' hw => hk w' (h.2 w' hw)⟩
theorem Imm.grow {S S' : Nat → Prop} {w : World} {F : World → Prop} (h : Imm S w F) (hs : ∀ b, S b → S' b) : Imm S' w F := ⟨h.1, fun w' hw => h.2 w' fun b hb => hw b (hs b hb)⟩
theorem Imm.and {S : Nat → Prop} {w : World} {F G : World → Prop} (h : Imm S w F) (k : Imm S w G) : Imm S w fun w => F w ∧ G w := ⟨⟨h.1, k.1⟩, fun w' hw => ⟨h.2 w' hw, k.2 w' hw⟩⟩
theorem Imm.triv (S : Nat → Prop) (w : World) : Imm S w fun _ => True := ⟨trivial, fun _ _ => trivial⟩

theorem EntOk.grow {ρ : List Loc} {S S' : Nat → Prop} {w : World} {i : Nat} {e : Ent} (h : EntOk ρ S w i e) (hs : ∀ b, S b → S' b) : EntOk ρ S' w i e := by
  cases e with
  | fact F => exact Imm.grow h hs
  | fz => exact ⟨h.1, Imm.grow h.2 hs⟩
  | _ => exact h

theorem Facts_imm {ρ : List Loc} {S : Nat → Prop} {w : World} : ∀ {H : List Ent}, (∀ e ∈ H, ∃ i, EntOk ρ S w i e ∧ match e with | .app _ _ _ a _ _ => ∀ b, a.map Addr.block = some b → S b | .mp b _ _ => S b | _ => True) → Imm S w (Facts H)
  | [], _ => Imm.triv S w
  | .fact F :: es, h => by
    obtain ⟨i, hi, _⟩ := h (.fact F) (by simp)
    exact Imm.and hi (Facts_imm fun e he => h e (by simp [he]))
  | .fz T sz n xs b cap :: es, h => by
    obtain ⟨i, hi, _⟩ := h (.fz T sz n xs b cap) (by simp)
    exact Imm.and hi.2 (Facts_imm fun e he => h e (by simp [he]))
  | .blk .. :: es, h => Facts_imm (H := es) fun e he => h e (by simp [he])
  | .row .. :: es, h => Facts_imm (H := es) fun e he => h e (by simp [he])
  | .app T sz xs a n cap :: es, h => by
    obtain ⟨i, hi, hS⟩ := h (.app T sz xs a n cap) (by simp)
    have h1 : Imm S w (SlAt a (n * sz) xs) := ⟨appSl hi, fun w' hw => by
      rcases hi with ⟨rfl, rfl, rfl, rfl⟩ | ⟨b, rfl, hr⟩
      · rw [Nat.zero_mul]; exact SlAt.nil
      · exact (hr.move (hw b (hS b rfl))).sl⟩
    exact Imm.and h1 (Facts_imm fun e he => h e (by simp [he]))
  | .mp b es c :: H, h => by
    obtain ⟨i, hi, hS⟩ := h (.mp b es c) (by simp)
    have h1 : Imm S w (fun w => w.heap[b]? = some (.map es c)) := ⟨hi, fun w' hw => (hw b hS).trans hi⟩
    exact Imm.and h1 (Facts_imm fun e he => h e (by simp [he]))
  | .dead :: es, h => Facts_imm (H := es) fun e he => h e (by simp [he])
/-- The blocks of slices that still grow. -/
def appB (H : List Ent) (b : Nat) : Prop := (∃ T sz xs a n cap, Ent.app T sz xs a n cap ∈ H ∧ a.map Addr.block = some b) ∨ ∃ es c, Ent.mp b es c ∈ H
theorem appB_mb {ρ : List Loc} {H : List Ent} {b : Nat} (h : appB H b) : mb ρ H b := by
  rcases h with ⟨T, sz, xs, a, n, cap, hm, hb⟩ | ⟨es, c, hm⟩
  · obtain ⟨i, hi⟩ := List.getElem?_of_mem hm
    exact ⟨i, _, hi, hb⟩
  · obtain ⟨i, hi⟩ := List.getElem?_of_mem hm
    exact ⟨i, _, hi, rfl⟩
theorem Sat.imm {ρ : List Loc} {S : Nat → Prop} {H : List Ent} {w : World} (h : Sat ρ S H w) : Imm (fun b => S b ∨ appB H b) w (Facts H) :=
  Facts_imm (ρ := ρ) fun e he => by
    obtain ⟨i, hi⟩ := List.getElem?_of_mem he
    refine ⟨i, (h.ent i e hi).grow fun b hb => .inl hb, ?_⟩
    cases e with
    | app T sz xs a n cap => exact fun b hb => .inr (.inl ⟨T, sz, xs, a, n, cap, he, hb⟩)
    | mp b es c => exact .inr (.inr ⟨es, c, he⟩)
    | _ => trivial
/-- What is known of memory that nobody writes, slices that still grow aside. -/
def FactsP : List Ent → World → Prop
  | [], _ => True
  | .fz T sz n xs b cap :: es, w => RowF T sz n xs b cap w ∧ FactsP es w
  | .fact F :: es, w => F w ∧ FactsP es w
  | _ :: es, w => FactsP es w
theorem FactsP_imm {ρ : List Loc} {S : Nat → Prop} {w : World} : ∀ {H : List Ent}, (∀ e ∈ H, ∃ i, EntOk ρ S w i e) → Imm S w (FactsP H)
  | [], _ => Imm.triv S w
  | .fact F :: es, h => by
    obtain ⟨i, hi⟩ := h (.fact F) (by simp)
    exact Imm.and hi (FactsP_imm fun e he => h e (by simp [he]))
  | .fz T sz n xs b cap :: es, h => by
    obtain ⟨i, hi⟩ := h (.fz T sz n xs b cap) (by simp)
    exact Imm.and hi.2 (FactsP_imm fun e he => h e (by simp [he]))
  | .blk .. :: es, h => FactsP_imm (H := es) fun e he => h e (by simp [he])
  | .row .. :: es, h => FactsP_imm (H := es) fun e he => h e (by simp [he])
  | .app .. :: es, h => FactsP_imm (H := es) fun e he => h e (by simp [he])
  | .mp .. :: es, h => FactsP_imm (H := es) fun e he => h e (by simp [he])
  | .dead :: es, h => FactsP_imm (H := es) fun e he => h e (by simp [he])
theorem Sat.immP {ρ : List Loc} {S : Nat → Prop} {H : List Ent} {w : World} (h : Sat ρ S H w) : Imm S w (FactsP H) :=
  FactsP_imm (ρ := ρ) fun e he => by
    obtain ⟨i, hi⟩ := List.getElem?_of_mem he
    exact ⟨i, h.ent i e hi⟩

/-- A call over plain values, under a fact on memory that nobody writes: a value, and a fact on it. -/
structure SpecF (P : Program) (f : FuncId) (xs : List Value) (F : World → Prop) (R : Value → (World → Prop) → Prop) : Prop where
  ok : CallOk P f
  run : ∀ (S : Nat → Prop) (w : World), Imm S w F → (∀ b, S b → b < w.heap.size) → Calls P f xs.toArray w fun e w' =>
    ∃ v G S', e = .returned v ∧ R v G ∧ Imm S' w' G ∧ (∀ b, S' b → S b ∨ w.heap.size ≤ b) ∧ (∀ b, S' b → b < w'.heap.size) ∧ Below w.heap.size w w'

theorem below_ev {ρ : List Loc} {S S' : Nat → Prop} {H H' : List Ent} {w w' : World} (t : List Loc) (h : Below w.heap.size w w') (hS : ∀ b, S' b → S b ∨ w.heap.size ≤ b) (hm : ∀ b, mb (ρ ++ t) H' b → mb ρ H b) : Ev ρ S H w (ρ ++ t) S' H' w' :=
  ⟨⟨t, rfl⟩, h.os, h.tape, h.output, h.size, fun b hb _ => h.block b hb, fun b hb => (hS b hb).elim .inl fun h => .inr (.inr h), fun b hb => .inl (hm b hb)⟩

theorem Sat.below {ρ : List Loc} {S : Nat → Prop} {H : List Ent} {w w' : World} (hs : Sat ρ S H w) (h : Below w.heap.size w w') : Sat ρ S H w' :=
  ⟨hs.len, fun i e he => by
      have := (hs.ent i e he).move (w' := w') [] (fun b hb => h.block _ (hs.blk_lt he hb)) fun b hb => h.block b (hs.low b hb)
      simpa using this,
    hs.inj, hs.out, fun b hb => Nat.lt_of_lt_of_le (hs.low b hb) h.size⟩

/-- The fact that a call gave is kept. -/
theorem Sat.addFact {ρ : List Loc} {S S' : Nat → Prop} {H : List Ent} {w w' : World} {G : World → Prop} (hs : Sat ρ S H w) (h : Below w.heap.size w w') (hG : Imm S' w' G) (hS : ∀ b, S' b → S b ∨ w.heap.size ≤ b) (hl : ∀ b, S' b → b < w'.heap.size) :
    Sat (ρ ++ [⟨0, 0⟩]) (fun b => S b ∨ S' b) (H ++ [.fact G]) w' ∧ ∀ b, mb (ρ ++ [⟨0, 0⟩]) (H ++ [.fact G]) b → mb ρ H b := by
  have h1 := hs.below h
  have hcase : ∀ (i : Nat) (e : Ent), (H ++ [Ent.fact G])[i]? = some e → (i < H.length ∧ H[i]? = some e) ∨ e = .fact G := fun i e he => by
    by_cases hi : i < H.length
    · rw [List.getElem?_append_left hi] at he; exact .inl ⟨hi, he⟩
    · rw [List.getElem?_append_right (by omega)] at he
      have : i - H.length < 1 := by have := (List.getElem?_eq_some_iff.1 he).1; simpa using this
      have h0 : i - H.length = 0 := by omega
      rw [h0] at he
      simp at he
      exact .inr he.symm
  have hb2 : ∀ (i : Nat) (e : Ent) (b : Nat), (H ++ [Ent.fact G])[i]? = some e → entB (ρ ++ [⟨0, 0⟩]) i e = some b → H[i]? = some e ∧ entB ρ i e = some b := fun i e b he hb => by
    rcases hcase i e he with ⟨hi, he'⟩ | rfl
    · rw [entB_pre _ (by rw [hs.len]; exact hi)] at hb
      exact ⟨he', hb⟩
    · cases hb
  have hmb : ∀ b, mb (ρ ++ [⟨0, 0⟩]) (H ++ [.fact G]) b → mb ρ H b := by
    rintro b ⟨i, e, he, hb⟩
    exact ⟨i, e, hb2 i e b he hb⟩
  refine ⟨⟨by simp [hs.len], fun i e he => ?_, fun i j e f b he hf heb hfb => ?_, fun b hb hn => ?_, fun b hb => ?_⟩, hmb⟩
  · rcases hcase i e he with ⟨hi, he'⟩ | rfl
    · have := (hs.ent i e he').move (w' := w') [⟨0, 0⟩] (fun b hb => h.block _ (hs.blk_lt he' hb)) fun b hb => h.block b (hs.low b hb)
      exact this.grow fun b hb => .inl hb
    · exact Imm.grow hG fun b hb => .inr hb
  · have h1 := hb2 i e b he heb
    have h2 := hb2 j f b hf hfb
    exact hs.inj i j e f b h1.1 h2.1 h1.2 h2.2
  · obtain ⟨i, e, he, heb⟩ := hmb b hb
    rcases hn with hn | hn
    · exact hs.out _ ⟨i, e, he, heb⟩ hn
    · rcases hS _ hn with h2 | h2
      · exact hs.out _ ⟨i, e, he, heb⟩ h2
      · have := hs.blk_lt he heb; omega
  · rcases hb with hb | hb
    · exact h1.low b hb
    · exact hl b hb

theorem SpecF.call {P : Program} {f : FuncId} {xs : List Value} {F : World → Prop} {R : Value → (World → Prop) → Prop} {H : List Ent} {K : Out → List Ent → Prop} (h : SpecF P f xs F R) (hF : ∀ w, FactsP H w → F w)
    (hk : ∀ v G, R v G → snocK H (.fact G) 0 fun H' _ => K (.val (.c (.v v))) H') : SpecH P f (pvs xs) H K := by
  simp only [snocK_eq] at hk
  refine ⟨h.ok, fun ρ S w vs hs hr => ?_⟩
  obtain rfl := RelS_pvs hr
  refine (h.run S w (hs.immP.mono hF) hs.low).mono fun e w' ⟨v, G, S', he, hR, hG, hS, hlow, bel⟩ => ?_
  have hsat := hs.addFact bel hG hS hlow
  exact ⟨_, _, _, .val (.c (.v v)), hsat.1, below_ev [⟨0, 0⟩] bel (fun b hb => hb.elim .inl (hS b)) hsat.2, ⟨v, he, rfl⟩, hk v G hR⟩

/-- Where the fact is not wanted any more. -/
theorem SpecF.call0 {P : Program} {f : FuncId} {xs : List Value} {F : World → Prop} {R : Value → (World → Prop) → Prop} {H : List Ent} {K : Out → List Ent → Prop} (h : SpecF P f xs F R) (hF : ∀ w, Facts H w → F w)
    (hk : ∀ v G, R v G → K (.val (.c (.v v))) H) : SpecH P f (pvs xs) H K := by
  refine ⟨h.ok, fun ρ S w vs hs hr => ?_⟩
  obtain rfl := RelS_pvs hr
  refine (h.run _ w (hs.imm.mono hF) (fun b hb => hb.elim (hs.low b) fun hb => by obtain ⟨i, e, he, heb⟩ := appB_mb (ρ := ρ) hb; exact hs.blk_lt he heb)).mono fun e w' ⟨v, G, S', he, hR, hG, hS, hlow, bel⟩ => ?_
  exact ⟨ρ, S, H, .val (.c (.v v)), hs.below bel, by simpa using below_ev (S := S) (S' := S) (ρ := ρ) (H := H) (H' := H) [] bel (fun b hb => .inl hb) (fun b hb => by simpa using hb), ⟨v, he, rfl⟩, hk v G hR⟩

/-! ### From a body to such a call -/
def EntF (ρ : List Loc) (w : World) (i : Nat) : Ent → Prop
  | .blk T cs => ∃ l arr, ρ[i]? = some l ∧ w.heap[l.b]? = some (.cells arr T (0, 0)) ∧ RelL ρ cs arr.toList
  | .row T sz n cs => ∃ l arr, ρ[i]? = some l ∧ w.heap[l.b]? = some (.cells arr T (0, 0)) ∧ cs.length = n * sz ∧ n ≤ l.cap ∧ l.cap ≤ maxLen ∧ arr.size = l.cap * sz ∧ RelL ρ cs (arr.toList.take (n * sz))
  | .fact F => F w
  | .fz T sz n xs b cap => ρ[i]? = some ⟨b, cap⟩ ∧ RowF T sz n xs b cap w
  | .app T sz xs a n cap => (a = none ∧ n = 0 ∧ cap = 0 ∧ xs = []) ∨ ∃ b, a = some ⟨b, 0, none⟩ ∧ RowF T sz n xs b cap w
  | .mp b es c => w.heap[b]? = some (.map es c)
  | .dead => True
/-- What an abstract memory says of a world, its places given. -/
def All (ρ : List Loc) (H : List Ent) (w : World) : Prop := ∀ i e, H[i]? = some e → EntF ρ w i e
/-- The end of a body: at whatever places, the value and a fact that holds of it. -/
def Fin (R : Value → (World → Prop) → Prop) (out : Out) (H : List Ent) : Prop :=
  ∀ ρ v w0, All ρ H w0 → OutOk ρ out (.returned v) → ∃ G, R v G ∧ ∀ w, All ρ H w → G w
def notPan : Out → Prop
  | .pan _ => False
  | _ => True

theorem specF_of {P : Program} {f : FuncId} {xs : List Value} {F : World → Prop} {R : Value → (World → Prop) → Prop} (h : SpecH P f (pvs xs) [.fact F] fun out H' => notPan out ∧ Fin R out H') : SpecF P f xs F R := by
  refine ⟨h.ok, fun S w hF hlow => ?_⟩
  have nomb : ∀ b, ¬ mb [⟨0, 0⟩] [Ent.fact F] b := by
    rintro b ⟨i, e, he, ho⟩
    match i, he with
    | 0, he => simp at he; subst he; cases ho
  have hs : Sat [⟨0, 0⟩] S [.fact F] w := by
    refine ⟨rfl, fun i e he => ?_, fun i j e f b he hf heo => ?_, fun b hb => absurd hb (nomb b), hlow⟩
    · match i, he with
      | 0, he => simp at he; subst he; exact hF
    · match i, he with
      | 0, he => simp at he; subst he; cases heo
  refine (h.run _ S w xs hs (pvs_rel _ xs)).mono fun e w' ⟨ρ', S', H', out, hs', hev, hout, hn, hfin⟩ => ?_
  obtain ⟨v, rfl⟩ : ∃ v, e = .returned v := by
    cases out with
    | val av => obtain ⟨v, he, _⟩ := hout; exact ⟨v, he⟩
    | vals l => obtain ⟨v, he, _⟩ := hout; exact ⟨_, he⟩
    | pan c => exact hn.elim
  have hall : ∀ w'' : World, (∀ b, S' b ∨ mb ρ' H' b → w''.heap[b]? = w'.heap[b]?) → All ρ' H' w'' := fun w'' hw i e he => by
    have hk := hs'.ent i e he
    cases e with
    | blk T cs => obtain ⟨l, arr, hl, hb, hr⟩ := hk; exact ⟨l, arr, hl, by rw [hw l.b (.inr ⟨i, _, he, entB_own rfl hl⟩)]; exact hb, hr⟩
    | row T sz n cs => obtain ⟨l, arr, hl, hb, hr⟩ := hk; exact ⟨l, arr, hl, by rw [hw l.b (.inr ⟨i, _, he, entB_own rfl hl⟩)]; exact hb, hr⟩
    | fact F => exact hk.2 w'' fun b hb => hw b (.inl hb)
    | fz => exact ⟨hk.1, hk.2.2 w'' fun b hb => hw b (.inl hb)⟩
    | app T sz xs a n cap =>
      rcases hk with hk | ⟨b, rfl, hk⟩
      · exact .inl hk
      · exact .inr ⟨b, rfl, hk.move (hw b (.inr ⟨i, _, he, rfl⟩))⟩
    | mp b es c => exact (hw b (.inr ⟨i, _, he, rfl⟩)).trans hk
    | dead => trivial
  obtain ⟨G, hR, hG⟩ := hfin ρ' v w' (hall w' fun _ _ => rfl) hout
  refine ⟨v, G, fun b => S' b ∨ mb ρ' H' b, rfl, hR, ⟨hG _ (hall w' fun _ _ => rfl), fun w'' hw => hG w'' (hall w'' hw)⟩, ?_, ?_, ⟨hev.os, hev.tape, hev.output, hev.size, fun b hb => hev.keep b hb (nomb b)⟩⟩
  · rintro b (hb | hb)
    · rcases hev.imm b hb with h | h | h
      · exact .inl h
      · exact absurd h (nomb b)
      · exact .inr h
    · rcases hev.own b hb with h | h
      · exact absurd h (nomb b)
      · exact .inr h
  · rintro b (hb | hb)
    · exact hs'.low b hb
    · obtain ⟨i, e, he, heb⟩ := hb
      exact hs'.blk_lt he heb

theorem specF {P : Program} (hm : P.follows .mixedOrders = true) {f : FuncId} {fn : Func} {c : Code} (hf : P.funcs[f]? = some fn) (hn : (fn.name == "runtime.NumGoroutine") = false) (hb : fn.body = some c)
    {xs : List Value} (hl : Nat.ble (pvs xs).length fn.ntmps = true) {F : World → Prop} {R : Value → (World → Prop) → Prop} (h : initK fn.ntmps (pvs xs) fun s => exec P c s [.fact F] (endK P fn.results.toList fun out H' => notPan out ∧ Fin R out H')) : SpecF P f xs F R :=
  specF_of (spec_of_exec hm hf hn hb hl h)

theorem fin_v {R : Value → (World → Prop) → Prop} {x : Value} {H : List Ent} (h : R x fun _ => True) : notPan (.val (.c (.v x))) ∧ Fin R (.val (.c (.v x))) H :=
  ⟨trivial, fun _ v _ _ hv => by
    obtain ⟨_, e, hr⟩ := hv
    obtain rfl := Ending.returned.inj e
    have : v = x := hr
    subst this
    exact ⟨_, h, fun _ _ => trivial⟩⟩

theorem vs_only {ρ : List Loc} : ∀ {xs vs' : List Value}, RelL ρ (vs xs) vs' → vs' = xs
  | [], [], _ => rfl
  | x :: xs, v :: vs', h => by
    have h1 : v = x := h.1
    rw [h1, vs_only h.2]
  | [], _ :: _, h => h.elim
  | _ :: _, [], h => h.elim

/-- A row of plain values becomes a fact. -/
theorem EntF.row {ρ : List Loc} {w : World} {i : Nat} {T : TypeId} {sz n : Nat} {xs : List Value} {l : Loc} (h : EntF ρ w i (.row T sz n (vs xs))) (hl : ρ[i]? = some l) : RowF T sz n xs l.b l.cap w := by
  obtain ⟨l', arr, hl', hb, h1, h2, h3, h4, hr⟩ := h
  obtain rfl := Option.some.inj (hl'.symm.trans hl)
  exact ⟨arr, (0, 0), ⟨hb, .inl rfl⟩, by rwa [vs_len] at h1, h2, h3, h4, vs_only hr⟩

end Go.AX

/-
  AX, fifteenth text: how slices are used.
-/
namespace Go.AX
open Go.RowKit

theorem All.facts {ρ : List Loc} {H : List Ent} {w : World} (h : All ρ H w) : Facts H w := by
  refine Facts_of (ρ := ρ) (S := fun _ => True) fun e he => ?_
  obtain ⟨i, hi⟩ := List.getElem?_of_mem he
  have := h i e hi
  cases e with
  | fact F => exact this
  | fz => exact this.2
  | app T sz xs a n cap => exact appSl (ρ := ρ) (S := fun _ => True) (i := i) this
  | _ => trivial

/-- The result is a plain value; the facts on it are those at hand. -/
theorem fin_p {R : Value → (World → Prop) → Prop} {x : Value} {H : List Ent} (G : World → Prop) (h : R x G) (hG : ∀ w, Facts H w → G w) : notPan (.val (.c (.v x))) ∧ Fin R (.val (.c (.v x))) H :=
  ⟨trivial, fun ρ v _ _ hv => by
    obtain ⟨_, e, hr⟩ := hv
    obtain rfl := Ending.returned.inj e
    have : v = x := hr
    subst this
    exact ⟨_, h, fun w hall => hG w hall.facts⟩⟩

/-! ### Rows of the call's own handed on -/
theorem Sat.dropRow {ρ : List Loc} {S : Nat → Prop} {H : List Ent} {w : World} (h : Sat ρ S H w) {i : Nat} {T : TypeId} {sz n : Nat} {xs : List Value} (hi : H[i]? = some (.row T sz n (vs xs))) :
    ∃ b cap S', n ≤ cap ∧ Sat ρ S' (H.set i (.fz T sz n xs b cap)) w ∧ Ev ρ S H w ρ S' (H.set i (.fz T sz n xs b cap)) w := by
  have hilt : i < H.length := (List.getElem?_eq_some_iff.1 hi).1
  obtain ⟨l, arr, hl, hb, h1, h2, h3, h4, hr⟩ := h.ent i _ hi
  have hrow : RowF T sz n xs l.b l.cap w := ⟨arr, (0, 0), ⟨hb, .inl rfl⟩, by rwa [vs_len] at h1, h2, h3, h4, vs_only hr⟩
  have hblk : entB ρ i (.row T sz n (vs xs)) = some l.b := entB_own rfl hl
  refine ⟨l.b, l.cap, fun b => S b ∨ b = l.b, h2, ?_⟩
  have hcase : ∀ (j : Nat) (f : Ent) (b : Nat), (H.set i (.fz T sz n xs l.b l.cap))[j]? = some f → entB ρ j f = some b → j ≠ i ∧ H[j]? = some f := by
    intro j f b hf hfb
    by_cases hj : i = j
    · subst hj
      simp [hilt] at hf
      subst hf
      cases hfb
    · rw [List.getElem?_set_ne hj] at hf
      exact ⟨Ne.symm hj, hf⟩
  refine ⟨⟨by simp [h.len], fun j f hf => ?_, fun j k f g b hf hg hfb hgb => ?_, fun b ⟨j, f, hf, hfb⟩ hn => ?_, fun b hb => ?_⟩,
    ⟨⟨[], by simp⟩, rfl, rfl, rfl, Nat.le_refl _, fun _ _ _ => rfl, fun b hb => ?_, fun b ⟨j, f, hf, hfb⟩ => .inl ⟨j, f, (hcase j f b hf hfb).2, hfb⟩⟩⟩
  · by_cases hj : i = j
    · subst hj
      simp [hilt] at hf
      subst hf
      exact ⟨hl, hrow, fun w' hw => hrow.move (hw _ (.inr rfl))⟩
    · rw [List.getElem?_set_ne hj] at hf
      exact (h.ent j f hf).grow fun b hb => .inl hb
  · exact h.inj j k f g b (hcase j f b hf hfb).2 (hcase k g b hg hgb).2 hfb hgb
  · have hjf := hcase j f b hf hfb
    rcases hn with hn | hn
    · exact h.out b ⟨j, f, hjf.2, hfb⟩ hn
    · exact hjf.1 (h.inj j i f _ b hjf.2 hi hfb (hn ▸ hblk))
  · rcases hb with hb | hb
    · exact h.low b hb
    · subst hb; exact h.blk_lt hi hblk
  · rcases hb with hb | hb
    · exact .inl hb
    · exact .inr (.inl ⟨i, _, hi, hb ▸ hblk⟩)

theorem SpecH.freeze {P : Program} {f : FuncId} {args : List AV} {H : List Ent} {K : Out → List Ent → Prop} (ok : CallOk P f) (i : Nat) {T : TypeId} {sz n : Nat} {cs : List CV} {xs : List Value} (hi : nthE H i = some (.row T sz n cs)) (hx : plains cs = some xs)
    (h : ∀ b cap, n ≤ cap → setEK H i (.fz T sz n xs b cap) fun H' => SpecH P f args H' K) : SpecH P f args H K := by
  have hcs : ∀ {cs : List CV} {xs : List Value}, plains cs = some xs → cs = vs xs := by
    intro cs
    induction cs with
    | nil => intro xs h; simp [plains] at h; subst h; rfl
    | cons c cs ih =>
      intro xs h
      cases c with
      | v x =>
        simp only [plains] at h
        split at h
        · rename_i l hl
          cases h
          rw [ih hl]; rfl
        · cases h
      | _ => simp [plains] at h
  rw [nthE_eq, hcs hx] at hi
  refine ⟨ok, fun ρ S w vs hs hr => ?_⟩
  obtain ⟨b, cap, S', hnc, hs', hev⟩ := hs.dropRow hi
  obtain ⟨_, h⟩ := setEK_spec (h b cap hnc)
  exact (h.run ρ S' w vs hs' hr).mono fun e w' ⟨ρ2, S2, H2, out, a1, a2, a3, a4⟩ => ⟨ρ2, S2, H2, out, a1, hev.trans a2, a3, a4⟩

def plainC (H : List Ent) : CV → Option Value
  | .v x => some x
  | .sl i m => match nthE H i with | some (.fz _ _ _ _ b cap) => some (.slice (some ⟨b, 0, none⟩) m cap) | _ => none
  | _ => none
def plainCs (H : List Ent) : List CV → Option (List Value)
  | [] => some []
  | c :: cs => match plainC H c, plainCs H cs with | some x, some xs => some (x :: xs) | _, _ => none
def plainA (H : List Ent) : AV → Option Value
  | .c c => plainC H c
  | .agg cs => match plainCs H cs with | some xs => some (.agg xs.toArray) | none => none
def plainAs (H : List Ent) : List AV → Option (List Value)
  | [] => some []
  | c :: cs => match plainA H c, plainAs H cs with | some x, some xs => some (x :: xs) | _, _ => none

theorem plainC_rel {ρ : List Loc} {S : Nat → Prop} {H : List Ent} {w : World} (hs : Sat ρ S H w) {c : CV} {x v : Value} (h : plainC H c = some x) (hr : c.rel ρ v) : v = x := by
  cases c with
  | any => cases h
  | v y => cases h; exact hr
  | lp => cases h
  | sl i m =>
    simp only [plainC] at h
    split at h
    · rename_i T sz n xs b cap he
      cases h
      rw [nthE_eq] at he
      obtain ⟨l, hl, rfl⟩ := hr
      have hl2 := (hs.ent i _ he).1
      obtain rfl := Option.some.inj (hl.symm.trans hl2)
      rfl
    · cases h
theorem plainCs_rel {ρ : List Loc} {S : Nat → Prop} {H : List Ent} {w : World} (hs : Sat ρ S H w) : ∀ {cs : List CV} {xs vs : List Value}, plainCs H cs = some xs → RelL ρ cs vs → vs = xs
  | [], xs, [], h, _ => by simp [plainCs] at h; exact h.symm
  | c :: cs, xs, v :: vs, h, hr => by
    simp only [plainCs] at h
    split at h
    · rename_i x ys hx hy
      cases h
      rw [plainC_rel hs hx hr.1, plainCs_rel hs hy hr.2]
    · cases h
  | [], _, _ :: _, _, hr => hr.elim
  | _ :: _, _, [], _, hr => hr.elim
theorem plainA_rel {ρ : List Loc} {S : Nat → Prop} {H : List Ent} {w : World} (hs : Sat ρ S H w) {a : AV} {x v : Value} (h : plainA H a = some x) (hr : a.rel ρ v) : v = x := by
  cases a with
  | c c => exact plainC_rel hs h hr
  | agg cs =>
    simp only [plainA] at h
    split at h
    · rename_i xs hx
      cases h
      obtain ⟨ys, rfl, hy⟩ := hr
      rw [plainCs_rel hs hx hy]
    · cases h
theorem plainAs_rel {ρ : List Loc} {S : Nat → Prop} {H : List Ent} {w : World} (hs : Sat ρ S H w) : ∀ {cs : List AV} {xs vs : List Value}, plainAs H cs = some xs → RelS ρ cs vs → vs = xs
  | [], xs, [], h, _ => by simp [plainAs] at h; exact h.symm
  | c :: cs, xs, v :: vs, h, hr => by
    simp only [plainAs] at h
    split at h
    · rename_i x ys hx hy
      cases h
      rw [plainA_rel hs hx hr.1, plainAs_rel hs hy hr.2]
    · cases h
  | [], _, _ :: _, _, hr => hr.elim
  | _ :: _, _, [], _, hr => hr.elim

/-- Arguments that are rows nobody writes any more are plain values. -/
theorem SpecH.plain {P : Program} {f : FuncId} {args : List AV} {H : List Ent} {K : Out → List Ent → Prop} {xs : List Value} (hx : plainAs H args = some xs) (h : SpecH P f (pvs xs) H K) : SpecH P f args H K :=
  ⟨h.ok, fun ρ S w vs hs hr => by
    obtain rfl := plainAs_rel hs hx hr
    exact h.run ρ S w vs hs (pvs_rel ρ vs)⟩

/-! ### Loads from slices that are facts -/
theorem loadVar_cell {P : Program} {T : TypeId} {w : World} {p : Addr} {x : Value} (hs : shapeT P T = some none) (hc : w.cell? p = some x) : (loadVar T p).run P w = .ok x w := by
  unfold shapeT at hs
  have key : ∀ d, P.underlying T = some d → isAggD d = false → (loadVar T p).run P w = .ok x w := fun d hd hf => by
    unfold loadVar
    rw [Sem.run_bind, run_isAgg hd, hf]
    simp [hc]
  cases hd : P.underlying T with
  | none => rw [hd] at hs; simp at hs
  | some d =>
    rw [hd] at hs
    cases d <;> first
      | exact key _ hd rfl
      | (simp only at hs; split at hs <;> simp at hs)
theorem loadVar_cells {P : Program} {T : TypeId} {n : Nat} {w : World} {p : Addr} {xs : List Value} (hs : shapeT P T = some (some n)) (hl : xs.length = n) (hc : ∀ j v, xs[j]? = some v → w.cell? (p.add j) = some v) : (loadVar T p).run P w = .ok (.agg xs.toArray) w := by
  unfold shapeT at hs
  have key : ∀ d i, P.underlying T = some d → P.info? T = some i → i.size = n → isAggD d = true → (loadVar T p).run P w = .ok (.agg xs.toArray) w := fun d i hd hi hn hf => by
    have hcells := run_loadCells_list (P := P) w p xs hc
    rw [hl] at hcells
    unfold loadVar
    rw [Sem.run_bind, run_isAgg hd, hf]
    simp [sizeOf, typeInfo, hi, hn, hcells]
  cases hd : P.underlying T with
  | none => rw [hd] at hs; simp at hs
  | some d =>
    rw [hd] at hs
    cases d <;> first
      | (simp at hs; done)
      | (simp only at hs
         split at hs
         · rename_i i hi
           simp at hs
           exact key _ i hd hi hs rfl
         · cases hs)

theorem SlAt.cell {a : Option Addr} {k : Nat} {xs : List Value} {w : World} (h : SlAt a k xs w) {q : Nat} {x : Value} (hx : xs[q]? = some x) : w.cell? ((a.getD default).add q) = some x := by
  have : q < k := by rw [← h.1]; exact (List.getElem?_eq_some_iff.1 hx).1
  rw [h.2.2 q this, hx]

/-- A load of one cell of a slice. -/
theorem LdN.one {P : Program} {T : TypeId} {a : Option Addr} {q : Nat} {H : List Ent} {K : AV → Prop} {k : Nat} {xs : List Value} (x : Value) (hT : shapeT P T = some none) (hF : ∀ w, Facts H w → SlAt a k xs w) (hx : xs[q]? = some x)
    (next : forceV x fun x => K (.c (.v x))) : LdN P T (elemAddr a q) H K :=
  ⟨x, fun w hw => loadVar_cell hT ((hF w hw).cell hx), next⟩
/-- A load of a field. -/
theorem LdN.fld {P : Program} {T : TypeId} {a : Option Addr} {q fo : Nat} {H : List Ent} {K : AV → Prop} {k : Nat} {xs : List Value} (x : Value) (hT : shapeT P T = some none) (hF : ∀ w, Facts H w → SlAt a k xs w) (hx : xs[q + fo]? = some x)
    (next : forceV x fun x => K (.c (.v x))) : LdN P T ((elemAddr a q).add fo) H K :=
  ⟨x, fun w hw => loadVar_cell hT (by rw [elemAddr, Addr.add_add]; exact (hF w hw).cell hx), next⟩
/-- A load of a struct. -/
theorem LdN.agg {P : Program} {T : TypeId} {a : Option Addr} {q n : Nat} {H : List Ent} {K : AV → Prop} {k : Nat} {xs : List Value} (ys : List Value) (hT : shapeT P T = some (some n)) (hF : ∀ w, Facts H w → SlAt a k xs w) (hl : ys.length = n)
    (hx : ∀ j, j < n → xs[q + j]? = ys[j]?) (next : K (.c (.v (.agg ys.toArray)))) : LdN P T (elemAddr a q) H K :=
  ⟨.agg ys.toArray, fun w hw => loadVar_cells hT hl fun j v hv => by
    have hj : j < n := by rw [← hl]; exact (List.getElem?_eq_some_iff.1 hv).1
    rw [elemAddr, Addr.add_add]
    exact (hF w hw).cell ((hx j hj).trans hv), next⟩

/-! ### Lists of structs as cells -/
theorem flat_get {α : Type} {g : α → List Value} {m : Nat} (hg : ∀ a, (g a).length = m) : ∀ (l : List α) (i j : Nat), j < m → (l.flatMap g)[i * m + j]? = (l[i]?).bind fun a => (g a)[j]?
  | [], i, j, _ => by simp
  | a :: l, 0, j, hj => by rw [List.flatMap_cons, Nat.zero_mul, Nat.zero_add, List.getElem?_append_left (by rw [hg]; exact hj)]; simp
  | a :: l, i + 1, j, hj => by
    rw [List.flatMap_cons, List.getElem?_append_right (by rw [hg, Nat.add_mul]; omega), hg, show (i + 1) * m + j - m = i * m + j by rw [Nat.add_mul]; omega, flat_get hg l i j hj]
    simp
end Go.AX

/-
  AX, sixteenth text: a contract that speaks of some entries holds among others.
-/
namespace Go.AX

/-- The number of an entry of a part, in the whole: those that the part was given, then those behind the whole's. -/
def rnI : List Nat → Nat → Nat → Nat
  | [], N, j => N + j
  | s :: _, _, 0 => s
  | _ :: σ, N, j + 1 => rnI σ N j
def rnC (σ : List Nat) (N : Nat) : CV → CV
  | .lp i o => .lp (rnI σ N i) o
  | .sl i n => .sl (rnI σ N i) n
  | c => c
def rnCs (σ : List Nat) (N : Nat) : List CV → List CV
  | [] => []
  | c :: cs => rnC σ N c :: rnCs σ N cs
def rnA (σ : List Nat) (N : Nat) : AV → AV
  | .c c => .c (rnC σ N c)
  | .agg cs => .agg (rnCs σ N cs)
def rnS (σ : List Nat) (N : Nat) : List AV → List AV
  | [] => []
  | a :: s => rnA σ N a :: rnS σ N s
def rnE (σ : List Nat) (N : Nat) : Ent → Ent
  | .blk T cs => .blk T (rnCs σ N cs)
  | .row T sz n cs => .row T sz n (rnCs σ N cs)
  | e => e
def rnO (σ : List Nat) (N : Nat) : Out → Out
  | .val a => .val (rnA σ N a)
  | .vals l => .vals (rnS σ N l)
  | .pan c => .pan c
/-- The part's entries put back among the whole's. -/
def mrg (f : Ent → Ent) : List Nat → List Ent → List Ent → (List Ent → Prop) → Prop
  | [], [], H, K => K H
  | [], e :: es, H, K => snocK H (f e) 0 fun H' _ => mrg f [] es H' K
  | s :: σ, e :: es, H, K => setEK H s (f e) fun H' => mrg f σ es H' K
  | _ :: _, [], _, _ => False
/-- The part. -/
def part (σ : List Nat) (N : Nat) (H : List Ent) : List Nat → List Ent → Prop
  | [], [] => True
  | s :: τ, e :: es => nthE H s = some (rnE σ N e) ∧ part σ N H τ es
  | _, _ => False
def ndB : List Nat → Bool
  | [] => true
  | s :: σ => !(σ.any (Nat.beq s)) && ndB σ
theorem ndB_nodup : ∀ {σ : List Nat}, ndB σ = true → σ.Nodup
  | [], _ => List.nodup_nil
  | s :: σ, h => by
    simp only [ndB, Bool.and_eq_true, Bool.not_eq_true', List.any_eq_false] at h
    exact List.nodup_cons.2 ⟨fun hm => h.1 s hm (by simp), ndB_nodup h.2⟩

theorem rnI_get : ∀ {σ : List Nat} {N j s : Nat}, σ[j]? = some s → rnI σ N j = s
  | _ :: _, _, 0, s, h => by simpa [rnI] using h
  | _ :: σ, N, j + 1, s, h => by simpa [rnI] using rnI_get (σ := σ) (N := N) (by simpa using h)
  | [], _, _, _, h => by simp at h
theorem rnI_new : ∀ (σ : List Nat) (N j : Nat), rnI σ N (σ.length + j) = N + j
  | [], N, j => by simp [rnI]
  | _ :: σ, N, j => by
    rw [show (List.length (_ :: σ)) + j = (σ.length + j) + 1 by simp; omega]
    simpa [rnI] using rnI_new σ N j

/-! ### Relations under the renaming -/
section
variable {σ : List Nat} {N : Nat} {ρ ρ' : List Loc}
theorem rnC_rel (h : ∀ j, ρ'[rnI σ N j]? = ρ[j]?) (c : CV) (v : Value) : (rnC σ N c).rel ρ' v ↔ c.rel ρ v := by
  cases c <;> simp only [rnC, CV.rel, h]
theorem rnCs_rel (h : ∀ j, ρ'[rnI σ N j]? = ρ[j]?) : ∀ (cs : List CV) (vs : List Value), RelL ρ' (rnCs σ N cs) vs ↔ RelL ρ cs vs
  | [], [] => Iff.rfl
  | [], _ :: _ => Iff.rfl
  | _ :: _, [] => Iff.rfl
  | c :: cs, v :: vs => by simp only [rnCs, RelL, rnC_rel h, rnCs_rel h cs vs]
theorem rnA_rel (h : ∀ j, ρ'[rnI σ N j]? = ρ[j]?) (a : AV) (v : Value) : (rnA σ N a).rel ρ' v ↔ a.rel ρ v := by
  cases a with
  | c c => exact rnC_rel h c v
  | agg cs => simp only [rnA, AV.rel, rnCs_rel h]
theorem rnS_rel (h : ∀ j, ρ'[rnI σ N j]? = ρ[j]?) : ∀ (cs : List AV) (vs : List Value), RelS ρ' (rnS σ N cs) vs ↔ RelS ρ cs vs
  | [], [] => Iff.rfl
  | [], _ :: _ => Iff.rfl
  | _ :: _, [] => Iff.rfl
  | c :: cs, v :: vs => by simp only [rnS, RelS, rnA_rel h, rnS_rel h cs vs]
theorem rnCs_len : ∀ cs : List CV, (rnCs σ N cs).length = cs.length
  | [] => rfl
  | _ :: cs => by simp [rnCs, rnCs_len cs]
theorem rnE_ok (h : ∀ j, ρ'[rnI σ N j]? = ρ[j]?) (S : Nat → Prop) (w : World) (j : Nat) (e : Ent) : EntOk ρ' S w (rnI σ N j) (rnE σ N e) ↔ EntOk ρ S w j e := by
  cases e <;> simp only [rnE, EntOk, rnCs_rel h, h, rnCs_len]
theorem rnE_blk (h : ∀ j, ρ'[rnI σ N j]? = ρ[j]?) (j : Nat) (e : Ent) : entB ρ' (rnI σ N j) (rnE σ N e) = entB ρ j e := by
  cases e <;> simp only [rnE, entB, h]
theorem EntOk.imm {ρ : List Loc} {S S' : Nat → Prop} {w : World} {i : Nat} {e : Ent} (h : EntOk ρ S w i e) (hs : ∀ b, S b → S' b) : EntOk ρ S' w i e := h.grow hs
end

theorem part_get {σ : List Nat} {N : Nat} {H : List Ent} : ∀ {τ : List Nat} {es : List Ent}, part σ N H τ es → τ.length = es.length ∧ ∀ (j : Nat) (s : Nat) (e : Ent), τ[j]? = some s → es[j]? = some e → H[s]? = some (rnE σ N e)
  | [], [], _ => ⟨rfl, fun j s e h => by simp at h⟩
  | s :: τ, e :: es, h => by
    obtain ⟨h1, h2⟩ := part_get (τ := τ) (es := es) h.2
    refine ⟨by simp [h1], fun j s' e' hs he => ?_⟩
    cases j with
    | zero => simp at hs he; subst hs; subst he; rw [← nthE_eq]; exact h.1
    | succ j => exact h2 j s' e' (by simpa using hs) (by simpa using he)
  | [], _ :: _, h => h.elim
  | _ :: _, [], h => h.elim

theorem mrg_spec (f : Ent → Ent) : ∀ {σ : List Nat} {es H : List Ent} {K : List Ent → Prop}, σ.Nodup → mrg f σ es H K →
    ∃ H', K H' ∧ σ.length ≤ es.length ∧ H'.length = H.length + (es.length - σ.length) ∧ (∀ s ∈ σ, s < H.length) ∧
      (∀ (j : Nat) (e : Ent), es[j]? = some e → H'[rnI σ H.length j]? = some (f e)) ∧ ∀ i, i < H.length → i ∉ σ → H'[i]? = H[i]?
  | [], [], H, K, _, h => ⟨H, h, Nat.le_refl _, by simp, fun _ h => by simp at h, fun j e h => by simp at h, fun _ _ _ => rfl⟩
  | [], e :: es, H, K, _, h => by
    simp only [mrg] at h
    rw [snocK_eq] at h
    obtain ⟨H', hK, _, hl, _, hj, hi⟩ := mrg_spec f (σ := []) List.nodup_nil h
    refine ⟨H', hK, by simp, by simp at hl ⊢; omega, fun _ h => by simp at h, fun j e' he => ?_, fun i hi' _ => ?_⟩
    · cases j with
      | zero =>
        simp at he; subst he
        simp only [rnI, Nat.add_zero]
        rw [hi H.length (by simp) (by simp)]; simp
      | succ j =>
        have := hj j e' (by simpa using he)
        simp only [rnI, List.length_append, List.length_cons, List.length_nil] at this ⊢
        rw [show H.length + (j + 1) = H.length + (0 + 1) + j by omega]; exact this
    · rw [hi i (by simp; omega) (by simp), List.getElem?_append_left hi']
  | s :: σ, e :: es, H, K, hn, h => by
    simp only [mrg] at h
    obtain ⟨hs, h⟩ := setEK_spec h
    obtain ⟨hn1, hn2⟩ := List.nodup_cons.1 hn
    obtain ⟨H', hK, hlen, hl, hlt, hj, hi⟩ := mrg_spec f (σ := σ) hn2 h
    rw [List.length_set] at hl hlt hj hi
    refine ⟨H', hK, by simp; omega, by simp at hl ⊢; omega, fun t ht => ?_, fun j e' he => ?_, fun i hi' hni => ?_⟩
    · cases ht with
      | head => exact hs
      | tail _ ht => exact hlt t ht
    · cases j with
      | zero =>
        simp at he; subst he
        simp only [rnI]
        rw [hi s hs hn1]; simp [hs]
      | succ j => exact hj j e' (by simpa using he)
    · simp only [List.mem_cons, not_or] at hni
      rw [hi i hi' hni.2, List.getElem?_set_ne (Ne.symm hni.1)]
  | _ :: _, [], _, _, _, h => h.elim

/-- A contract that speaks of some entries holds among others. -/
theorem SpecH.at {P : Program} {f : FuncId} {args0 : List AV} {H0 : List Ent} {K0 : Out → List Ent → Prop} (h : SpecH P f args0 H0 K0) (σ : List Nat) {args : List AV} {H : List Ent} {K : Out → List Ent → Prop}
    (hn : ndB σ = true) (hp : part σ H.length H σ H0) (ha : args = rnS σ H.length args0)
    (hk : ∀ out H', K0 out H' → mrg (rnE σ H.length) σ H' H fun G => K (rnO σ H.length out) G) : SpecH P f args H K := by
  subst ha
  refine ⟨h.ok, fun ρ S w vs hs hr => ?_⟩
  have nd := ndB_nodup hn
  obtain ⟨hlen, hget⟩ := part_get hp
  generalize hN : H.length = N at *
  have hρN : ρ.length = N := by rw [hs.len, hN]
  have hσlt : ∀ (j s : Nat), σ[j]? = some s → s < N := fun j s hj => by
    have hj2 : j < H0.length := by rw [← hlen]; exact (List.getElem?_eq_some_iff.1 hj).1
    have := hget j s _ hj (List.getElem?_eq_getElem hj2)
    rw [← hN]; exact (List.getElem?_eq_some_iff.1 this).1
  -- the part's places
  have hρ0 : ∃ ρ0 : List Loc, ρ0.length = σ.length ∧ ∀ (j s : Nat), σ[j]? = some s → ρ0[j]? = ρ[s]? := by
    refine ⟨σ.map fun s => ρ.getD s ⟨0, 0⟩, by simp, fun j s hj => ?_⟩
    have hs' := hσlt j s hj
    rw [List.getElem?_map, hj, Option.map_some, List.getD_eq_getElem?_getD, List.getElem?_eq_getElem (by omega)]
    rfl
  obtain ⟨ρ0, hρl, hρg⟩ := hρ0
  have hre : ∀ j, ρ[rnI σ N j]? = ρ0[j]? := fun j => by
    by_cases hj : j < σ.length
    · have hj' := List.getElem?_eq_getElem hj
      rw [rnI_get hj', ← hρg j _ hj']
    · obtain ⟨k, rfl⟩ : ∃ k, j = σ.length + k := ⟨j - σ.length, by omega⟩
      rw [rnI_new, List.getElem?_eq_none (by omega), List.getElem?_eq_none (by omega)]
  have hidx : ∀ (j : Nat) (e : Ent), H0[j]? = some e → ∃ s, σ[j]? = some s ∧ rnI σ N j = s ∧ H[s]? = some (rnE σ N e) := fun j e he => by
    have hj : j < σ.length := by rw [hlen]; exact (List.getElem?_eq_some_iff.1 he).1
    have hj' := List.getElem?_eq_getElem hj
    exact ⟨_, hj', rnI_get hj', hget j _ e hj' he⟩
  have hsat0 : Sat ρ0 S H0 w := by
    refine ⟨by omega, fun j e he => ?_, fun i j e f b he hf heb hfb => ?_, fun b hb => ?_, hs.low⟩
    · obtain ⟨s, _, h2, h3⟩ := hidx j e he
      have := hs.ent s _ h3
      rw [← h2] at this
      exact (rnE_ok hre S w j e).1 this
    · obtain ⟨s, a1, a2, a3⟩ := hidx i e he
      obtain ⟨t, b1, b2, b3⟩ := hidx j f hf
      have e1 : entB ρ s (rnE σ N e) = some b := by rw [← a2, rnE_blk hre]; exact heb
      have e2 : entB ρ t (rnE σ N f) = some b := by rw [← b2, rnE_blk hre]; exact hfb
      have := hs.inj s t _ _ b a3 b3 e1 e2
      subst this
      have hi' : i < σ.length := (List.getElem?_eq_some_iff.1 a1).1
      exact (List.getElem?_inj hi' nd).1 (a1.trans b1.symm)
    · obtain ⟨j, e, he, heb⟩ := hb
      obtain ⟨s, _, h2, h3⟩ := hidx j e he
      exact hs.out b ⟨s, _, h3, by rw [← h2, rnE_blk hre]; exact heb⟩
  have hmb0 : ∀ b, mb ρ0 H0 b → ∃ s ∈ σ, ∃ e, H[s]? = some e ∧ entB ρ s e = some b := fun b ⟨j, e, he, heb⟩ => by
    obtain ⟨s, h1, h2, h3⟩ := hidx j e he
    exact ⟨s, List.mem_of_getElem? h1, _, h3, by rw [← h2, rnE_blk hre]; exact heb⟩
  refine (h.run ρ0 S w vs hsat0 ((rnS_rel hre _ _).1 hr)).mono fun e w' ⟨ρ0', S', H0', out, hs', hev, hout, hK⟩ => ?_
  obtain ⟨G, hG, hσl, hGl, _, hGj, hGi⟩ := mrg_spec (rnE σ N) nd (hk out H0' hK)
  rw [hN] at hGl hGj hGi
  obtain ⟨t, ht⟩ := hev.pre
  have hl' : H0'.length = σ.length + t.length := by rw [← hs'.len, ht, List.length_append, hρl]
  have hre' : ∀ j, (ρ ++ t)[rnI σ N j]? = ρ0'[j]? := fun j => by
    rw [ht]
    by_cases hj : j < σ.length
    · have hj' := List.getElem?_eq_getElem hj
      have hlt := hσlt j _ hj'
      rw [rnI_get hj', List.getElem?_append_left (by omega), List.getElem?_append_left (by omega), ← hρg j _ hj']
    · obtain ⟨k, rfl⟩ : ∃ k, j = σ.length + k := ⟨j - σ.length, by omega⟩
      rw [rnI_new, List.getElem?_append_right (by omega), List.getElem?_append_right (by omega), hρN, hρl]
      congr 1; omega
  -- an entry of the whole is one of the part's, or one that was
  have hcase : ∀ (i : Nat) (f : Ent), G[i]? = some f → (∃ j e, H0'[j]? = some e ∧ i = rnI σ N j ∧ f = rnE σ N e) ∨ (i < N ∧ i ∉ σ ∧ H[i]? = some f) := fun i f hf => by
    by_cases hi : i < N
    · by_cases him : i ∈ σ
      · obtain ⟨j, hj⟩ := List.getElem?_of_mem him
        have hjl : j < H0'.length := by have := (List.getElem?_eq_some_iff.1 hj).1; omega
        have he := List.getElem?_eq_getElem hjl
        have h1 := hGj j _ he
        rw [rnI_get hj] at h1
        exact .inl ⟨j, _, he, (rnI_get hj).symm, Option.some.inj (hf.symm.trans h1)⟩
      · exact .inr ⟨hi, him, (hGi i hi him) ▸ hf⟩
    · have hil : i < G.length := (List.getElem?_eq_some_iff.1 hf).1
      have hjl : σ.length + (i - N) < H0'.length := by omega
      have he := List.getElem?_eq_getElem hjl
      have h1 := hGj _ _ he
      have hi2 : rnI σ N (σ.length + (i - N)) = i := by rw [rnI_new]; omega
      rw [hi2] at h1
      exact .inl ⟨_, _, he, hi2.symm, Option.some.inj (hf.symm.trans h1)⟩
  have houter : ∀ (i : Nat) (f : Ent) (b : Nat), i < N → i ∉ σ → H[i]? = some f → entB (ρ ++ t) i f = some b → entB ρ i f = some b ∧ b < w.heap.size ∧ ¬ mb ρ0 H0 b := fun i f b hi hni hf hfb => by
    rw [entB_pre _ (by omega)] at hfb
    refine ⟨hfb, hs.blk_lt hf hfb, fun hm => ?_⟩
    obtain ⟨s, hsσ, e', he', heb⟩ := hmb0 b hm
    exact hni (hs.inj i s f e' b hf he' hfb heb ▸ hsσ)
  have hnS : ∀ b, S b → b < w.heap.size ∧ ¬ mb ρ0 H0 b := fun b hb => ⟨hs.low b hb, fun hm => hsat0.out b hm hb⟩
  have hmbG : ∀ b, mb (ρ ++ t) G b → mb ρ H b ∨ w.heap.size ≤ b := fun b ⟨i, f, hf, hfb⟩ => by
    rcases hcase i f hf with ⟨j, e, he, rfl, rfl⟩ | ⟨hi, hni, hf'⟩
    · rw [rnE_blk hre'] at hfb
      rcases hev.own b ⟨j, e, he, hfb⟩ with h1 | h1
      · obtain ⟨s, _, e', he', heb⟩ := hmb0 b h1
        exact .inl ⟨s, e', he', heb⟩
      · exact .inr h1
    · exact .inl ⟨i, f, hf', (houter i f b hi hni hf' hfb).1⟩
  refine ⟨ρ ++ t, fun b => S b ∨ S' b, G, rnO σ N out, ⟨?_, fun i f hf => ?_, fun i j f g b hf hg hfb hgb => ?_, fun b hb hSb => ?_, fun b hb => ?_⟩,
    ⟨⟨t, rfl⟩, hev.os, hev.tape, hev.output, hev.size, fun b hb hn => hev.keep b hb fun hm => ?_, fun b hb => ?_, hmbG⟩, ?_, hG⟩
  · rw [List.length_append, hρN, hGl]; omega
  · rcases hcase i f hf with ⟨j, e, he, rfl, rfl⟩ | ⟨hi, hni, hf'⟩
    · exact ((rnE_ok hre' S' w' j e).2 (hs'.ent j e he)).grow fun b hb => .inr hb
    · refine ((hs.ent i f hf').move t (fun b hb => ?_) fun b hb => ?_).grow fun b hb => .inl hb
      · have := houter i f b hi hni hf' (by rw [entB_pre _ (by omega)]; exact hb)
        exact hev.keep b this.2.1 this.2.2
      · exact hev.keep b (hnS b hb).1 (hnS b hb).2
  · rcases hcase i f hf with ⟨i', e, he, rfl, rfl⟩ | ⟨hi, hni, hf'⟩ <;> rcases hcase j g hg with ⟨j', e', he', rfl, rfl⟩ | ⟨hj, hnj, hg'⟩
    · rw [rnE_blk hre'] at hfb hgb
      rw [hs'.inj i' j' e e' b he he' hfb hgb]
    · rw [rnE_blk hre'] at hfb
      have := houter j g b hj hnj hg' hgb
      rcases hev.own b ⟨i', e, he, hfb⟩ with h1 | h1
      · exact absurd h1 this.2.2
      · omega
    · rw [rnE_blk hre'] at hgb
      have := houter i f b hi hni hf' hfb
      rcases hev.own b ⟨j', e', he', hgb⟩ with h1 | h1
      · exact absurd h1 this.2.2
      · omega
    · exact hs.inj i j f g b hf' hg' (houter i f b hi hni hf' hfb).1 (houter j g b hj hnj hg' hgb).1
  · obtain ⟨i, f, hf, hfb⟩ := hb
    rcases hcase i f hf with ⟨j, e, he, rfl, rfl⟩ | ⟨hi, hni, hf'⟩
    · rw [rnE_blk hre'] at hfb
      rcases hSb with hSb | hSb
      · rcases hev.own b ⟨j, e, he, hfb⟩ with h1 | h1
        · exact (hnS b hSb).2 h1
        · have := (hnS b hSb).1; omega
      · exact hs'.out b ⟨j, e, he, hfb⟩ hSb
    · have h1 := houter i f b hi hni hf' hfb
      rcases hSb with hSb | hSb
      · exact hs.out b ⟨i, f, hf', h1.1⟩ hSb
      · rcases hev.imm b hSb with h2 | h2 | h2
        · exact hs.out b ⟨i, f, hf', h1.1⟩ h2
        · exact h1.2.2 h2
        · omega
  · rcases hb with hb | hb
    · exact Nat.lt_of_lt_of_le (hs.low b hb) hev.size
    · exact hs'.low b hb
  · obtain ⟨s, _, e', he', heb⟩ := hmb0 b hm
    exact hn ⟨s, e', he', heb⟩
  · rcases hb with hb | hb
    · exact .inl hb
    · rcases hev.imm b hb with h1 | h1 | h1
      · exact .inl h1
      · obtain ⟨s, _, e', he', heb⟩ := hmb0 b h1
        exact .inr (.inl ⟨s, e', he', heb⟩)
      · exact .inr (.inr h1)
  · cases out with
    | val a => obtain ⟨v, he, hv⟩ := hout; exact ⟨v, he, (rnA_rel hre' a v).2 hv⟩
    | vals l => obtain ⟨xs, he, hv⟩ := hout; exact ⟨xs, he, (rnS_rel hre' l xs).2 hv⟩
    | pan c => exact hout
end Go.AX

/-
  AX, seventeenth text: contracts that were proved of the model's calls, brought in.
-/
namespace Go.AX
open Go.RowKit

/-- A call over plain values that writes nothing that was there. -/
theorem SpecH.rawP {P : Program} {f : FuncId} {xs : List Value} {H : List Ent} {K : Out → List Ent → Prop} {R : Value → Prop} (ok : CallOk P f)
    (h : ∀ w, Facts H w → Calls P f xs.toArray w fun e w' => ∃ r, e = .returned r ∧ R r ∧ Below w.heap.size w w') (hk : ∀ r, R r → K (.val (.c (.v r))) H) : SpecH P f (pvs xs) H K := by
  refine ⟨ok, fun ρ S w vs hs hr => ?_⟩
  obtain rfl := RelS_pvs hr
  refine (h w hs.facts).mono fun e w' ⟨r, he, hR, bel⟩ => ?_
  exact ⟨ρ, S, H, .val (.c (.v r)), hs.below bel, by simpa using below_ev (S := S) (S' := S) (ρ := ρ) (H := H) (H' := H) [] bel (fun b hb => .inl hb) (fun b hb => by simpa using hb), ⟨r, he, rfl⟩, hk r hR⟩

theorem callOk {P : Program} {f : FuncId} {fn : Func} (hf : P.funcs[f]? = some fn) (hn : (fn.name == "runtime.NumGoroutine") = false) (hb : fn.body.isSome = true) : CallOk P f := ⟨fn, hf, hn, hb⟩

/-- One value under a fact; nothing turns. -/
theorem factC {P : Program} (hm : P.follows .mixedOrders = true) {f : FuncId} {fn : Func} {c : Code} (hf : P.funcs[f]? = some fn) (hn : (fn.name == "runtime.NumGoroutine") = false) (hb : fn.body = some c)
    {xs : List Value} (hl : Nat.ble (pvs xs).length fn.ntmps = true) {F : World → Prop} {r : Value} (h : initK fn.ntmps (pvs xs) fun s => exec P c s [.fact F] (endK P fn.results.toList fun out _ => out = .val (.c (.v r)))) (H : List Ent) (hF : ∀ w, Facts H w → F w) : SpecH P f (pvs xs) H (Ret r H) :=
  SpecF.call0 (R := fun v _ => v = r) (specF_of ((spec_of_exec hm hf hn hb hl h).mono fun out H' ho => by subst ho; exact fin_v rfl)) hF fun v G hv => by subst hv; exact ⟨rfl, rfl⟩
theorem okCs_vs (n : Nat) : ∀ xs : List Value, okCs n (vs xs)
  | [] => trivial
  | _ :: xs => ⟨trivial, okCs_vs n xs⟩
theorem brdF {b : Bool} {A B : Prop} (h : b = false) (hB : B) : brd b A B := by subst h; exact hB
theorem av_bool {a b : Bool} (h : a = b) : AV.c (.v (.bool a)) = AV.c (.v (.bool b)) := by rw [h]
end Go.AX

/-
  AX, thirteenth text: from a contract to the row of a law.
-/
namespace Go.AX
open Go.ChangeShapes Go.WideShapes Go.ChangeAt Go.RowKit

section
variable {H : Type} {enc : TypeId × Value → H} {P : Program}

theorem trodAll_len {w : World} {base : Nat} {sp : Nat → Bool} {held : Bool} : ∀ {ts : List TypeId} {vs : List Value} {ds : List (DataW H)} {ps : List MemPlace}, DataW.TrodAll enc P w base sp held ts vs ds ps → ds.length = ts.length ∧ vs.length = ts.length
  | [], [], [], _, _ => ⟨rfl, rfl⟩
  | t :: ts, v :: vs, d :: ds, _, ⟨_, _, _, h, _⟩ => by have := trodAll_len h; simp [this]
  | [], _ :: _, _, _, h => h.elim
  | [], [], _ :: _, _, h => h.elim
  | _ :: _, [], _, _, h => h.elim
  | _ :: _, _ :: _, [], _, h => h.elim

/-- All that was read ahead of the call reads behind it as it did. -/
theorem trodAll_keep (hl : laidOutB P = true) {W W' : World} (hb : Below W.heap.size W W') : ∀ {ts : List TypeId} {vs : List Value} {ds : List (DataW H)} {ps : List MemPlace},
    (ts.all fun t => P.readableRec t && decide (t < P.types.size)) = true → DataW.TrodAll enc P W 0 (fun _ => true) true ts vs ds ps → DataW.TrodAll enc P W' 0 (fun b => decide (b < W.heap.size)) true ts vs ds ps
  | [], [], [], _, _, h => h
  | t :: ts, v :: vs, d :: ds, _, hp, ⟨p, q, h1, h2, e⟩ => by
    simp only [List.all_cons, Bool.and_eq_true, decide_eq_true_eq] at hp
    have lt : ∀ x ∈ p, x.block < W.heap.size := by obtain ⟨m, hm⟩ := h1; exact DataW.trod_lt m _ _ _ hm
    exact ⟨p, q, Below.trod hl hp.1.1 hp.1.2 h1 hb lt, trodAll_keep hl hb (by simpa using hp.2) h2, e⟩
  | [], _ :: _, _, _, _, h => h.elim
  | [], [], _ :: _, _, _, h => h.elim
  | _ :: _, [], _, _, _, h => h.elim
  | _ :: _, _ :: _, [], _, _, h => h.elim

/-- What a law's walk has to show: true, and nothing that was there has turned. -/
def Walk (P : Program) (f : FuncId) (args : Array Value) (W : World) : Prop :=
  Calls P f args W fun e W' => e = .returned (.bool true) ∧ Below W.heap.size W W'

/-- What is known of a law's arguments. -/
structure Known (enc : TypeId × Value → H) (P : Program) (fn : Func) (W : World) (base : Nat) (args : Array Value) (ds : List (DataW H)) (p : List MemPlace) : Prop where
  val : ∀ (j : Nat) t v, fn.params[j]? = some t → args[j]? = some v → Value.okWide P W .any base t v
  trod : DataW.TrodAll enc P W 0 (fun _ => true) true fn.params.toList args.toList ds p
  weights : (DataW.weightsEach P fn.params.toList ds).all (· ≤ reachBytes) = true
  shaped : W.ShapedOpen P

end

end Go.AX
namespace Go.AX
theorem arr2 {α : Type} {a : Array α} (h : a.toList.length = 2) : ∃ x y, a = #[x, y] := by
  match a, h with
  | ⟨[x, y]⟩, _ => exact ⟨x, y, rfl⟩
end Go.AX

/-
  AX, eighteenth text: a law whose arguments are slices of numbers or of strings.
-/
namespace Go.AX
open Go.ChangeShapes Go.WideShapes Go.ChangeAt Go.RowKit

theorem cell?_keep {w w' : World} {a : Addr} {x : Value} (h : w.cell? a = some x) (hb : w'.heap[a.block]? = w.heap[a.block]?) : w'.cell? a = some x := by
  simp only [World.cell?] at h ⊢
  rw [hb]; exact h
theorem cell?_lt {w : World} {a : Addr} {x : Value} (h : w.cell? a = some x) : a.block < w.heap.size := by
  simp only [World.cell?] at h
  rcases hc : w.heap[a.block]? with _ | o
  · rw [hc] at h; cases h
  · exact (Array.getElem?_eq_some_iff.1 hc).1
theorem SlAt.imm {w : World} {a : Option Addr} {k : Nat} {xs : List Value} (h : SlAt a k xs w) : Imm (fun b => b < w.heap.size) w (SlAt a k xs) := by
  refine ⟨h, fun w' hw => ⟨h.1, h.2.1, fun j hj => ?_⟩⟩
  have h1 := h.2.2 j hj
  have hj' : j < xs.length := by rw [h.1]; exact hj
  rw [List.getElem?_eq_getElem hj'] at h1 ⊢
  exact cell?_keep h1 (hw _ (cell?_lt h1))

/-- A law whose arguments are plain values, under facts of the memory that it finds. -/
theorem walkH {P : Program} {f : FuncId} {vs : List Value} {w : World} (H : List Ent) (hF : ∀ e ∈ H, ∃ F, e = .fact F ∧ Imm (fun b => b < w.heap.size) w F)
    (h : SpecH P f (pvs vs) H (Ret (.bool true) H)) : Walk P f vs.toArray w := by
  have hn : ∀ (ρ : List Loc) (i : Nat) (e : Ent) (b : Nat), H[i]? = some e → entB ρ i e = some b → False := fun ρ i e b he hb => by
    obtain ⟨F, rfl, _⟩ := hF e (List.mem_of_getElem? he)
    cases hb
  have hm : ∀ (ρ : List Loc) b, ¬ mb ρ H b := fun ρ b ⟨i, e, he, hb⟩ => hn ρ i e b he hb
  have hs : Sat (H.map fun _ => ⟨0, 0⟩) (fun b => b < w.heap.size) H w := by
    refine ⟨by simp, fun i e he => ?_, fun i j e f b he hf hb _ => (hn _ i e b he hb).elim, fun b hb => (hm _ b hb).elim, fun b hb => hb⟩
    obtain ⟨F, rfl, hi⟩ := hF e (List.mem_of_getElem? he)
    exact hi
  refine (h.run _ _ w vs hs (pvs_rel _ vs)).mono fun e w' ⟨ρ', S', H', out, hs', hev, hout, hx, hH⟩ => ?_
  subst hx
  obtain ⟨v, rfl, hv⟩ := hout
  have : v = .bool true := hv
  subst this
  exact ⟨rfl, hev.os, hev.tape, hev.output, hev.size, fun b hb => hev.keep b hb (hm _ b)⟩

section
variable {H : Type} {enc : TypeId × Value → H} {P : Program} {w : World}

/-- A slice of cells that fits in the reach. -/
def SlOk (w : World) (a : Option Addr) (n : Nat) (xs : List Value) : Prop := n ≤ 200000000000000 ∧ (a.isSome = true ∨ n = 0) ∧ Imm (fun b => b < w.heap.size) w (SlAt a n xs)

theorem known_strs {t e : TypeId} {v : Value} {d : DataW H} {ps : List MemPlace} {ts : List TypeId} {ds : List (DataW H)} {j : Nat} (ht : P.underlying t = some (.slice e)) (he : P.underlying e = some .string) (hc : P.cellsOf e = 1) (hb : 1 ≤ P.bytesOf e)
    (hsz : (DataW.weightsEach P ts ds).all (· ≤ reachBytes) = true) (hj : ts[j]? = some t) (hd : ds[j]? = some d)
    {r : Reach} {b : Nat} (hv : Value.okWide P w r b t v) (h : DataW.Trod enc P w 0 (fun _ => true) true t v d ps) : ∃ (a : Option Addr) (l : List ByteArray) (cap : Nat), v = .slice a l.length cap ∧ SlOk w a l.length (l.map Value.string) ∧ l.length ≤ cap ∧ ∀ s ∈ l, s.size ≤ maxLen := by
  obtain ⟨a, n, c, rfl⟩ := okWide_slice ht hv
  obtain ⟨fuel, hf⟩ := h
  rcases open_strings ht he hc hf with ⟨h1, h2⟩ | ⟨a, len, cap, zs, h1, _, hl, hm, hlen, h2, h3, h4⟩
  · refine ⟨none, [], 0, ?_, ⟨by simp, .inr rfl, SlAt.nil.imm⟩, by simp, by simp⟩
    simpa [Value.cells] using h1
  · simp at hlen
    simp only [Prod.mk.injEq] at h2
    rw [h2.1] at hd
    have hs := sized_slice hsz hj hd ht
    have hr : reachBytes < 200000000000000 := by decide
    have hlz : (zs.take len).length = len := by rw [List.length_take]; omega
    have hb' : len ≤ reachBytes := by
      have h5 : (strs (H := H) (zs.take len)).length = len := by simp [strs]; omega
      rw [h5] at hs
      exact Nat.le_trans (Nat.le_trans (Nat.le_add_right _ _) (Nat.le_mul_of_pos_right _ hb)) hs
    refine ⟨some a, zs.take len, cap, ?_, ⟨by rw [hlz]; omega, .inl rfl, ?_⟩, by rw [hlz]; exact hl, fun n hn => h4 n (List.mem_of_mem_take hn)⟩
    · rw [hlz]
      simpa [Value.cells] using h1
    · refine SlAt.imm ⟨by simp, fun _ => rfl, fun j hj => ?_⟩
      rw [hlz] at hj
      have := h3 j (by omega)
      show w.cell? (a.add j) = _
      rw [this, List.getElem?_map, List.getElem?_take_of_lt hj, List.getElem?_eq_getElem (by omega)]
      simp [List.getD, List.getElem?_eq_getElem (show j < zs.length by omega)]

theorem known_string {t : TypeId} {v : Value} {d : DataW H} {ps : List MemPlace} {ts : List TypeId} {ds : List (DataW H)} {j : Nat} (ht : P.underlying t = some .string)
    (hsz : (DataW.weightsEach P ts ds).all (· ≤ reachBytes) = true) (hj : ts[j]? = some t) (hd : ds[j]? = some d)
    {r : Reach} {b : Nat} (hv : Value.okWide P w r b t v) (h : DataW.Trod enc P w 0 (fun _ => true) true t v d ps) : ∃ s : ByteArray, v = .string s ∧ s.size ≤ 200000000000000 := by
  obtain ⟨s, rfl⟩ := okWide_string ht hv
  obtain ⟨fuel, hf⟩ := h
  obtain ⟨s, h1, h2, hw⟩ := DataW.trod_string ht hf
  simp only [Prod.mk.injEq] at h2
  rw [h2.1] at hd
  have hs := sized_string hsz hj hd
  have hr : reachBytes < 200000000000000 := by decide
  refine ⟨s, ?_, ?_⟩
  · simpa [Value.cells] using h1
  · have : s.size = s.data.toList.length := rfl
    omega
theorem trodAll_get {base : Nat} {sp : Nat → Bool} {held : Bool} : ∀ {ts : List TypeId} {vs : List Value} {ds : List (DataW H)} {ps : List MemPlace}, DataW.TrodAll enc P w base sp held ts vs ds ps →
    ∀ (j : Nat) t v, ts[j]? = some t → vs[j]? = some v → ∃ d p, ds[j]? = some d ∧ DataW.Trod enc P w base sp held t v d p
  | [], [], [], _, _, j, t, v, h, _ => by simp at h
  | t :: ts, v :: vs, d :: ds, _, ⟨p, _, h1, h, _⟩, 0, t', v', ht, hv => by
    simp only [List.getElem?_cons_zero, Option.some.injEq] at ht hv
    subst ht; subst hv
    exact ⟨d, p, rfl, h1⟩
  | t :: ts, v :: vs, d :: ds, _, ⟨_, _, _, h, _⟩, j + 1, t', v', ht, hv => by
    simp only [List.getElem?_cons_succ] at ht hv ⊢
    exact trodAll_get h j t' v' ht hv
  | [], _ :: _, _, _, h, _, _, _, _, _ => h.elim
  | [], [], _ :: _, _, h, _, _, _, _, _ => h.elim
  | _ :: _, [], _, _, h, _, _, _, _, _ => h.elim
  | _ :: _, _ :: _, [], _, h, _, _, _, _, _ => h.elim

variable {fn : Func} {base : Nat} {args : Array Value} {ds : List (DataW H)} {p : List MemPlace}
/-- What is known of a law's arguments, its memory's shape aside. -/
structure Known0 (enc : TypeId × Value → H) (P : Program) (fn : Func) (W : World) (base : Nat) (args : Array Value) (ds : List (DataW H)) (p : List MemPlace) : Prop where
  val : ∀ (j : Nat) t v, fn.params[j]? = some t → args[j]? = some v → Value.okWide P W .any base t v
  trod : DataW.TrodAll enc P W 0 (fun _ => true) true fn.params.toList args.toList ds p
  weights : (DataW.weightsEach P fn.params.toList ds).all (· ≤ reachBytes) = true
theorem Known.low (k : Known enc P fn w base args ds p) : Known0 enc P fn w base args ds p := ⟨k.val, k.trod, k.weights⟩
theorem Known0.int (k : Known0 enc P fn w base args ds p) (j : Nat) {t : TypeId} {v : Value} {i : IntKind} (hj : fn.params[j]? = some t) (hv : args[j]? = some v) (ht : P.underlying t = some (.int i)) : ∃ n, v = .int i n := okWide_int ht (k.val j t v hj hv)
theorem Known0.strs (k : Known0 enc P fn w base args ds p) (j : Nat) {t e : TypeId} {v : Value} (hj : fn.params[j]? = some t) (hv : args[j]? = some v) (ht : P.underlying t = some (.slice e)) (he : P.underlying e = some .string) (hc : P.cellsOf e = 1) (hb : 1 ≤ P.bytesOf e) :
    ∃ (a : Option Addr) (l : List ByteArray) (cap : Nat), v = .slice a l.length cap ∧ SlOk w a l.length (l.map Value.string) ∧ l.length ≤ cap ∧ ∀ s ∈ l, s.size ≤ maxLen := by
  obtain ⟨d, q, hd, h⟩ := trodAll_get k.trod j t v (by simpa using hj) (by simpa using hv)
  exact known_strs ht he hc hb k.weights (by simpa using hj) hd (k.val j t v hj hv) h
theorem Known0.string (k : Known0 enc P fn w base args ds p) (j : Nat) {t : TypeId} {v : Value} (hj : fn.params[j]? = some t) (hv : args[j]? = some v) (ht : P.underlying t = some .string) :
    ∃ s : ByteArray, v = .string s ∧ s.size ≤ 200000000000000 := by
  obtain ⟨d, q, hd, h⟩ := trodAll_get k.trod j t v (by simpa using hj) (by simpa using hv)
  exact known_string ht k.weights (by simpa using hj) hd (k.val j t v hj hv) h
end
end Go.AX

/-
  AX, nineteenth text: from a contract to the row of a law that lists package-level variables.
-/
namespace Go.AX
open Go.ChangeShapes Go.WideShapes Go.ChangeAt Go.RowKit

section
variable {H : Type} {enc : TypeId × Value → H}

end
end Go.AX

/-
  AX, twentieth text: parts of strings, bytes as a string, stores into a slice that grows.
-/
namespace Go.AX
open Go.RowKit

theorem ReadW.val {P : Program} {o : Oper} {s : List AV} {H : List Ent} {K : AV → Prop} (x : Value) (hsel : ∀ cs b, o.op ≠ .select cs b) (hp : allPlain s o.op.operands.toList = true)
    (ok : ∀ w, Facts H w → (execOp (plainEv s) o).run P w = .ok (.value x) w) (hk : K (.c (.v x))) : ReadW P o s H K :=
  ⟨_, hk, fun ρ S w a hs hr => ⟨x, by rw [execOp_congr o hsel (ρ' := plainEv s) fun x hx => allPlain_eval hr _ hp x (Array.mem_toList_iff.2 hx)]; exact ok w hs.facts, rfl⟩⟩

theorem plainEv_v {s : List AV} {x : Operand} {v : Value} (h : opv s x = .c (.v v)) : plainEv s x = v := by simp [plainEv, h]
theorem run_op_slice {P : Program} {o : Oper} {ev : Operand → Value} {t : TypeId} {x : Operand} {lo hi mx : Option Operand} {r : Value} {w : World} (ho : o.op = .slice t x lo hi mx)
    (h : (Instr.sliceAt t (ev x) (lo.map ev) (hi.map ev) (mx.map ev)).run P w = .ok r w) : (execOp ev o).run P w = .ok (.value r) w := by
  unfold execOp; simp only [ho, Sem.run_bind, h, Result.andThen_ok, Sem.run_pure]
theorem run_slice_string_lh {P : Program} (w : World) (t : TypeId) (s : ByteArray) (ht : P.underlying t = some .string) (kl kh : IntKind) (l h : Int) (h0 : 0 ≤ l) (h1 : l ≤ h) (h2 : h ≤ s.size) :
    (Instr.slice t (.string s) (some (.int kl l)) (some (.int kh h)) none).run P w = .ok (.string (s.extract l.toNat h.toNat)) w := by
  have eh : (h.toNat : Int) = h := Int.toNat_of_nonneg (by omega)
  simp [Instr.slice, run_underlying ht, Instr.sliceBounds, run_sliceBound, *, (by omega : 0 ≤ h)]

section
variable {P : Program} {o : Oper} {s : List AV} {H : List Ent} {K : AV → Prop} {t : TypeId} {x y z : Operand} {b : ByteArray} {k k' : IntKind} {i j : Int}
/-- b[i:j] -/
theorem ReadW.str_lh (ho : o.op = .slice t x (some y) (some z) none) (hu : P.underlying t = some .string) (hx : opv s x = .c (.v (.string b))) (hy : opv s y = .c (.v (.int k i))) (hz : opv s z = .c (.v (.int k' j)))
    (h : 0 ≤ i ∧ i ≤ j ∧ j ≤ b.size) (hk : K (.c (.v (.string (b.extract i.toNat j.toNat))))) : ReadW P o s H K :=
  ReadW.val _ (fun cs b e => by rw [ho] at e; cases e) (by rw [ho]; show allPlain s [x, y, z] = true; simp [allPlain, hx, hy, hz])
    (fun w _ => run_op_slice ho (by simp only [Option.map, plainEv_v hx, plainEv_v hy, plainEv_v hz]; rw [run_sliceAt_string w t _ _ _ _ hu, run_slice_string_lh w t b hu k k' i j h.1 h.2.1 h.2.2])) hk
/-- b[i:] -/
theorem ReadW.str_l (ho : o.op = .slice t x (some y) none none) (hu : P.underlying t = some .string) (hx : opv s x = .c (.v (.string b))) (hy : opv s y = .c (.v (.int k i)))
    (h : 0 ≤ i ∧ i ≤ b.size) (hk : K (.c (.v (.string (b.extract i.toNat b.size))))) : ReadW P o s H K :=
  ReadW.val _ (fun cs b e => by rw [ho] at e; cases e) (by rw [ho]; show allPlain s [x, y] = true; simp [allPlain, hx, hy])
    (fun w _ => run_op_slice ho (by simp only [Option.map, plainEv_v hx, plainEv_v hy]; rw [run_sliceAt_string w t _ _ _ _ hu, run_slice_string_l w t b hu k i h.1 h.2])) hk
/-- b[:j] -/
theorem ReadW.str_h (ho : o.op = .slice t x none (some z) none) (hu : P.underlying t = some .string) (hx : opv s x = .c (.v (.string b))) (hz : opv s z = .c (.v (.int k j)))
    (h : 0 ≤ j ∧ j ≤ b.size) (hk : K (.c (.v (.string (b.extract 0 j.toNat))))) : ReadW P o s H K :=
  ReadW.val _ (fun cs b e => by rw [ho] at e; cases e) (by rw [ho]; show allPlain s [x, z] = true; simp [allPlain, hx, hz])
    (fun w _ => run_op_slice ho (by simp only [Option.map, plainEv_v hx, plainEv_v hz]; rw [run_sliceAt_string w t _ _ _ _ hu, run_slice_string_h w t b hu k j h.1 h.2])) hk
end

/-- The bytes as values. -/
def u8s (l : List UInt8) : List Value := l.map fun b => .int .u8 (b.toNat : Int)
/-- string(a) of bytes. -/
theorem ReadW.bytes {P : Program} {o : Oper} {s : List AV} {H : List Ent} {K : AV → Prop} {src dst e : TypeId} {x : Operand} {a : Option Addr} {cap n : Nat} (l : List UInt8) (hn : l.length = n) (ho : o.op = .convert src dst x) (hs : P.underlying src = some (.slice e))
    (he : P.underlying e = some (.int .u8)) (hd : P.underlying dst = some .string) (hx : opv s x = .c (.v (.slice a n cap))) (hF : ∀ w, Facts H w → SlAt a n (u8s l) w) (hk : K (.c (.v (.string ⟨l.toArray⟩)))) : ReadW P o s H K := by
  subst hn
  exact ReadW.val _ (fun cs b e => by rw [ho] at e; cases e) (by rw [ho]; show allPlain s [x] = true; simp [allPlain, hx])
    (fun w hw => by
      unfold execOp
      have hS := hF w hw
      have hrun : (convert src dst (.slice a l.length cap)).run P w = .ok (.string ⟨l.toArray⟩) w := by
        cases a with
        | some a =>
          refine run_convert_bytes_back w src dst e a cap l hs he hd ?_
          intro j hj
          have := hS.2.2 j hj
          simpa [u8s, hj] using this
        | none =>
          have hl : l = [] := by
            cases l with
            | nil => rfl
            | cons c l => exact absurd (hS.2.1 (by simp)) (by simp)
          subst hl
          have := run_convert_bytes_string w src dst e none 0 cap hs he hd
          simp [this, Conv.bytesToString]
          rfl
      simp only [ho, plainEv_v hx, Sem.run_bind, hrun, Result.andThen_ok, Sem.run_pure]) hk

/-- A store into a slice that grows. -/
theorem EffW.app {P : Program} {o : Oper} {s : List AV} {H : List Ent} {K : AV → List Ent → Prop} {Ty T : TypeId} {x y : Operand} {sz n cap b q i : Nat} {xs ys : List Value} {inf : TypeInfo} (ho : o.op = .store Ty x y)
    (hx : opv s x = .c (.v (.pointer (some ⟨b, q, none⟩)))) (hi : nthE H i = some (.app T sz xs (some ⟨b, 0, none⟩) n cap)) (hy : avCells (opv s y) = some (vs ys)) (hone : oneCs (vs ys) = true) (hinf : P.info? Ty = some inf) (hlen : ys.length = inf.size)
    (hq : q + ys.length ≤ n * sz) (hk : setEK H i (.app T sz (xs.take q ++ ys ++ xs.drop (q + ys.length)) (some ⟨b, 0, none⟩) n cap) fun H' => K (.c .any) H') : EffW P o s H K := by
  rw [nthE_eq] at hi
  obtain ⟨_, hk⟩ := setEK_spec hk
  refine Effs.w (fun ρ S w a hs hr => ?_) hk
  have hxr : a.eval x = .pointer (some ⟨b, q, none⟩) := by have := opv_rel hr x; rw [hx] at this; exact this
  have hyr := avCells_rel hy (opv_rel hr y)
  have hys : (a.eval y).cells.toList = ys := by
    have : ∀ (l : List Value) (m : List Value), RelL ρ (vs l) m → m = l := by
      intro l
      induction l with
      | nil => intro m h; cases m with
        | nil => rfl
        | cons _ _ => exact h.elim
      | cons v l ih => intro m h; cases m with
        | nil => exact h.elim
        | cons u m => rw [show u = v from h.1, ih m h.2]
    exact this _ _ hyr
  rcases hs.ent i _ hi with ⟨h0, _⟩ | ⟨b', hb', arr, fr, ⟨hb, hfr⟩, hxl, hnc, hcm, hasz, htk⟩
  · cases h0
  cases hb'
  have hnl : n * sz ≤ arr.size := by rw [hasz]; exact Nat.mul_le_mul_right _ hnc
  have hsz : (a.eval y).cells.size = inf.size := by rw [← hlen, ← hys]; simp
  have hfit : q + (a.eval y).cells.toList.length ≤ arr.size := by rw [hys]; omega
  have hrun := run_storeVar (P := P) hb hfr hinf hsz hfit (oneCs_rel hone hyr)
  obtain ⟨f1, f2, f3, f4, f5⟩ := setRow_facts w b (arr.toList.take q ++ (a.eval y).cells.toList ++ arr.toList.drop (q + (a.eval y).cells.toList.length)).toArray
  have hE : EntOk ρ S (w.setRow b (arr.toList.take q ++ (a.eval y).cells.toList ++ arr.toList.drop (q + (a.eval y).cells.toList.length)).toArray) i (.app T sz (xs.take q ++ ys ++ xs.drop (q + ys.length)) (some ⟨b, 0, none⟩) n cap) := by
    have e0 : (arr.toList.take q ++ (a.eval y).cells.toList ++ arr.toList.drop (q + (a.eval y).cells.toList.length)).toArray.size = arr.size := by rw [hys]; simp; omega
    refine .inr ⟨b, rfl, _, fr, ⟨setRow_heap w b arr _ T _ hb, by rw [e0]; exact hfr⟩, ?_, hnc, hcm, ?_, ?_⟩
    · simp; omega
    · rw [hys]; simp; omega
    · rw [hys]
      have e : (arr.toList.take q ++ ys ++ arr.toList.drop (q + ys.length)).toArray.toList.take (n * sz) = (arr.toList.take (n * sz)).take q ++ ys ++ (arr.toList.take (n * sz)).drop (q + ys.length) := by
        apply List.ext_getElem?
        intro j
        simp only [List.getElem?_take, List.getElem?_append, List.getElem?_drop, List.length_append, List.length_take, Array.length_toList]
        by_cases h1 : j < q
        · have : min q arr.size = q := by omega
          have h2 : min q (min (n * sz) arr.size) = q := by omega
          simp [this, h2, h1, show j < q + ys.length by omega, show j < n * sz by omega]
        · have : min q arr.size = q := by omega
          have h2 : min q (min (n * sz) arr.size) = q := by omega
          by_cases h3 : j < q + ys.length
          · simp [this, h2, h1, h3, show j < n * sz by omega]
          · simp only [this, h2, h1, h3, if_false]
            by_cases h4 : j < n * sz
            · simp [h4, show q + ys.length + (j - (q + ys.length)) = j by omega]
            · simp [h4]; omega
      rw [e, htk]
  have hS := hs.setG (e' := .app T sz (xs.take q ++ ys ++ xs.drop (q + ys.length)) (some ⟨b, 0, none⟩) n cap) hi rfl (Nat.le_of_eq f1.symm) (fun k _ hne => f2 k hne) f3 f4 f5 (fun c hc => .inl (Option.some.inj hc).symm) hE
  refine ⟨.skip, undef, ρ, _, ?_, .inr ⟨rfl, rfl⟩, hS.1, hS.2, trivial⟩
  unfold execOp
  simp only [ho, hxr, Instr.storeAt, Instr.sureAddr, Sem.run_bind, Sem.run_pure, Result.andThen_ok, hrun]
end Go.AX

/-
  The walk's own step, under a short name: the goal is walked on as far as nothing is to be decided.
-/
namespace Go.AX
structure WQ (q : Prop) : Prop where
  out : q
theorem wX {p q : Prop} (h : q) (e : WQ q → p := by intro hq; (((conv => whnf); (repeat ((first | refine BoxN.own ?_ | refine RwN.own ?_ | refine VrN.norm (wrap_i64 (by omega)) ?_ | refine VrN.keep ?_ | refine DrawN.calm (by decide +kernel) ?_ | refine Nd.mk (by decide +kernel) ?_ | refine Nd.mk (by omega) ?_ | (refine Nd.mk ?_ ?_; focus ((repeat' (first | exact trivial | exact wkE_refl _ | refine And.intro ?_ ?_)); done)) | refine RdN.intro _ rfl (by rfl) ?_); (conv => whnf))))); exact hq.out) : p := e ⟨h⟩
theorem wZ {p : Prop} (e : p := by ((conv => whnf); (repeat ((first | refine BoxN.own ?_ | refine RwN.own ?_ | refine VrN.norm (wrap_i64 (by omega)) ?_ | refine VrN.keep ?_ | refine DrawN.calm (by decide +kernel) ?_ | refine Nd.mk (by decide +kernel) ?_ | refine Nd.mk (by omega) ?_ | (refine Nd.mk ?_ ?_; focus ((repeat' (first | exact trivial | exact wkE_refl _ | refine And.intro ?_ ?_)); done)) | refine RdN.intro _ rfl (by rfl) ?_); (conv => whnf))))) : p := e
end Go.AX

/-
  AX, twenty-fourth text: from a contract to the row of a law that lists package-level variables, the world's shape kept.
-/
namespace Go.AX
open Go.ChangeShapes Go.WideShapes Go.ChangeAt Go.RowKit

section
variable {H : Type} {enc : TypeId × Value → H}

theorem handed_and_shaped {a : Assume} {C : Checked} {os : Os} {f : FuncId} {fn : Func} {s : ChangeSpec} {conds : List PathCond} {apart fresh handsOn again : Bool} {X : World → Array Value → Prop}
    (hX : ∀ (w w' : World) (args : Array Value), w.heap = w'.heap → X w args → X w' args)
    (own : ownKnob C.prog.godebug = none) (started : os.Started) (noInit : C.prog.inits.idxOf? f = none) (hfn : C.prog.funcs[f]? = some fn)
    (witness : ∃ (w : World) (tape : Tape) (i : Input), w.os = os ∧ (w.forCall tape i).Shaped C.prog ∧ i.vars = [] ∧ Input.okWide C.prog (w.forCall tape i) .any w.heap.size f i ∧
      ((s.pre enc C.prog fn conds apart (w.forCall tape i).memory i.args ∧ X (w.forCall tape i).memory i.args) ∧ sizedMet enc C.prog fn (OpenSpec.ofChange s) apart (w.forCall tape i).memory i.args) ∧ a.holds C.prog (lone (Frame.enter C.prog f i.args .normal) [] (w.forCall tape i)))
    (contract : ∀ (W : World) (base : Nat) (args : Array Value) (ds gs : List (DataW H)) (before : List MemPlace),
      (∀ (j : Nat) t v, fn.params[j]? = some t → args[j]? = some v → Value.okWide C.prog W .any base t v) →
      DataW.Whole enc C.prog fn.params.toList s.vars apart W args.toList ds gs before →
      conds.all (PathCond.test C.prog ⟨fn.params.toList, ds, s.plain.varTypes C.prog, gs⟩) = true →
      (DataW.weightsEach C.prog (fn.params.toList ++ s.plain.varTypes C.prog) (ds ++ gs)).all (· ≤ reachBytes) = true → X W args → W.ShapedOpen C.prog →
      Calls C.prog f args W fun e W' => ∃ v, e = .returned v ∧ s.post enc C.prog fn apart fresh handsOn again W args v W') :
    ReturnsInHanded a C os f .any (fun w args => (s.pre enc C.prog fn conds apart w args ∧ X w args) ∧ sizedMet enc C.prog fn (OpenSpec.ofChange s) apart w args) (s.post enc C.prog fn apart fresh handsOn again) := by
  refine returnsInHanded_of_calls own started noInit witness ?_
  intro w tape i _ hsh _ hok hpre _
  obtain ⟨_, _, _, fn', hfn', _, _, _, _, hval⟩ := hok
  have e : fn' = fn := Option.some.inj (hfn'.symm.trans hfn)
  subst e
  obtain ⟨⟨⟨ds, gs, before, hw, hc⟩, hx⟩, hz⟩ := hpre
  have hw' := DataW.Whole.of_heap (w' := w.forCall tape i) (by rfl) hw
  refine (contract (w.forCall tape i) w.heap.size i.args ds gs before hval hw' hc (hz.weights hw) (hX _ _ _ (by rfl) hx) hsh).mono fun e W' ⟨v, he, hp⟩ => ?_
  subst he
  exact ChangeSpec.post_blind hp

theorem liftS {C : Checked} {os : Os} {f : FuncId} {fn : Func} {s : ChangeSpec} {conds : List PathCond} {laid : List (String × DataW Unit)} (own : ownKnob C.prog.godebug = none) (started : os.Started) (noInit : C.prog.inits.idxOf? f = none)
    (hfn : C.prog.funcs[f]? = some fn)
    (witness : ∃ (w : World) (tape : Tape) (i : Input), w.os = os ∧ (w.forCall tape i).Shaped C.prog ∧ i.vars = [] ∧ Input.okWide C.prog (w.forCall tape i) .any w.heap.size f i ∧
      ((s.pre enc C.prog fn conds false (w.forCall tape i).memory i.args ∧ laidMetH C.prog laid (w.forCall tape i).memory) ∧ sizedMet enc C.prog fn (OpenSpec.ofChange s) false (w.forCall tape i).memory i.args) ∧ ({} : Assume).holds C.prog (lone (Frame.enter C.prog f i.args .normal) [] (w.forCall tape i)))
    (hlaid : laidOutB C.prog = true) (hvars : s.vars = []) {t : TypeId} (hres : fn.resultTypes = #[t]) (hbool : C.prog.underlying t = some .bool)
    (hpar : (fn.params.toList.all fun t => C.prog.readableRec t && decide (t < C.prog.types.size)) = true)
    (hspec : ∀ ds : List (DataW H), ds.length = fn.params.toList.length → s.fn H ds = { results := [.lit (.bool true)], args := ds })
    (walk : ∀ (W : World) (base : Nat) (args : Array Value) (ds : List (DataW H)) (p : List MemPlace), Known enc C.prog fn W base args ds p → laidMetH C.prog laid W → Walk C.prog f args W) :
    ReturnsInHanded {} C os f .any (fun w args => (s.pre enc C.prog fn conds false w args ∧ laidMetH C.prog laid w) ∧ sizedMet enc C.prog fn (OpenSpec.ofChange s) false w args) (s.post enc C.prog fn false true false false) := by
  refine handed_and_shaped (X := fun w _ => laidMetH C.prog laid w) (fun _ _ _ hh h => h.of_heap hh) own started noInit hfn witness ?_
  intro W base args ds gs before hval hW _ hwt hL hsh
  have hW' := hW
  obtain ⟨p, q, hA, hV, rfl, hfz, hnd⟩ := hW
  rw [hvars] at hV
  obtain ⟨rfl, rfl⟩ := trodVars_none hV
  have hvt : s.plain.varTypes C.prog = [] := by simp [DataSpec.varTypes, ChangeSpec.plain, hvars]
  rw [hvt, List.append_nil, List.append_nil] at hwt
  refine (walk W base args ds p ⟨hval, hA, hwt, hsh⟩ hL).mono fun e W' ⟨he, bel⟩ => ?_
  subst he
  have hs := hspec ds (trodAll_len hA).1
  refine ⟨_, rfl, ds, [], p ++ [], [], p, [], hW', ?_, ?_, ?_, bel.frame _, fun h => by cases h⟩
  · rw [List.append_nil, hs, hres]
    exact trodAll_mk1 (shut_bool hbool _)
  · rw [List.append_nil, hs]
    exact trodAll_keep hlaid bel hpar hA
  · rw [List.append_nil, hs, hvars]
    rfl
end
end Go.AX

/-
  AX, twenty-first text: bytes that grow by strings, package unsafe's strings, pointers turned to and fro, functions without a body, parts of slices, entries set ahead.
-/
namespace Go.AX

theorem strCells_u8 (b : ByteArray) : Lib.strCells b = u8s b.data.toList := rfl
theorem u8s_len (l : List UInt8) : (u8s l).length = l.length := by simp [u8s]

/-- Where a slice lies: nowhere yet, or at the head of a block. -/
def at0 (ob : Option Nat) : Option Addr := ob.map fun b => ⟨b, 0, none⟩

/-- A type of bytes. -/
def byteB (P : Program) (e : TypeId) : Bool := match P.info? e with
  | some i => (match i.zero with | some (.int .u8 n) => n == 0 | _ => false) && (Nat.beq i.size 1 && Nat.beq i.bytes 1)
  | none => false
theorem byteB_spec {P : Program} {e : TypeId} (h : byteB P e = true) : ∃ i, P.info? e = some i ∧ i.zero = some (.int .u8 0) ∧ i.size = 1 ∧ i.bytes = 1 := by
  unfold byteB at h
  split at h
  · rename_i i hi
    simp only [Bool.and_eq_true] at h
    obtain ⟨h1, h2, h3⟩ := h
    split at h1
    · rename_i n hz
      exact ⟨i, hi, by rw [hz, beq_iff_eq.1 h1], Nat.eq_of_beq_eq_true h2, Nat.eq_of_beq_eq_true h3⟩
    · cases h1
  · cases h
/-- A row of one's own, marked nowhere or behind its cells. -/
def OwnsNo (w : World) (e : TypeId) (v : Value) (n : Nat) (xs : List Value) : Prop :=
  xs.length = n ∧ ((v = .slice none 0 0 ∧ n = 0) ∨ ∃ g cap cur fr, v = .slice (some ⟨g, 0, none⟩) n cap ∧ (w.heap[g]? = some (.cells cur e fr) ∧ NoFr fr cur.size) ∧ n ≤ cap ∧ cap ≤ maxLen ∧ cur.size = cap ∧ cur.toList.take n = xs)
theorem run_append_room_str {P : Program} (w : World) (t u ty e : TypeId) (i : TypeInfo) (ht : P.underlying t = some (.slice e)) (hu : P.underlying u = some .string) (hi : P.info? e = some i) (hs1 : i.size = 1)
    (g sLen sCap : Nat) (cur : Array Value) (fr : Nat × Nat) (hg : w.heap[g]? = some (.cells cur e fr)) (hfr : NoFr fr cur.size) (s : ByteArray) (hroom : sLen + s.size ≤ sCap) (hfit : sLen + s.size ≤ cur.size) :
    (Builtin.append_ #[t, u] ty #[.slice (some ⟨g, 0, none⟩) sLen sCap, .string s]).run P w =
      .ok (.slice (some ⟨g, 0, none⟩) (sLen + s.size) sCap) (w.setRow g (cur.toList.take sLen ++ Lib.strCells s ++ cur.toList.drop (sLen + s.size)).toArray) := by
  have hf := Lib.run_firstCells_string (P := P) w 1 s
  have hst := run_storeCells_no P g sLen e fr (Lib.strCells s) 0 cur w hg hfr (by simpa [Lib.strCells_length] using hfit) (Lib.strCells_oneCell s)
  simp only [Nat.add_zero, Lib.strCells_length] at hst
  simp [Builtin.append_, run_underlying ht, run_underlying hu, sizeOf, typeInfo, hi, hs1, Builtin.lenOf, hroom, hf, Addr.add_lit, hst]
theorem append_str {P : Program} (w : World) (t u ty e : TypeId) (inf : TypeInfo) (ht : P.underlying t = some (.slice e)) (hu : P.underlying u = some .string) (hi : P.info? e = some inf) (hz : inf.zero = some (.int .u8 0)) (hs1 : inf.size = 1) (hby : inf.bytes = 1)
    {ρ : List Loc} {S : Nat → Prop} {i : Nat} {xs : List Value} {a : Option Addr} {n cap : Nat} (h : EntOk ρ S w i (.app e 1 xs a n cap)) (s : ByteArray) (room : n + s.size ≤ 140737488355328) :
    ∃ v' w', (Builtin.append_ #[t, u] ty #[.slice a n cap, .string s]).run P w = .ok v' w' ∧ OwnsNo w' e v' (n + s.size) (xs ++ Lib.strCells s) ∧ w.grownBy w' (a.map Addr.block) ∧ (v' = .slice none 0 0 ↔ Value.slice a n cap = .slice none 0 0 ∧ s.size = 0) := by
  rcases h with ⟨rfl, rfl, rfl, rfl⟩ | ⟨g, rfl, arr, fr, ⟨hb, hfr⟩, hxl, hnc, hcm, hasz, htk⟩
  · obtain ⟨v', w', h1, h2, h3, h4⟩ := Lib.run_append_own_string (P := P) w 0 t u ty e inf ht hu hi hz hs1 hby (.slice none 0 0) 0 [] (World.ownsRow_nil w 0 e 1) s (by simp only [maxLen]; omega) room (Nat.zero_le _)
    refine ⟨v', w', h1, ⟨by simpa using h2.1, ?_⟩, h3, h4⟩
    rcases h2.2 with h | ⟨g, c, cur, hv, _, h1, h2, h3, h4, h5⟩
    · exact .inl h
    · exact .inr ⟨g, c, cur, (0, 0), hv, ⟨h1, .inl rfl⟩, h2, h3, by simpa using h4, by simpa using h5⟩
  · rw [Nat.mul_one] at hxl hasz htk
    by_cases hroom : n + s.size ≤ cap
    · refine ⟨_, _, run_append_room_str w t u ty e inf ht hu hi hs1 g n cap arr fr hb hfr s hroom (by omega), ⟨by simp [hxl, Lib.strCells_length], .inr ⟨g, cap, _, fr, rfl, ⟨setRow_heap w g arr _ e _ hb, ?_⟩, hroom, hcm, ?_, ?_⟩⟩, ?_, ?_⟩
      · have e0 : (arr.toList.take n ++ Lib.strCells s ++ arr.toList.drop (n + s.size)).toArray.size = arr.size := by simp [Lib.strCells_length]; omega
        rw [e0]; exact hfr
      · simp [Lib.strCells_length]; omega
      · rw [← htk]
        have e0 : (arr.toList.take n ++ Lib.strCells s).length = n + s.size := by simp [Lib.strCells_length]; omega
        rw [List.take_append_of_le_length (by omega), ← e0, List.take_length]
      · obtain ⟨f1, f2, f3, f4, f5⟩ := setRow_facts w g (arr.toList.take n ++ Lib.strCells s ++ arr.toList.drop (n + s.size)).toArray
        exact ⟨f3, f4, f5, Nat.le_of_eq f1.symm, fun k _ hne => f2 k fun h => hne (by rw [h]; rfl)⟩
      · simp
    · have holds : ∀ j v, xs[j]? = some v → w.cell? ((⟨g, 0, none⟩ : Addr).add j) = some v := fun j v hv => by
        rw [add_lit, Nat.zero_add, cell_of_row w g j arr e fr hb]
        rw [← htk, List.getElem?_take] at hv
        split at hv
        · simpa using hv
        · cases hv
      have hr := Lib.run_append_grow_string (P := P) w t u ty e inf (.int .u8 0) ht hu hi hz ⟨g, 0, none⟩ n cap xs (by rw [hs1]; omega) holds s (by omega) (by omega) (by rw [hby]; exact growslice_fits (by omega) (by omega))
      have hge := grownCap_ge w (n + s.size) cap e
      have hgm := grownCap_le_maxLen w (n + s.size) cap e (by simp only [maxLen]; omega)
      refine ⟨_, _, hr, ⟨by simp [hxl, Lib.strCells_length], .inr ⟨w.heap.size, _, _, (0, 0), rfl, ⟨heap_alloc_new w.drew _, .inl rfl⟩, hge, hgm, ?_, ?_⟩⟩, ?_, ?_⟩
      · simp only [Array.size_append, List.size_toArray, size_zeroCells, hxl, Lib.strCells_length]
        simp [Value.cells]
        omega
      · have e0 : (xs ++ Lib.strCells s).length = n + s.size := by simp [hxl, Lib.strCells_length]
        simp only [Array.toList_append]
        rw [← e0, List.take_append_of_le_length (by simp), List.take_of_length_le (by simp)]
      · exact ⟨rfl, rfl, rfl, by show w.heap.size ≤ (w.heap.push _).size; simp, fun k hk _ => by show (w.heap.push _)[k]? = _; rw [Array.getElem?_push, if_neg (by omega)]⟩
      · simp
/-- append(bytes, string...) onto a slice that grows. -/
theorem EffW.appStr {P : Program} {o : Oper} {s : List AV} {H : List Ent} {K : AV → List Ent → Prop} {T U e : TypeId} {x y : Operand} {args : Array Operand} {ts : Array TypeId} {a : Option Addr} {n cap : Nat} {b : ByteArray} (i : Nat) {xs : List Value}
    (ho : o.op = .call { callee := .builtin .append, args := args, argTypes := ts }) (ha : args.toList = [x, y]) (ht : ts.toList = [T, U])
    (hT : P.underlying T = some (.slice e)) (hU : P.underlying U = some .string) (hB : byteB P e = true)
    (hx : opv s x = .c (.v (.slice a n cap))) (hy : opv s y = .c (.v (.string b))) (he : nthE H i = some (.app e 1 xs a n cap)) (room : n + b.size ≤ 140737488355328)
    (next : ∀ (ob : Option Nat) (cap' : Nat), (ob = none → n + b.size = 0 ∧ cap' = 0) → n + b.size ≤ cap' → (cap' = 0 → cap = 0 ∧ a = at0 ob) → setEK H i (.app e 1 (xs ++ u8s b.data.toList) (at0 ob) (n + b.size) cap') fun H' => K (.c (.v (.slice (at0 ob) (n + b.size) cap'))) H') : EffW P o s H K := by
  obtain ⟨inf, hi, hz, hsz, hby⟩ := byteB_spec hB
  intro ρ S w ac hs hr
  rw [nthE_eq] at he
  have e1 : args = #[x, y] := by rw [← Array.toArray_toList (xs := args), ha]
  have e2 : ts = #[T, U] := by rw [← Array.toArray_toList (xs := ts), ht]
  subst e1; subst e2
  have hxr := opv_rel hr x
  have hyr := opv_rel hr y
  rw [hx] at hxr; rw [hy] at hyr
  have hx2 : ac.eval x = .slice a n cap := hxr
  have hy2 : ac.eval y = .string b := hyr
  have hent := hs.ent i _ he
  obtain ⟨v', w', hrun, hown, hg, hnil⟩ := append_str (P := P) w T U o.type e inf hT hU hi hz hsz hby hent b room
  rw [strCells_u8] at hown
  have hexec : (execOp ac.eval o).run P w = .ok (.value v') w' := by
    unfold execOp
    simp only [ho, resolve, invoke, builtin, Sem.run_bind, Sem.run_pure, Result.andThen_ok, List.map_toArray, List.map_cons, List.map_nil, hx2, hy2, hrun]
  -- what it gives
  have hv : ∃ (ob : Option Nat) (cap' : Nat), v' = .slice (at0 ob) (n + b.size) cap' ∧ (ob = none → n + b.size = 0 ∧ cap' = 0) ∧ n + b.size ≤ cap' ∧ EntOk ρ S w' i (.app e 1 (xs ++ u8s b.data.toList) (at0 ob) (n + b.size) cap') := by
    obtain ⟨hl, hc⟩ := hown
    rcases hc with ⟨rfl, h0⟩ | ⟨g, c, cur, fr, rfl, h1, h2, h3, h4, h5⟩
    · refine ⟨none, 0, by rw [h0]; rfl, fun _ => ⟨h0, rfl⟩, by omega, .inl ⟨rfl, h0, rfl, ?_⟩⟩
      exact List.eq_nil_of_length_eq_zero (by rw [hl, h0])
    · exact ⟨some g, c, rfl, fun h => (by cases h), h2, .inr ⟨g, rfl, cur, fr, h1, by rw [Nat.mul_one]; exact hl, h2, h3, by rw [Nat.mul_one]; exact h4, by rw [Nat.mul_one]; exact h5⟩⟩
  obtain ⟨ob, cap', rfl, h1, h2, h3⟩ := hv
  have h9 : cap' = 0 → cap = 0 ∧ a = at0 ob := fun hc => by
    have hb0 : b.size = 0 := by omega
    have hn0 : n = 0 := by omega
    subst hn0
    have hf := Lib.run_firstCells_string (P := P) w 1 b
    have hd : Lib.strCells b = [] := by rw [strCells_u8, List.eq_nil_of_length_eq_zero (show b.data.toList.length = 0 by simpa using hb0)]; rfl
    rw [hd, hb0] at hf
    have h0 : (Builtin.append_ #[T, U] o.type #[.slice a 0 cap, .string b]).run P w = .ok (.slice a 0 cap) w := by
      cases a with
      | none => simp [Builtin.append_, run_underlying hT, run_underlying hU, sizeOf, typeInfo, hi, hsz, Builtin.lenOf, hb0, hf]
      | some p => simp [Builtin.append_, run_underlying hT, run_underlying hU, sizeOf, typeInfo, hi, hsz, Builtin.lenOf, hb0, hf, storeCells]
    rw [h0] at hrun
    injection hrun with hv _
    injection hv with ha _ hc'
    exact ⟨by omega, ha⟩
  obtain ⟨hilt, hk⟩ := setEK_spec (next ob cap' h1 h2 h9)
  have hS : Sat ρ S (H.set i (.app e 1 (xs ++ u8s b.data.toList) (at0 ob) (n + b.size) cap')) w' ∧ Ev ρ S H w ρ S (H.set i (.app e 1 (xs ++ u8s b.data.toList) (at0 ob) (n + b.size) cap')) w' := by
    rcases hent with ⟨rfl, rfl, rfl, rfl⟩ | ⟨g, rfl, hrow⟩
    · -- it was nil: nothing turned, or one new block
      by_cases hb0 : b.size = 0
      · have hdat : b.data.toList = [] := List.eq_nil_of_length_eq_zero (by simpa using hb0)
        have hvn : Value.slice (at0 ob) (0 + b.size) cap' = .slice none 0 0 := hnil.2 ⟨rfl, hb0⟩
        have hat : at0 ob = none := by injection hvn
        have hw : w' = w := by
          have hf := Lib.run_firstCells_string (P := P) w 1 b
          have hd : Lib.strCells b = [] := by rw [strCells_u8, hdat]; rfl
          rw [hd, hb0] at hf
          have h0 : (Builtin.append_ #[T, U] o.type #[.slice none 0 0, .string b]).run P w = .ok (.slice none 0 0) w := by
            simp [Builtin.append_, run_underlying hT, run_underlying hU, sizeOf, typeInfo, hi, hsz, Builtin.lenOf, hb0, hf]
          rw [h0] at hrun
          injection hrun with _ h
          exact h.symm
        subst hw
        have hset : H.set i (.app e 1 ([] ++ u8s b.data.toList) (at0 ob) (0 + b.size) cap') = H := by
          have : cap' = 0 := by injection hvn
          rw [hat, hdat, hb0, this]
          exact set_getSelf he
        rw [hset]
        exact ⟨hs, Ev.refl _ _ _ _⟩
      · have hr := run_append_nil_string (P := P) w T U o.type e inf (.int .u8 0) hT hU hi hz b (by omega) (by omega) (by rw [hby]; omega)
        rw [hr] at hrun
        injection hrun with hv hw
        subst hw
        have hat : at0 ob = some ⟨w.heap.size, 0, none⟩ := by injection hv with h _ _; exact h.symm
        exact hs.setNil (e' := .app e 1 ([] ++ u8s b.data.toList) (at0 ob) (0 + b.size) cap') he rfl rfl rfl rfl rfl (fun c hc => by rw [hat] at hc; exact (Option.some.inj hc).symm) h3
    · refine hs.setG (c := g) he rfl hg.size (fun k hk hne => hg.block k hk (by simpa [Value.ownBlock] using hne)) hg.os hg.tape hg.output (fun c hc => ?_) h3
      cases ob with
      | none => cases hc
      | some g' =>
        obtain rfl : g' = c := Option.some.inj hc
        -- the old row, or a new one
        by_cases hroom : n + b.size ≤ cap
        · obtain ⟨arr, fr, ⟨hb, hfr⟩, hxl, hnc, hcm, hasz, htk⟩ := hrow
          have hr := run_append_room_str (P := P) w T U o.type e inf hT hU hi hsz g n cap arr fr hb hfr b hroom (by omega)
          rw [hr] at hrun
          injection hrun with hv _
          injection hv with hv _ _
          injection hv with hv
          injection hv with hv _ _
          exact .inl hv.symm
        · have hrow' := hrow
          obtain ⟨arr, fr, ⟨hb, hfr⟩, hxl, hnc, hcm, hasz, htk⟩ := hrow
          have holds : ∀ j v, xs[j]? = some v → w.cell? ((⟨g, 0, none⟩ : Addr).add j) = some v := fun j v hv => by
            have := (RowF.sl hrow').2.2 j (by have := (List.getElem?_eq_some_iff.1 hv).1; omega)
            rw [hv] at this
            exact this
          have hr := Lib.run_append_grow_string (P := P) w T U o.type e inf (.int .u8 0) hT hU hi hz ⟨g, 0, none⟩ n cap xs (by rw [hsz]; exact hxl) holds b (by omega) (by omega) (by rw [hby]; exact growslice_fits (by omega) (by omega))
          rw [hr] at hrun
          injection hrun with hv _
          injection hv with hv _ _
          injection hv with hv
          injection hv with hv _ _
          exact .inr (by omega)
  exact ⟨_, _, hk, _, _, _, _, hexec, .inl rfl, hS.1, hS.2, rfl⟩

/-! ### Pointers -/
/-! ### Functions without a body -/
theorem EffW.ext {P : Program} {o : Oper} {s : List AV} {H : List Ent} {K : AV → List Ent → Prop} {f : FuncId} {fn : Func} {e : Array Value → Sem Value} {args : Array Operand} {ts : Array TypeId} (ho : o.op = .call { callee := .value (.func f), args := args, argTypes := ts })
    (hf : P.funcs[f]? = some fn) (hname : (fn.name == "runtime.NumGoroutine") = false) (hb : fn.body.isNone = true) (hn : Extern.findNext fn = none) (he : Extern.find fn = some e) (av : AV) (h : K av H)
    (hrun : ∀ (ρ : List Loc) (vs : List Value), RelS ρ (opvs s args.toList) vs → ∃ v, av.rel ρ v ∧ ∀ w, (e vs.toArray).run P w = .ok v w) : EffW P o s H K := by
  intro ρ S w a hs hr
  obtain ⟨v, hv, hrun⟩ := hrun ρ _ (opvs_rel hr args.toList)
  refine ⟨av, H, h, .value v, v, ρ, w, ?_, .inl rfl, hs, Ev.refl _ _ _ _, hv⟩
  have hc := run_callFunc_extern hf hname hb hn he (args.toList.map a.eval).toArray w
  rw [hrun w] at hc
  have he2 : args.map a.eval = (args.toList.map a.eval).toArray := by apply Array.ext'; simp
  unfold execOp
  simp only [ho, resolve, Deferred.ofValue, invoke, Act.eval, Sem.run_bind, Sem.run_pure, Result.andThen_ok, he2]
  simpa using hc
/-! ### Bytes as a string -/
/-! ### Parts of slices -/
def slcB (P : Program) (T : TypeId) : Bool := match P.underlying T with | some (.slice e) => (P.info? e).isSome | _ => false
theorem slcB_spec {P : Program} {T : TypeId} (h : slcB P T = true) : ∃ e i, P.underlying T = some (.slice e) ∧ P.info? e = some i := by
  unfold slcB at h
  split at h
  · rename_i e he
    exact ⟨e, _, he, (Option.some_get h).symm⟩
  · cases h
theorem ReadW.slc_h {P : Program} {o : Oper} {s : List AV} {H : List Ent} {K : AV → Prop} {t : TypeId} {x z : Operand} {ob : Option Nat} {n cap : Nat} {k : IntKind} {j : Int} (ho : o.op = .slice t x none (some z) none) (hu : slcB P t = true)
    (hx : opv s x = .c (.v (.slice (at0 ob) n cap))) (hz : opv s z = .c (.v (.int k j))) (hj : 0 ≤ j ∧ j ≤ (cap : Int)) (h : K (.c (.v (.slice (at0 ob) j.toNat cap)))) : ReadW P o s H K := by
  obtain ⟨e, inf, hu, hi⟩ := slcB_spec hu
  refine ReadW.val _ (fun cs b => by rw [ho]; simp) (by rw [ho]; simp [Op.operands, allPlain, hx, hz]) (fun w _ => ?_) h
  have e1 := plainEv_v hx
  have e2 := plainEv_v hz
  have : (Instr.sliceAt t (.slice (at0 ob) n cap) none (some (.int k j)) none).run P w = .ok (.slice (at0 ob) j.toNat cap) w := by
    have ha : (at0 ob).map (·.add 0) = at0 ob := by
      cases ob with
      | none => rfl
      | some b => simp [at0, add_lit0]
    simp [Instr.sliceAt, Instr.slice, run_underlying hu, Instr.sliceBounds, Instr.sliceBound, asIntOf, hj, sizeOf, typeInfo, hi, ha]
  refine run_op_slice ho ?_
  rw [e1]
  simpa [e2] using this

/-! ### Entries set ahead -/
theorem SpecH.pad {P : Program} {f : FuncId} {args : List AV} {H : List Ent} {K : Out → List Ent → Prop} (pad : List Ent) (hp : padB pad = true) (h : SpecH P f args (H ++ pad) K) : SpecH P f args H K := by
  refine ⟨h.ok, fun ρ S w vs hs hr => ?_⟩
  obtain ⟨t, hs', hev⟩ := hs.pad pad hp
  exact (h.run (ρ ++ t) S w vs hs' (RelS_pre t hr)).mono fun e w' ⟨ρ', S', H', out, h1, h2, h3, h4⟩ => ⟨ρ', S', H', out, h1, hev.trans h2, h3, h4⟩
end Go.AX

/-
  AX, twenty-second text: bytes as lists; contracts that turn own entries.
-/
namespace Go.AX

def bs (l : List UInt8) : ByteArray := ⟨l.toArray⟩
theorem bs_app (a b : List UInt8) : bs a ++ bs b = bs (a ++ b) := by
  apply ByteArray.ext
  simp [bs]
theorem bs_size (a : List UInt8) : (bs a).size = a.length := by simp [bs, ByteArray.size]
theorem bs_list (a : List UInt8) : (bs a).data.toList = a := by simp [bs]
theorem bs_of (b : ByteArray) : bs b.data.toList = b := rfl
theorem bs_ext (l : List UInt8) (i j : Nat) : (bs l).extract i j = bs ((l.take j).drop i) := by
  apply ByteArray.ext
  apply Array.ext'
  rw [ByteArray.data_extract]
  simp [bs, List.drop_take]
theorem bs_drop (l : List UInt8) (i : Nat) : (bs l).extract i l.length = bs (l.drop i) := by rw [bs_ext, List.take_length]
theorem bs_take (l : List UInt8) (j : Nat) : (bs l).extract 0 j = bs (l.take j) := by rw [bs_ext, List.drop_zero]
theorem byteAt_get {l : List UInt8} {i : Nat} {c : UInt8} (h : l[i]? = some c) : byteAt (bs l) i = (c.toNat : Int) := by
  simp [byteAt, bs_list, List.getD, h]
theorem take_snoc {α : Type} {l : List α} {i : Nat} {c : α} (h : l[i]? = some c) : l.take (i + 1) = l.take i ++ [c] := by
  obtain ⟨hi, rfl⟩ := List.getElem?_eq_some_iff.1 h
  exact List.take_succ_eq_append_getElem hi
theorem u8_eq {c : UInt8} {n : Nat} (hn : n < 256) : ((c.toNat : Int) == (n : Int)) = (c == UInt8.ofNat n) := by
  by_cases h : c = UInt8.ofNat n
  · subst h
    have e : (UInt8.ofNat n).toNat = n := by simp; omega
    rw [e]; simp
  · rw [show (c == UInt8.ofNat n) = false by simpa using h]
    have : ¬ (c.toNat : Int) = (n : Int) := fun h2 => h (UInt8.toNat_inj.1 (by simp; omega))
    simpa using this

/-- s[i:] -/
theorem ReadW.sl_l {P : Program} {o : Oper} {s : List AV} {H : List Ent} {K : AV → Prop} {t : TypeId} {x y : Operand} {b : List UInt8} {k : IntKind} {i : Int} (n : Nat) (ho : o.op = .slice t x (some y) none none) (hu : P.underlying t = some .string) (hx : opv s x = .c (.v (.string (bs b)))) (hy : opv s y = .c (.v (.int k i)))
    (h : i = (n : Int) ∧ n ≤ b.length) (hk : K (.c (.v (.string (bs (b.drop n)))))) : ReadW P o s H K :=
  ReadW.str_l ho hu hx hy ⟨by omega, by rw [bs_size]; omega⟩ (by rw [bs_size, show i.toNat = n by omega, bs_drop]; exact hk)
/-- s[:j] -/
theorem ReadW.sl_h {P : Program} {o : Oper} {s : List AV} {H : List Ent} {K : AV → Prop} {t : TypeId} {x y : Operand} {b : List UInt8} {k : IntKind} {i : Int} (n : Nat) (ho : o.op = .slice t x none (some y) none) (hu : P.underlying t = some .string) (hx : opv s x = .c (.v (.string (bs b)))) (hy : opv s y = .c (.v (.int k i)))
    (h : i = (n : Int) ∧ n ≤ b.length) (hk : K (.c (.v (.string (bs (b.take n)))))) : ReadW P o s H K :=
  ReadW.str_h ho hu hx hy ⟨by omega, by rw [bs_size]; omega⟩ (by rw [show i.toNat = n by omega, bs_take]; exact hk)
/-- s[i:j] -/
theorem ReadW.sl_lh {P : Program} {o : Oper} {s : List AV} {H : List Ent} {K : AV → Prop} {t : TypeId} {x y z : Operand} {b : List UInt8} {k k' : IntKind} {i j : Int} (n m : Nat) (ho : o.op = .slice t x (some y) (some z) none) (hu : P.underlying t = some .string) (hx : opv s x = .c (.v (.string (bs b)))) (hy : opv s y = .c (.v (.int k i))) (hz : opv s z = .c (.v (.int k' j)))
    (h : i = (n : Int) ∧ j = (m : Int) ∧ n ≤ m ∧ m ≤ b.length) (hk : K (.c (.v (.string (bs ((b.take m).drop n)))))) : ReadW P o s H K :=
  ReadW.str_lh ho hu hx hy hz ⟨by omega, by omega, by rw [bs_size]; omega⟩ (by rw [show i.toNat = n by omega, show j.toNat = m by omega, bs_ext]; exact hk)

/-- The call hands back a value of a family, and leaves own entries of that family. -/
def RetG {ι : Type} (inv : ι → Prop) (val : ι → Value) (G : ι → List Ent) : Out → List Ent → Prop := fun out H' => ∃ i, inv i ∧ out = .val (.c (.v (val i))) ∧ H' = G i
theorem SpecH.wkG {P : Program} {f : FuncId} {args : List AV} {H : List Ent} {ι : Type} {inv : ι → Prop} {val : ι → Value} {G : ι → List Ent} (hok : ∀ i, inv i → okH (G i).length (G i)) (hl : ∀ i, inv i → H.length ≤ (G i).length)
    (h : SpecH P f args H fun out H' => ∃ i, inv i ∧ out = .val (.c (.v (val i))) ∧ wkH H' (G i)) : SpecH P f args H (RetG inv val G) := by
  refine ⟨h.ok, fun ρ S w vs hs hr => (h.run ρ S w vs hs hr).mono fun e w' ⟨ρ', S', H', out, hs', hev, hout, i, hi, hx, hw⟩ => ?_⟩
  subst hx
  obtain ⟨h1, h2⟩ := hs'.weak hw (hok i hi)
  refine ⟨ρ'.take (G i).length, S', G i, .val (.c (.v (val i))), h1, ⟨?_, hev.os, hev.tape, hev.output, hev.size, hev.keep, hev.imm, fun b hb => hev.own b (h2 b hb)⟩, hout, i, hi, rfl, rfl⟩
  obtain ⟨t, ht⟩ := hev.pre
  refine ⟨t.take ((G i).length - ρ.length), ?_⟩
  rw [ht, List.take_append, List.take_of_length_le (by rw [hs.len]; exact hl i hi)]
/-- A contract on own entries, by the executor. -/
theorem ownC {P : Program} (hm : P.follows .mixedOrders = true) {f : FuncId} {fn : Func} {c : Code} (hf : P.funcs[f]? = some fn) (hn : (fn.name == "runtime.NumGoroutine") = false) (hb : fn.body = some c)
    {args : List AV} {H : List Ent} (hl : Nat.ble args.length fn.ntmps = true) {ι : Type} {inv : ι → Prop} {val : ι → Value} {G : ι → List Ent} (hok : ∀ i, inv i → okH (G i).length (G i)) (hl2 : ∀ i, inv i → H.length ≤ (G i).length)
    (h : initK fn.ntmps args fun s => exec P c s H (endK P fn.results.toList fun out H' => ∃ i, inv i ∧ out = .val (.c (.v (val i))) ∧ wkH H' (G i))) : SpecH P f args H (RetG inv val G) :=
  SpecH.wkG hok hl2 (spec_of_exec hm hf hn hb hl h)
/-- .. used among other entries. -/
theorem callG {P : Program} {f : FuncId} {args0 : List AV} {H0 : List Ent} {ι : Type} {inv : ι → Prop} {val : ι → Value} {G : ι → List Ent} (h : SpecH P f args0 H0 (RetG inv val G)) (σ : List Nat) {args : List AV} {H : List Ent} {K : Out → List Ent → Prop}
    (hn : ndB σ = true) (hp : part σ H.length H σ H0) (ha : args = rnS σ H.length args0) (hk : ∀ i, inv i → mrg (rnE σ H.length) σ (G i) H fun G' => K (.val (.c (.v (val i)))) G') : SpecH P f args H K :=
  h.at σ hn hp ha fun out H' ⟨i, hi, ho, hH⟩ => by subst ho; subst hH; exact hk i hi
theorem wkH_nil (H : List Ent) : wkH H [] := by cases H <;> trivial
theorem wkH_of_eq {H G : List Ent} (h : H = G) : wkH H G := by subst h; exact wkH_refl _
end Go.AX

/-
  Contracts: strings.Builder, own.
-/
namespace Go.Proofs.YteljlkkppaobeaaGreatDoor
open Go.AX Go.RowKit
set_option maxRecDepth 20000
theorem hm : Tryz.prog.follows .mixedOrders = true := by kernel_rfl

structure BSt where
  ob : Option Nat
  cap : Nat
/-- Where a Builder's bytes lie. -/
def BSt.ok (n : Nat) (i : BSt) : Prop := (i.ob = none → n = 0 ∧ i.cap = 0) ∧ n ≤ i.cap ∧ (i.cap = 0 → i.ob = none)

end Go.Proofs.YteljlkkppaobeaaGreatDoor

/-
  DERIVED: THE SHELF's CONTRACTS AT THIS DUMP, IN PLAIN WORDS (tools/lay-plain.mjs out of 'TryzShelf.lean', which tools/lay-shelf.mjs wrote): THE SAME DECLARATIONS UNDER THE SAME NAMES: 'import', 'namespace', 'open', 'def', 'theorem' AND NOTHING ELSE: no command of the shelf's: FOR A HAND-IN. Each laying: the table of numbers ('.._ren') and one theorem, a field a fact of the dump's own or the kernel's comparison; each contract: ONE APPLICATION.
-/
namespace Go.Proofs
open Go.Shelf
def Tryz.lays158_ren : Go.Shelf.Ren := ⟨fun | 158 => 38 | 165 => 21 | 166 => 22 | 167 => 61 | 169 => 23 | 230 => 62 | 203 => 63 | 240 => 34 | 241 => 35 | 197 => 73 | 118 => 76 | 168 => 77 | 270 => 78 | 262 => 79 | 276 => 51 | 277 => 52 | 260 => 90 | 242 => 93 | 313 => 94 | 278 => 106 | 274 => 107 | 275 => 108 | n => n, fun | 9 => 9 | 4 => 4 | 3 => 3 | 5 => 5 | 72 => 73 | 0 => 0 | 76 => 77 | 75 => 76 | 107 => 121 | 70 => 71 | 20 => 20 | 37 => 40 | 127 => 86 | 21 => 21 | 105 => 139 | 164 => 109 | 162 => 160 | 203 => 158 | 119 => 102 | 46 => 162 | 139 => 169 | 138 => 168 | 51 => 57 | 160 => 171 | 208 => 179 | 206 => 177 | 80 => 79 | n => n, fun | 13 => 1 | 3 => 2 | 4 => 3 | n => n⟩
theorem Tryz.lays158 : Go.Proofs.Lays.n158 Tryz.prog Tryz.lays158_ren := {
  mixed := by kernel_rfl
  f118 := Tryz.func76.trans (congrArg some (by kernel_rfl))
  f158 := Tryz.func38.trans (congrArg some (by kernel_rfl))
  f165 := Tryz.func21.trans (congrArg some (by kernel_rfl))
  f166 := Tryz.func22.trans (congrArg some (by kernel_rfl))
  f167 := Tryz.func61.trans (congrArg some (by kernel_rfl))
  f168 := Tryz.func77.trans (congrArg some (by kernel_rfl))
  f169 := Tryz.func23.trans (congrArg some (by kernel_rfl))
  f197 := Tryz.func73.trans (congrArg some (by kernel_rfl))
  f203 := Tryz.func63.trans (congrArg some (by kernel_rfl))
  f230 := Tryz.func62.trans (congrArg some (by kernel_rfl))
  f240 := Tryz.func34.trans (congrArg some (by kernel_rfl))
  f241 := Tryz.func35.trans (congrArg some (by kernel_rfl))
  f242 := Tryz.func93.trans (congrArg some (by kernel_rfl))
  f260 := Tryz.func90.trans (congrArg some (by kernel_rfl))
  f262 := Tryz.func79.trans (congrArg some (by kernel_rfl))
  f270 := Tryz.func78.trans (congrArg some (by kernel_rfl))
  f274 := Tryz.func107.trans (congrArg some (by kernel_rfl))
  f275 := Tryz.func108.trans (congrArg some (by kernel_rfl))
  f276 := Tryz.func51.trans (congrArg some (by kernel_rfl))
  f277 := Tryz.func52.trans (congrArg some (by kernel_rfl))
  f278 := Tryz.func106.trans (congrArg some (by kernel_rfl))
  f313 := Tryz.func94.trans (congrArg some (by kernel_rfl))
  t0 := Tryz.underlying0
  a0 := Tryz.isAgg0
  z0 := Tryz.sizeOf0
  v0 := Tryz.zeroValue0
  t3 := Tryz.underlying3
  a3 := Tryz.isAgg3
  z3 := Tryz.sizeOf3
  v3 := Tryz.zeroValue3
  t4 := Tryz.underlying4
  a4 := Tryz.isAgg4
  z4 := Tryz.sizeOf4
  v4 := Tryz.zeroValue4
  t5 := Tryz.underlying5
  a5 := Tryz.isAgg5
  z5 := Tryz.sizeOf5
  v5 := Tryz.zeroValue5
  t9 := Tryz.underlying9
  a9 := Tryz.isAgg9
  z9 := Tryz.sizeOf9
  v9 := Tryz.zeroValue9
  t20 := Tryz.underlying20
  a20 := Tryz.isAgg20
  z20 := Tryz.sizeOf20
  v20 := Tryz.zeroValue20
  t21 := Tryz.underlying21
  a21 := Tryz.isAgg21
  z21 := Tryz.sizeOf21
  v21 := Tryz.zeroValue21
  t37 := Tryz.underlying40
  a37 := Tryz.isAgg40
  z37 := Tryz.sizeOf40
  v37 := Tryz.zeroValue40
  t46 := Tryz.underlying162
  a46 := Tryz.isAgg162
  z46 := Tryz.sizeOf162
  v46 := Tryz.zeroValue162
  t51 := Tryz.underlying57
  a51 := Tryz.isAgg57
  z51 := Tryz.sizeOf57
  v51 := Tryz.zeroValue57
  t70 := Tryz.underlying71
  a70 := Tryz.isAgg71
  z70 := Tryz.sizeOf71
  v70 := Tryz.zeroValue71
  t72 := Tryz.underlying73
  a72 := Tryz.isAgg73
  z72 := Tryz.sizeOf73
  v72 := Tryz.zeroValue73
  t75 := Tryz.underlying76
  a75 := Tryz.isAgg76
  z75 := Tryz.sizeOf76
  v75 := Tryz.zeroValue76
  t76 := Tryz.underlying77
  a76 := Tryz.isAgg77
  z76 := Tryz.sizeOf77
  v76 := Tryz.zeroValue77
  t105 := Tryz.underlying139
  a105 := Tryz.isAgg139
  z105 := Tryz.sizeOf139
  v105 := Tryz.zeroValue139
  t107 := Tryz.underlying121
  a107 := Tryz.isAgg121
  z107 := Tryz.sizeOf121
  v107 := Tryz.zeroValue121
  t119 := Tryz.underlying102
  a119 := Tryz.isAgg102
  z119 := Tryz.sizeOf102
  t127 := Tryz.underlying86
  a127 := Tryz.isAgg86
  z127 := Tryz.sizeOf86
  v127 := Tryz.zeroValue86
  t138 := Tryz.underlying168
  a138 := Tryz.isAgg168
  z138 := Tryz.sizeOf168
  v138 := Tryz.zeroValue168
  t139 := Tryz.underlying169
  a139 := Tryz.isAgg169
  z139 := Tryz.sizeOf169
  v139 := Tryz.zeroValue169
  t160 := Tryz.underlying171
  a160 := Tryz.isAgg171
  z160 := Tryz.sizeOf171
  v160 := Tryz.zeroValue171
  t162 := Tryz.underlying160
  a162 := Tryz.isAgg160
  z162 := Tryz.sizeOf160
  v162 := Tryz.zeroValue160
  t164 := Tryz.underlying109
  a164 := Tryz.isAgg109
  z164 := Tryz.sizeOf109
  v164 := Tryz.zeroValue109
  t203 := Tryz.underlying158
  a203 := Tryz.isAgg158
  z203 := Tryz.sizeOf158
  v203 := Tryz.zeroValue158
  t206 := Tryz.underlying177
  a206 := Tryz.isAgg177
  z206 := Tryz.sizeOf177
  v206 := Tryz.zeroValue177
  t208 := Tryz.underlying179
  a208 := Tryz.isAgg179
  z208 := Tryz.sizeOf179
  v208 := Tryz.zeroValue179
  g3 := by kernel_rfl
  g4 := by kernel_rfl
  g13 := by kernel_rfl }
theorem Tryz.Builder_Extra_158 : Builder.Extra Tryz.prog Tryz.lays158_ren := {
  sizeBuilder := by kernel_rfl
  liesBuilder := by kernel_rfl
  t5 := Tryz.underlying5
  a5 := Tryz.isAgg5
  z5 := Tryz.sizeOf5
  v5 := Tryz.zeroValue5
  infoByte := by kernel_rfl
  cellsByte := by kernel_rfl
  sizeByte := by kernel_rfl
  neB5 := by decide }
open Go.RowKit in
/-- strings.ToUpper: "ToUpper returns s with all Unicode letters mapped to their upper case.": ON ASCII TEXT OF AT MOST 2^47 BYTES. Below the heap's end the world is as it was: where a letter turns, the call makes a builder and its buffer. (LAID: no walk: one application.) -/
theorem Tryz.strings_ToUpper_ascii (s : ByteArray) (w : World) (hs : s.size ≤ 140737488355328) (hascii : ∀ (j : Nat) (b : UInt8), s.data.toList[j]? = some b → b.toNat < 128) :
    Calls Tryz.prog 38 #[.string s] w fun e w' => e = .returned (.string ⟨(Lib.toUpperA s.data.toList).toArray⟩) ∧ Below w.heap.size w w' := Any.strings_ToUpper_ascii Tryz.lays158 Tryz.Builder_Extra_158 s w hs hascii
def Tryz.lays156_ren : Go.Shelf.Ren := ⟨fun | 156 => 15 | 165 => 21 | 166 => 22 | 169 => 23 | 240 => 34 | 241 => 35 | 276 => 51 | 277 => 52 | n => n, fun | 31 => 22 | 9 => 9 | 3 => 3 | 4 => 4 | 0 => 0 | 20 => 20 | 72 => 73 | 76 => 77 | 70 => 71 | 37 => 40 | 75 => 76 | 127 => 86 | 164 => 109 | 5 => 5 | 80 => 79 | n => n, fun | n => n⟩
theorem Tryz.lays156 : Go.Proofs.Lays.n156 Tryz.prog Tryz.lays156_ren := {
  mixed := by kernel_rfl
  f156 := Tryz.func15.trans (congrArg some (by kernel_rfl))
  f165 := Tryz.func21.trans (congrArg some (by kernel_rfl))
  f166 := Tryz.func22.trans (congrArg some (by kernel_rfl))
  f169 := Tryz.func23.trans (congrArg some (by kernel_rfl))
  f240 := Tryz.func34.trans (congrArg some (by kernel_rfl))
  f241 := Tryz.func35.trans (congrArg some (by kernel_rfl))
  f276 := Tryz.func51.trans (congrArg some (by kernel_rfl))
  f277 := Tryz.func52.trans (congrArg some (by kernel_rfl))
  t0 := Tryz.underlying0
  a0 := Tryz.isAgg0
  z0 := Tryz.sizeOf0
  v0 := Tryz.zeroValue0
  t3 := Tryz.underlying3
  a3 := Tryz.isAgg3
  z3 := Tryz.sizeOf3
  v3 := Tryz.zeroValue3
  t4 := Tryz.underlying4
  a4 := Tryz.isAgg4
  z4 := Tryz.sizeOf4
  v4 := Tryz.zeroValue4
  t9 := Tryz.underlying9
  a9 := Tryz.isAgg9
  z9 := Tryz.sizeOf9
  v9 := Tryz.zeroValue9
  t20 := Tryz.underlying20
  a20 := Tryz.isAgg20
  z20 := Tryz.sizeOf20
  v20 := Tryz.zeroValue20
  t31 := Tryz.underlying22
  a31 := Tryz.isAgg22
  z31 := Tryz.sizeOf22
  v31 := Tryz.zeroValue22
  t37 := Tryz.underlying40
  a37 := Tryz.isAgg40
  z37 := Tryz.sizeOf40
  v37 := Tryz.zeroValue40
  t70 := Tryz.underlying71
  a70 := Tryz.isAgg71
  z70 := Tryz.sizeOf71
  v70 := Tryz.zeroValue71
  t72 := Tryz.underlying73
  a72 := Tryz.isAgg73
  z72 := Tryz.sizeOf73
  v72 := Tryz.zeroValue73
  t75 := Tryz.underlying76
  a75 := Tryz.isAgg76
  z75 := Tryz.sizeOf76
  v75 := Tryz.zeroValue76
  t76 := Tryz.underlying77
  a76 := Tryz.isAgg77
  z76 := Tryz.sizeOf77
  v76 := Tryz.zeroValue77
  t127 := Tryz.underlying86
  a127 := Tryz.isAgg86
  z127 := Tryz.sizeOf86
  v127 := Tryz.zeroValue86
  t164 := Tryz.underlying109
  a164 := Tryz.isAgg109
  z164 := Tryz.sizeOf109
  v164 := Tryz.zeroValue109 }
theorem Tryz.Builder_Extra_156 : Builder.Extra Tryz.prog Tryz.lays156_ren := {
  sizeBuilder := by kernel_rfl
  liesBuilder := by kernel_rfl
  t5 := Tryz.underlying5
  a5 := Tryz.isAgg5
  z5 := Tryz.sizeOf5
  v5 := Tryz.zeroValue5
  infoByte := by kernel_rfl
  cellsByte := by kernel_rfl
  sizeByte := by kernel_rfl
  neB5 := by decide }
open Go.RowKit in
/-- No element: the empty string; the world is as it was. (Whatever the slice's address and capacity: a nil slice too.) (LAID: no walk: one application.) -/
theorem Tryz.strings_Join_none (a : Option Addr) (c : Nat) (sep : ByteArray) (w : World) :
    Calls Tryz.prog 15 #[.slice a 0 c, .string sep] w fun e w' => e = .returned (.string ⟨#[]⟩) ∧ w' = w := Any.strings_Join_none Tryz.lays156 Tryz.Builder_Extra_156 a c sep w
open Go.RowKit in
/-- strings.Join: "Join concatenates the elements of its first argument to create a single string. The separator string sep is placed between elements in the resulting string.": HOWEVER MANY ELEMENTS. Below the heap's end the world is as it was. (LAID: no walk: one application.) -/
theorem Tryz.strings_Join (bk o c : Nat) (xs : List ByteArray) (sep : ByteArray) (w : World) (hcells : ∀ (j : Nat) x, xs[j]? = some x → w.cell? ⟨bk, o + j, none⟩ = some (.string x)) (hbk : bk < w.heap.size) (hN : xs.length ≤ 140737488355328) (hcap : xs.length ≤ c) (hlen : (Lib.join (xs.map (·.data.toList)) sep.data.toList).length ≤ 140737488355328) :
    Calls Tryz.prog 15 #[.slice (some ⟨bk, o, none⟩) xs.length c, .string sep] w fun e w' => e = .returned (.string ⟨(Lib.join (xs.map (·.data.toList)) sep.data.toList).toArray⟩) ∧ Below w.heap.size w w' := Any.strings_Join Tryz.lays156 Tryz.Builder_Extra_156 bk o c xs sep w hcells hbk hN hcap hlen
def Tryz.lays137_ren : Go.Shelf.Ren := ⟨fun | 137 => 11 | 217 => 18 | 266 => 30 | n => n, fun | 9 => 9 | 5 => 5 | 3 => 3 | n => n, fun | n => n⟩
theorem Tryz.lays137 : Go.Proofs.Lays.n137 Tryz.prog Tryz.lays137_ren := {
  mixed := by kernel_rfl
  f137 := Tryz.func11.trans (congrArg some (by kernel_rfl))
  f217 := Tryz.func18.trans (congrArg some (by kernel_rfl))
  f266 := Tryz.func30.trans (congrArg some (by kernel_rfl))
  t3 := Tryz.underlying3
  a3 := Tryz.isAgg3
  z3 := Tryz.sizeOf3
  v3 := Tryz.zeroValue3
  t5 := Tryz.underlying5
  a5 := Tryz.isAgg5
  z5 := Tryz.sizeOf5
  v5 := Tryz.zeroValue5
  t9 := Tryz.underlying9
  a9 := Tryz.isAgg9
  z9 := Tryz.sizeOf9
  v9 := Tryz.zeroValue9 }
open Go.RowKit in
/-- strings.IndexByte: "IndexByte returns the index of the first instance of c in s, or -1 if c is not present in s.": IT RETURNS 'Lib.indexByte s c'; the world is as it was. (LAID: no walk: one application.) -/
theorem Tryz.strings_IndexByte (s : ByteArray) (c : Int) (w : World) :
    Calls Tryz.prog 11 #[.string s, .int .u8 c] w fun e w' => e = .returned (.int .i64 (Lib.indexByte s.data.toList c.toNat.toUInt8)) ∧ w' = w := Any.strings_IndexByte Tryz.lays137 s c w
def Tryz.lays145_ren : Go.Shelf.Ren := ⟨fun | 145 => 41 | 220 => 64 | 219 => 80 | 217 => 18 | 225 => 95 | 224 => 96 | 267 => 97 | 266 => 30 | 314 => 109 | n => n, fun | 9 => 9 | 4 => 4 | 59 => 89 | 3 => 3 | 5 => 5 | 46 => 162 | 146 => 174 | 51 => 57 | n => n, fun | 1 => 0 | n => n⟩
theorem Tryz.lays145 : Go.Proofs.Lays.n145 Tryz.prog Tryz.lays145_ren := {
  mixed := by kernel_rfl
  f145 := Tryz.func41.trans (congrArg some (by kernel_rfl))
  f217 := Tryz.func18.trans (congrArg some (by kernel_rfl))
  f219 := Tryz.func80.trans (congrArg some (by kernel_rfl))
  f220 := Tryz.func64.trans (congrArg some (by kernel_rfl))
  f224 := Tryz.func96.trans (congrArg some (by kernel_rfl))
  f225 := Tryz.func95.trans (congrArg some (by kernel_rfl))
  f266 := Tryz.func30.trans (congrArg some (by kernel_rfl))
  f267 := Tryz.func97.trans (congrArg some (by kernel_rfl))
  f314 := Tryz.func109.trans (congrArg some (by kernel_rfl))
  t3 := Tryz.underlying3
  a3 := Tryz.isAgg3
  z3 := Tryz.sizeOf3
  v3 := Tryz.zeroValue3
  t4 := Tryz.underlying4
  a4 := Tryz.isAgg4
  z4 := Tryz.sizeOf4
  v4 := Tryz.zeroValue4
  t5 := Tryz.underlying5
  a5 := Tryz.isAgg5
  z5 := Tryz.sizeOf5
  v5 := Tryz.zeroValue5
  t9 := Tryz.underlying9
  a9 := Tryz.isAgg9
  z9 := Tryz.sizeOf9
  v9 := Tryz.zeroValue9
  t46 := Tryz.underlying162
  a46 := Tryz.isAgg162
  z46 := Tryz.sizeOf162
  v46 := Tryz.zeroValue162
  t51 := Tryz.underlying57
  a51 := Tryz.isAgg57
  z51 := Tryz.sizeOf57
  v51 := Tryz.zeroValue57
  t59 := Tryz.underlying89
  a59 := Tryz.isAgg89
  z59 := Tryz.sizeOf89
  v59 := Tryz.zeroValue89
  t146 := Tryz.underlying174
  a146 := Tryz.isAgg174
  z146 := Tryz.sizeOf174
  v146 := Tryz.zeroValue174
  g1 := by kernel_rfl }
open Go.RowKit Go.Lib in
/-- strings.Cut: "Cut slices s around the first instance of sep, returning the text before and after sep. The found result reports whether sep appears in s. If sep does not appear in s, cut returns s, "", false.": IT RETURNS 'Lib.cut s sep'; the world is as it was but for the count of draws. (LAID: no walk: one application.) -/
theorem Tryz.strings_Cut (s sep : ByteArray) (m : Int) (w : World) (hs : s.size < 4294967281) (hm : w.cell? ⟨0, 0, none⟩ = some (.int .i64 m)) :
    Calls Tryz.prog 41 #[.string s, .string sep] w fun e w' => e = .returned (.tuple #[.string ⟨(Lib.cut s.data.toList sep.data.toList).1.toArray⟩, .string ⟨(Lib.cut s.data.toList sep.data.toList).2.1.toArray⟩, .bool (Lib.cut s.data.toList sep.data.toList).2.2]) ∧ ∃ n, w' = w.drewN n := Any.strings_Cut Tryz.lays145 s sep m w hs hm
def Tryz.lays138_ren : Go.Shelf.Ren := ⟨fun | 138 => 137 | 195 => 138 | 218 => 139 | 143 => 140 | 219 => 80 | 217 => 18 | 225 => 95 | 224 => 96 | 267 => 97 | 266 => 30 | 314 => 109 | n => n, fun | 9 => 9 | 3 => 3 | 4 => 4 | 5 => 5 | 0 => 0 | 46 => 162 | 146 => 174 | 51 => 57 | n => n, fun | 1 => 0 | n => n⟩
theorem Tryz.lays138 : Go.Proofs.Lays.n138 Tryz.prog Tryz.lays138_ren := {
  mixed := by kernel_rfl
  f138 := Tryz.func137.trans (congrArg some (by kernel_rfl))
  f143 := Tryz.func140.trans (congrArg some (by kernel_rfl))
  f195 := Tryz.func138.trans (congrArg some (by kernel_rfl))
  f217 := Tryz.func18.trans (congrArg some (by kernel_rfl))
  f218 := Tryz.func139.trans (congrArg some (by kernel_rfl))
  f219 := Tryz.func80.trans (congrArg some (by kernel_rfl))
  f224 := Tryz.func96.trans (congrArg some (by kernel_rfl))
  f225 := Tryz.func95.trans (congrArg some (by kernel_rfl))
  f266 := Tryz.func30.trans (congrArg some (by kernel_rfl))
  f267 := Tryz.func97.trans (congrArg some (by kernel_rfl))
  f314 := Tryz.func109.trans (congrArg some (by kernel_rfl))
  t0 := Tryz.underlying0
  a0 := Tryz.isAgg0
  z0 := Tryz.sizeOf0
  v0 := Tryz.zeroValue0
  t3 := Tryz.underlying3
  a3 := Tryz.isAgg3
  z3 := Tryz.sizeOf3
  v3 := Tryz.zeroValue3
  t4 := Tryz.underlying4
  a4 := Tryz.isAgg4
  z4 := Tryz.sizeOf4
  v4 := Tryz.zeroValue4
  t5 := Tryz.underlying5
  a5 := Tryz.isAgg5
  z5 := Tryz.sizeOf5
  v5 := Tryz.zeroValue5
  t9 := Tryz.underlying9
  a9 := Tryz.isAgg9
  z9 := Tryz.sizeOf9
  v9 := Tryz.zeroValue9
  t46 := Tryz.underlying162
  a46 := Tryz.isAgg162
  z46 := Tryz.sizeOf162
  v46 := Tryz.zeroValue162
  t51 := Tryz.underlying57
  a51 := Tryz.isAgg57
  z51 := Tryz.sizeOf57
  v51 := Tryz.zeroValue57
  t146 := Tryz.underlying174
  a146 := Tryz.isAgg174
  z146 := Tryz.sizeOf174
  v146 := Tryz.zeroValue174
  g1 := by kernel_rfl }
open Go.RowKit Go.Lib in
/-- strings.Count AT A substr OF ONE BYTE ('hp'): "Count counts the number of non-overlapping instances of substr in s.": IT RETURNS 'Lib.countByte s (that byte)'; the world is as it was. ✋ NO CONTRACT HERE YET at an empty substr (utf8.RuneCountInString) or at a longer one (a loop over strings.Index). (LAID: no walk: one application.) -/
theorem Tryz.strings_Count_one (s : ByteArray) (c : UInt8) (w : World) :
    Calls Tryz.prog 137 #[.string s, .string ⟨#[c]⟩] w fun e w' => e = .returned (.int .i64 (Lib.countByte s.data.toList c)) ∧ w' = w := Any.strings_Count_one Tryz.lays138 s c w
def Tryz.lays99_ren : Go.Shelf.Ren := ⟨fun | 99 => 27 | 206 => 40 | n => n, fun | 9 => 9 | 4 => 4 | 3 => 3 | n => n, fun | n => n⟩
theorem Tryz.lays99 : Go.Proofs.Lays.n99 Tryz.prog Tryz.lays99_ren := {
  mixed := by kernel_rfl
  f99 := Tryz.func27.trans (congrArg some (by kernel_rfl))
  f206 := Tryz.func40.trans (congrArg some (by kernel_rfl))
  t3 := Tryz.underlying3
  a3 := Tryz.isAgg3
  z3 := Tryz.sizeOf3
  v3 := Tryz.zeroValue3
  t4 := Tryz.underlying4
  a4 := Tryz.isAgg4
  z4 := Tryz.sizeOf4
  v4 := Tryz.zeroValue4
  t9 := Tryz.underlying9
  a9 := Tryz.isAgg9
  z9 := Tryz.sizeOf9
  v9 := Tryz.zeroValue9 }
open Go.RowKit Go.Lib in
/-- strings.HasPrefix: "HasPrefix reports whether the string s begins with prefix.": IT RETURNS 'Lib.hasPrefix s prefix'; the world is as it was. (LAID: no walk: one application.) -/
theorem Tryz.strings_HasPrefix (s p : ByteArray) (w : World) :
    Calls Tryz.prog 27 #[.string s, .string p] w fun e w' => e = .returned (.bool (Lib.hasPrefix s.data.toList p.data.toList)) ∧ w' = w := Any.strings_HasPrefix Tryz.lays99 s p w
def Tryz.lays100_ren : Go.Shelf.Ren := ⟨fun | 100 => 37 | 207 => 60 | n => n, fun | 9 => 9 | 4 => 4 | 3 => 3 | n => n, fun | n => n⟩
theorem Tryz.lays100 : Go.Proofs.Lays.n100 Tryz.prog Tryz.lays100_ren := {
  mixed := by kernel_rfl
  f100 := Tryz.func37.trans (congrArg some (by kernel_rfl))
  f207 := Tryz.func60.trans (congrArg some (by kernel_rfl))
  t3 := Tryz.underlying3
  a3 := Tryz.isAgg3
  z3 := Tryz.sizeOf3
  v3 := Tryz.zeroValue3
  t4 := Tryz.underlying4
  a4 := Tryz.isAgg4
  z4 := Tryz.sizeOf4
  v4 := Tryz.zeroValue4
  t9 := Tryz.underlying9
  a9 := Tryz.isAgg9
  z9 := Tryz.sizeOf9
  v9 := Tryz.zeroValue9 }
open Go.RowKit Go.Lib in
/-- strings.HasSuffix: "HasSuffix reports whether the string s ends with suffix.": IT RETURNS 'Lib.hasSuffix s suffix'; the world is as it was. ('hs': no Go string is longer: a caller has it of every string that it was handed.) (LAID: no walk: one application.) -/
theorem Tryz.strings_HasSuffix (s p : ByteArray) (w : World) (hs : s.size ≤ 9223372036854775807) :
    Calls Tryz.prog 37 #[.string s, .string p] w fun e w' => e = .returned (.bool (Lib.hasSuffix s.data.toList p.data.toList)) ∧ w' = w := Any.strings_HasSuffix Tryz.lays100 s p w hs
def Tryz.lays227_ren : Go.Shelf.Ren := ⟨fun | 227 => 55 | n => n, fun | 9 => 9 | 116 => 114 | 4 => 4 | 0 => 0 | 3 => 3 | 5 => 5 | n => n, fun | n => n⟩
theorem Tryz.lays227 : Go.Proofs.Lays.n227 Tryz.prog Tryz.lays227_ren := {
  mixed := by kernel_rfl
  f227 := Tryz.func55.trans (congrArg some (by kernel_rfl))
  t0 := Tryz.underlying0
  a0 := Tryz.isAgg0
  z0 := Tryz.sizeOf0
  v0 := Tryz.zeroValue0
  t3 := Tryz.underlying3
  a3 := Tryz.isAgg3
  z3 := Tryz.sizeOf3
  v3 := Tryz.zeroValue3
  t4 := Tryz.underlying4
  a4 := Tryz.isAgg4
  z4 := Tryz.sizeOf4
  v4 := Tryz.zeroValue4
  t5 := Tryz.underlying5
  a5 := Tryz.isAgg5
  z5 := Tryz.sizeOf5
  v5 := Tryz.zeroValue5
  t9 := Tryz.underlying9
  a9 := Tryz.isAgg9
  z9 := Tryz.sizeOf9
  v9 := Tryz.zeroValue9
  t116 := Tryz.underlying114
  a116 := Tryz.isAgg114
  z116 := Tryz.sizeOf114 }
open Go.RowKit Go.Lib in
theorem Tryz.strings_makeASCIISet (hv116 : ∀ w, (zeroValue 114).run Tryz.prog w = .ok (.agg (Array.replicate 256 (.bool false))) w) (chars : ByteArray) (w : World) (hs : chars.size < 4294967281) (hascii : ∀ (j : Nat) b, chars.data.toList[j]? = some b → b.toNat < 128) :
    Calls Tryz.prog 55 #[.string chars] w fun e w' => e = .returned (.tuple #[.agg (Lib.setCells chars.data.toList), .bool true]) ∧ w' = w.alloc (.cells (Lib.setCells chars.data.toList) 114) := Any.strings_makeASCIISet Tryz.lays227 hv116 (by kernel_rfl) chars w hs hascii
end Go.Proofs

/-
  AX, twenty-third text: rows of bytes that the runtime makes; copies of nothing; rows that are made.
-/
namespace Go.AX

/-- A new row in a new block. -/
theorem Sat.newApp {ρ : List Loc} {S : Nat → Prop} {H : List Ent} {w w' : World} {T : TypeId} {sz n cap : Nat} {xs : List Value} (hs : Sat ρ S H w) {ob : Obj} (hheap : w'.heap = w.heap.push ob) (ho : w'.os = w.os) (ht : w'.tape = w.tape) (hu : w'.output = w.output) (hr : RowF T sz n xs w.heap.size cap w') :
    Sat (ρ ++ [⟨0, 0⟩]) S (H ++ [.app T sz xs (some ⟨w.heap.size, 0, none⟩) n cap]) w' ∧ Ev ρ S H w (ρ ++ [⟨0, 0⟩]) S (H ++ [.app T sz xs (some ⟨w.heap.size, 0, none⟩) n cap]) w' :=
  hs.snocG (e := .app T sz xs (some ⟨w.heap.size, 0, none⟩) n cap) (l := ⟨0, 0⟩) (w' := w') (ob := ob) (fun _ hb => (Option.some.inj hb).symm) hheap ho ht hu (.inr ⟨_, rfl, hr⟩)

end Go.AX

/-
  Contracts: functions of package strings that only read (by the shelf); Builder's Grow; Replace.
-/
namespace Go.Proofs.YteljlkkppaobeaaGreatDoor
open Go.AX Go.RowKit
set_option maxRecDepth 20000

/-- A variable of the library holds some number. -/
def MaxF (w : World) : Prop := ∃ m, w.cell? ⟨0, 0, none⟩ = some (.int .i64 m)

theorem HasPrefix_c (s p : List UInt8) : ∀ H, SpecH Tryz.prog 27 (pvs [.string (bs s), .string (bs p)]) H (Ret (.bool (p.isPrefixOf s)) H) := fun H =>
  SpecH.rawP (R := fun r => r = .bool (p.isPrefixOf s)) (callOk Tryz.func27 (by kernel_rfl) rfl)
    (fun w _ => (Tryz.strings_HasPrefix (bs s) (bs p) w).mono fun e w' ⟨he, hw⟩ => ⟨_, he, by rw [bs_list, bs_list]; rfl, by subst hw; exact Below.refl _ _⟩) fun r hr => by subst hr; exact ⟨rfl, rfl⟩
theorem HasSuffix_c (s p : List UInt8) (hs : s.length ≤ 9223372036854775807) : ∀ H, SpecH Tryz.prog 37 (pvs [.string (bs s), .string (bs p)]) H (Ret (.bool (p.isSuffixOf s)) H) := fun H =>
  SpecH.rawP (R := fun r => r = .bool (p.isSuffixOf s)) (callOk Tryz.func37 (by kernel_rfl) rfl)
    (fun w _ => (Tryz.strings_HasSuffix (bs s) (bs p) w (by rw [bs_size]; exact hs)).mono fun e w' ⟨he, hw⟩ => ⟨_, he, by rw [bs_list, bs_list]; rfl, by subst hw; exact Below.refl _ _⟩) fun r hr => by subst hr; exact ⟨rfl, rfl⟩
theorem IndexByte_c (s : List UInt8) (c : UInt8) : ∀ H, SpecH Tryz.prog 11 (pvs [.string (bs s), .int .u8 (c.toNat : Int)]) H (Ret (.int .i64 (Lib.indexByte s c)) H) := fun H =>
  SpecH.rawP (R := fun r => r = .int .i64 (Lib.indexByte s c)) (callOk Tryz.func11 (by kernel_rfl) rfl)
    (fun w _ => (Tryz.strings_IndexByte (bs s) (c.toNat : Int) w).mono fun e w' ⟨he, hw⟩ => ⟨_, he, by rw [bs_list]; simp, by subst hw; exact Below.refl _ _⟩) fun r hr => by subst hr; exact ⟨rfl, rfl⟩
theorem Count1_c (s : List UInt8) (c : UInt8) : ∀ H, SpecH Tryz.prog 137 (pvs [.string (bs s), .string (bs [c])]) H (Ret (.int .i64 (s.count c : Nat)) H) := fun H =>
  SpecH.rawP (R := fun r => r = .int .i64 (s.count c : Nat)) (callOk Tryz.func137 (by kernel_rfl) rfl)
    (fun w _ => (Tryz.strings_Count_one (bs s) c w).mono fun e w' ⟨he, hw⟩ => ⟨_, he, by rw [bs_list]; rfl, by subst hw; exact Below.refl _ _⟩) fun r hr => by subst hr; exact ⟨rfl, rfl⟩
theorem Cut_c (s p : List UInt8) (hs : s.length < 4294967281) : ∀ H, (∀ w, Facts H w → MaxF w) → SpecH Tryz.prog 41 (pvs [.string (bs s), .string (bs p)]) H (Ret (.tuple #[.string (bs (Lib.cut s p).1), .string (bs (Lib.cut s p).2.1), .bool (Lib.cut s p).2.2]) H) := fun H hF =>
  SpecH.rawP (R := fun r => r = .tuple #[.string (bs (Lib.cut s p).1), .string (bs (Lib.cut s p).2.1), .bool (Lib.cut s p).2.2]) (callOk Tryz.func41 (by kernel_rfl) rfl)
    (fun w hw => by
      obtain ⟨m, hm⟩ := hF w hw
      exact (Tryz.strings_Cut (bs s) (bs p) m w (by rw [bs_size]; exact hs) hm).mono fun e w' ⟨he, hw⟩ => ⟨_, he, by rw [bs_list, bs_list]; rfl, by obtain ⟨n, rfl⟩ := hw; exact ⟨rfl, rfl, rfl, Nat.le_refl _, fun _ _ => rfl⟩⟩) fun r hr => by subst hr; exact ⟨rfl, rfl⟩

/-! ### Builder's Grow, where nothing is written yet -/
/-! ### Replace -/
/-- How far the loop has come: what is left is replaced as all would be. -/
structure RpOk (s old new : List UInt8) (k : Nat) (i : Nat) (out : List UInt8) (st : Nat) : Prop where
  le : i ≤ k
  hst : st ≤ s.length
  cnt : k - i ≤ Lib.count (s.drop st) old
  eq : out ++ Lib.replaceK old new (k - i) (s.drop st) = Lib.replaceK old new k s
  len : out.length ≤ st + i * new.length
theorem RpOk.step {s old new : List UInt8} {k i : Nat} {out : List UInt8} {st : Nat} (h1 : 1 ≤ old.length) (h : RpOk s old new k i out st) (hi : i < k) :
    ∃ x : Nat, Lib.index (s.drop st) old = x ∧ st + x + old.length ≤ s.length ∧ RpOk s old new k (i + 1) (out ++ (s.take (st + x)).drop st ++ new) (st + x + old.length) := by
  obtain ⟨x, hx⟩ := Lib.index_of_count (s := s.drop st) (old := old) (by have := h.cnt; omega)
  have hroom := Lib.index_room (s.drop st) old (by omega)
  rw [hx, List.length_drop] at hroom
  have hst := h.hst
  have hd : (s.drop st).drop (x + old.length) = s.drop (st + x + old.length) := by rw [List.drop_drop]; congr 1; omega
  have ht : (s.drop st).take x = (s.take (st + x)).drop st := by rw [List.drop_take]; congr 1; omega
  refine ⟨x, hx, by omega, by omega, by omega, ?_, ?_, ?_⟩
  · have := Lib.count_hit (s := s.drop st) (sub := old) (i := x) (fun e => by rw [e] at h1; simp at h1) hx
    rw [hd] at this
    have := h.cnt
    omega
  · have h2 := h.eq
    rw [show k - i = (k - (i + 1)) + 1 by omega, Lib.replaceK_hit old new _ _ x hx, hd, ht] at h2
    rw [← h2]
    simp
  · have := h.len
    simp only [List.length_append, List.length_drop, List.length_take, Nat.add_mul]
    omega
end Go.Proofs.YteljlkkppaobeaaGreatDoor

/-
  Closed facts of the program that every row asks.
-/
namespace Go.Proofs.YteljlkkppaobeaaGreatDoor
open Go.ChangeShapes Go.WideShapes Go.ChangeAt Go.RowKit Go.AX
set_option maxRecDepth 100000
theorem own0 : ownKnob Tryz.prog.godebug = none := by kernel_rfl
theorem laidOut : laidOutB Tryz.prog = true := by kernel_rfl
theorem max_of {W : World} (h : W.ShapedOpen Tryz.prog) : MaxF W :=
  cell_of_shapedOpen_int (g := 0) (t := 3) (zero := #[.int .i64 0]) h (of_decide_eq_true (by kernel_rfl)) (by kernel_rfl) (by kernel_rfl) (by kernel_rfl) (by kernel_rfl) (by kernel_rfl)
theorem max_imm {W : World} (h : MaxF W) : Imm (fun b => b < W.heap.size) W MaxF := by
  refine ⟨h, fun w' hw => ?_⟩
  obtain ⟨m, hm⟩ := h
  exact ⟨m, cell?_keep hm (hw _ (cell?_lt hm))⟩
end Go.Proofs.YteljlkkppaobeaaGreatDoor

/-
  Contracts: the last place of a byte; blanks trimmed.
-/
namespace Go.Proofs.YteljlkkppaobeaaGreatDoor
open Go.AX Go.RowKit
set_option maxRecDepth 20000

/-- A table of truth values by byte. -/
def TabB (xs : List Value) (p : UInt8 → Bool) : Prop := ∀ c : UInt8, xs[c.toNat]? = some (.bool (p c))
theorem rnCs_vs (σ : List Nat) (N : Nat) : ∀ xs : List Value, rnCs σ N (vs xs) = vs xs
  | [] => rfl
  | x :: xs => by simp [vs, rnCs, rnC, rnCs_vs σ N xs]
theorem contains_c (T : TypeId) (xs : List Value) (p : UInt8 → Bool) (hp : TabB xs p) (c : UInt8) : SpecH Tryz.prog 72 [.c (.lp 0 0), .c (.v (.int .u8 (c.toNat : Int)))] [.blk T (vs xs)]
    (RetG (ι := Unit) (fun _ => True) (fun _ => .bool (p c)) fun _ => [.blk T (vs xs)]) := by
  refine ownC hm Tryz.func72 (by kernel_rfl) rfl rfl (fun _ _ => ⟨okCs_vs _ xs, trivial⟩) (fun _ _ => Nat.le_refl _) ?_
  have hc := c.toNat_lt
  (first | refine wX ?_ | exact wZ)
  have key : ∀ z, z = c.toNat → nthC (vs xs) z = some (.v (.bool (p c))) := fun z hz => by rw [hz, nthC_eq, vs_eq, List.getElem?_map, hp c]; rfl
  rw [key _ (by show 0 + Int.toNat (c.toNat : Int) * 1 = _; omega)]
  (first | refine wX ?_ | exact wZ)
  exact ⟨(), trivial, rfl, wkH_refl _⟩
theorem trimLeftASCII_c (T : TypeId) (xs : List Value) (p : UInt8 → Bool) (hp : TabB xs p) (s : List UInt8) : SpecH Tryz.prog 56 [.c (.v (.string (bs s))), .c (.lp 0 0)] [.blk T (vs xs)]
    (RetG (ι := Unit) (fun _ => True) (fun _ => .string (bs (s.dropWhile p))) fun _ => [.blk T (vs xs)]) := by
  refine ownC hm Tryz.func56 (by kernel_rfl) rfl rfl (fun _ _ => ⟨okCs_vs _ xs, trivial⟩) (fun _ _ => Nat.le_refl _) ?_
  (first | refine wX ?_ | exact wZ)
  refine LoopN.intro (List UInt8) (fun l => l.dropWhile p = s.dropWhile p) (fun l => mkS Tryz.f56.ntmps 0 [(0, .c (.v (.string (bs l)))), (1, .c (.lp 0 0))]) (fun _ => [.blk T (vs xs)]) (fun l => l.length) [] rfl (fun _ => rfl) (fun _ => rfl) (fun _ _ => ⟨okCs_vs _ xs, trivial⟩) ⟨s, rfl, ?_, wkH_refl _⟩ fun l hl => ?_
  · (repeat' (first | exact trivial | refine And.intro (by with_reducible rfl) ?_ | (with_reducible exact wkC_refl _) | (with_reducible exact wkCs_refl _) | refine And.intro ?_ ?_))
    all_goals rfl
  cases l with
  | nil =>
    (first | refine wX ?_ | exact wZ)
    exact ⟨(), trivial, by rw [← hl]; rfl, wkH_refl _⟩
  | cons c l =>
    have hb : byteAt (bs (c :: l)) 0 = (c.toNat : Int) := byteAt_get rfl
    (first | refine wX ?_ | exact wZ)
    rw [bs_size]
    refine brd_dec (fun _ => ?_) (fun h => by simp at h)
    (first | refine wX ?_ | exact wZ)
    refine Nd.mk ⟨by omega, by rw [bs_size]; simp⟩ ?_
    rw [show ((0 : Int).toNat) = 0 from rfl, hb]
    (first | refine wX ?_ | exact wZ)
    refine callG (contains_c T xs p hp c) [0] rfl ⟨by show some _ = some (rnE _ _ _); simp [rnE, rnCs_vs], trivial⟩ rfl fun _ _ => ?_
    (first | refine wX ?_ | exact wZ)
    refine brd_not (brd_intro (fun h => ?_) (fun h => ?_))
    · (first | refine wX ?_ | exact wZ)
      refine ReadW.sl_l 1 rfl (by kernel_rfl) rfl rfl ⟨rfl, by simp⟩ ?_
      (first | refine wX ?_ | exact wZ)
      refine ⟨l, by rw [← hl, List.dropWhile_cons_of_pos h], by simp, ?_, wkH_of_eq (by simp [rnE, rnCs_vs])⟩
      (repeat' (first | exact trivial | refine And.intro (by with_reducible rfl) ?_ | (with_reducible exact wkC_refl _) | (with_reducible exact wkCs_refl _) | refine And.intro ?_ ?_))
      rfl
    · (first | refine wX ?_ | exact wZ)
      exact ⟨(), trivial, by rw [← hl, List.dropWhile_cons_of_neg (by simp [h])], wkH_of_eq (by simp [rnE, rnCs_vs])⟩
def trimE (p : UInt8 → Bool) (s : List UInt8) : List UInt8 := (s.reverse.dropWhile p).reverse
theorem trimE_snoc (p : UInt8 → Bool) (s : List UInt8) (c : UInt8) : trimE p (s ++ [c]) = if p c then trimE p s else s ++ [c] := by
  unfold trimE
  rw [List.reverse_append, List.reverse_singleton, List.singleton_append, List.dropWhile_cons]
  split <;> simp
theorem trimRightASCII_c (T : TypeId) (xs : List Value) (p : UInt8 → Bool) (hp : TabB xs p) (s : List UInt8) (hs : s.length ≤ 1000000000) : SpecH Tryz.prog 57 [.c (.v (.string (bs s))), .c (.lp 0 0)] [.blk T (vs xs)]
    (RetG (ι := Unit) (fun _ => True) (fun _ => .string (bs (trimE p s))) fun _ => [.blk T (vs xs)]) := by
  refine ownC hm Tryz.func57 (by kernel_rfl) rfl rfl (fun _ _ => ⟨okCs_vs _ xs, trivial⟩) (fun _ _ => Nat.le_refl _) ?_
  (first | refine wX ?_ | exact wZ)
  refine LoopN.intro (List UInt8) (fun l => trimE p l = trimE p s ∧ l.length ≤ 1000000000) (fun l => mkS Tryz.f57.ntmps 0 [(0, .c (.v (.string (bs l)))), (1, .c (.lp 0 0))]) (fun _ => [.blk T (vs xs)]) (fun l => l.length) [] rfl (fun _ => rfl) (fun _ => rfl) (fun _ _ => ⟨okCs_vs _ xs, trivial⟩) ⟨s, ⟨rfl, hs⟩, ?_, wkH_refl _⟩ fun l ⟨hl, hll⟩ => ?_
  · (repeat' (first | exact trivial | refine And.intro (by with_reducible rfl) ?_ | (with_reducible exact wkC_refl _) | (with_reducible exact wkCs_refl _) | refine And.intro ?_ ?_))
    all_goals rfl
  rcases List.eq_nil_or_concat l with rfl | ⟨l, c, rfl⟩
  · (first | refine wX ?_ | exact wZ)
    exact ⟨(), trivial, by rw [← hl]; rfl, wkH_refl _⟩
  · rw [List.concat_eq_append] at *
    have hb : byteAt (bs (l ++ [c])) l.length = (c.toNat : Int) := byteAt_get (by simp)
    rw [List.length_append] at hll
    rw [trimE_snoc] at hl
    (first | refine wX ?_ | exact wZ)
    rw [bs_size]
    refine brd_dec (fun _ => ?_) (fun h => by simp at h)
    (first | refine wX ?_ | exact wZ)
    rw [bs_size]
    have e : IntKind.wrap .i64 (((l ++ [c]).length : Int) - 1) = (l.length : Int) := by rw [wrap_i64 (by simp; simp at hll; omega)]; simp
    rw [e]
    refine Nd.mk ⟨by omega, by simp; omega⟩ ?_
    rw [Int.toNat_natCast, hb]
    (first | refine wX ?_ | exact wZ)
    refine callG (contains_c T xs p hp c) [0] rfl ⟨by show some _ = some (rnE _ _ _); simp [rnE, rnCs_vs], trivial⟩ rfl fun _ _ => ?_
    (first | refine wX ?_ | exact wZ)
    refine brd_not (brd_intro (fun h => ?_) (fun h => ?_))
    · (first | refine wX ?_ | exact wZ)
      refine ReadW.sl_h l.length rfl (by kernel_rfl) rfl rfl ⟨by rw [bs_size]; exact e, by simp⟩ ?_
      (first | refine wX ?_ | exact wZ)
      refine ⟨l, ⟨by rw [← hl, if_pos h], by simp at hll; omega⟩, by simp, ?_, wkH_of_eq (by simp [rnE, rnCs_vs])⟩
      (repeat' (first | exact trivial | refine And.intro (by with_reducible rfl) ?_ | (with_reducible exact wkC_refl _) | (with_reducible exact wkCs_refl _) | refine And.intro ?_ ?_))
      simp
    · (first | refine wX ?_ | exact wZ)
      exact ⟨(), trivial, by rw [← hl, if_neg (by simp [h])], wkH_of_eq (by simp [rnE, rnCs_vs])⟩
theorem zero_set : (Tryz.prog.info? 114).map (fun i => i.zero) = some (some (.agg (Array.replicate 256 (.bool false)))) := by kernel_rfl
end Go.Proofs.YteljlkkppaobeaaGreatDoor

/-
  Plain: options, what is valid, what is found.
-/
namespace Go.Opts

/-- An option. -/
structure Opt where
  name : List UInt8
  short : UInt8
  kind : Int
  dflt : List UInt8
  must : Bool
def lowL : List UInt8 := [97, 98, 99, 100, 101, 102, 103, 104, 105, 106, 107, 108, 109, 110, 111, 112, 113, 114, 115, 116, 117, 118, 119, 120, 121, 122]
def numL : List UInt8 := [48, 49, 50, 51, 52, 53, 54, 55, 56, 57]
def nameL : List UInt8 := lowL ++ numL ++ [45]
def shortL : List UInt8 := lowL ++ lowL.map (· - 32) ++ numL
def nameB (c : UInt8) : Bool := decide (97 ≤ c.toNat) && decide (c.toNat ≤ 122) || decide (48 ≤ c.toNat) && decide (c.toNat ≤ 57) || decide (c.toNat = 45)
/-- Whether an option is valid by itself. -/
def okB (o : Opt) : Bool :=
  decide (2 ≤ o.name.length) && decide (o.name.length ≤ 20) && lowL.contains (o.name.headD 0) && o.name.all nameB && !([45] : List UInt8).isSuffixOf o.name && !([110, 111, 45] : List UInt8).isPrefixOf o.name &&
    (o.short == 0 || shortL.contains o.short) && decide (0 ≤ o.kind) && decide (o.kind ≤ 5) && (o.dflt == [] || o.kind == 1 || o.kind == 2)
/-- Whether two options are one. -/
def oneB (o p : Opt) : Bool := p.name == o.name || p.short == o.short && o.short != 0
/-- Whether options are valid. -/
def chkB (l : List Opt) : Bool := decide (l.length ≤ 30) && (List.range l.length).all fun i => match l[i]? with | some o => okB o && !(l.take i).any (oneB o) | none => true
/-- What is found of the forms of one name: a full name, or how many begin so, and the last of them. -/
structure Hit where
  full : Option (Nat × Bool)
  at_ : Nat
  no : Bool
  hits : Nat
def form1 (i : Nat) (k : Bool) (f name : List UInt8) (h : Hit) : Hit :=
  if h.full.isSome then h else if f == name then { h with full := some (i, k) } else if name != [] && name.isPrefixOf f then { h with at_ := i, no := k, hits := h.hits + 1 } else h
def forms1 (i : Nat) (o : Opt) (name : List UInt8) (h : Hit) : Hit :=
  let h := form1 i false o.name name h
  if o.kind == 5 then form1 i true ([110, 111, 45] ++ o.name) name h else h
def hitS (name : List UInt8) : Nat → List Opt → Hit → Hit
  | _, [], h => h
  | i, o :: l, h => hitS name (i + 1) l (forms1 i o name h)
/-- What Find answers: the option, whether it is the form that says no, the error. -/
def findS (l : List Opt) (name : List UInt8) : Nat × Bool × Int :=
  let h := hitS name 0 l ⟨none, 0, false, 0⟩
  match h.full with
  | some (i, k) => (i, k, 0)
  | none => if h.hits = 0 then (0, false, 6) else if h.hits = 1 then (h.at_, h.no, 0) else (0, false, 7)
theorem trim_nil {p : UInt8 → Bool} (s : List UInt8) : (((s.reverse.dropWhile p).reverse).dropWhile p == []) = s.all p := by
  rw [Bool.eq_iff_iff, beq_iff_eq, List.all_eq_true]
  constructor
  · intro h
    have h1 : ∀ (l : List UInt8), l.dropWhile p = [] → ∀ x ∈ l, p x = true := by
      intro l
      induction l with
      | nil => intro _ x hx; cases hx
      | cons a l ih =>
        intro h x hx
        rw [List.dropWhile_cons] at h
        split at h
        · rename_i ha
          rcases List.mem_cons.1 hx with rfl | hx
          · exact ha
          · exact ih h x hx
        · cases h
    have h2 := h1 _ h
    intro x hx
    have h3 : x ∈ s.reverse.takeWhile p ++ s.reverse.dropWhile p := by rw [List.takeWhile_append_dropWhile]; exact List.mem_reverse.2 hx
    rcases List.mem_append.1 h3 with h4 | h4
    · have := List.all_takeWhile (p := p) (l := s.reverse)
      exact List.all_eq_true.1 this x h4
    · exact h2 x (List.mem_reverse.2 h4)
  · intro h
    have : s.reverse.dropWhile p = [] := by
      have h1 : ∀ (l : List UInt8), (∀ x ∈ l, p x = true) → l.dropWhile p = [] := by
        intro l
        induction l with
        | nil => intro _; rfl
        | cons a l ih =>
          intro h
          rw [List.dropWhile_cons, if_pos (h a (List.mem_cons_self ..))]
          exact ih fun x hx => h x (List.mem_cons_of_mem _ hx)
      exact h1 _ fun x hx => h x (List.mem_reverse.1 hx)
    rw [this]; rfl
end Go.Opts

/-
  Contracts: what is trimmed by a name's bytes; capitals.
-/
namespace Go.Proofs.YteljlkkppaobeaaGreatDoor
open Go.AX Go.RowKit Go.Opts
set_option maxRecDepth 20000

def nameTab : List Value := (List.range 256).map fun i => .bool (decide (97 ≤ i) && decide (i ≤ 122) || decide (48 ≤ i) && decide (i ≤ 57) || decide (i = 45))
theorem nameTab_ok : TabB nameTab nameB := fun c => by
  have hc := c.toNat_lt
  unfold nameTab nameB
  rw [List.getElem?_map, List.getElem?_range (by omega)]
  rfl
theorem setCells_name : (Lib.setCells nameL).toList = nameTab := by kernel_rfl
theorem setCells_name' : Lib.setCells nameL = nameTab.toArray := by apply Array.ext'; rw [setCells_name]
theorem makeName_c : ∀ H, SpecH Tryz.prog 55 (pvs [.string (bs nameL)]) H (Ret (.tuple #[.agg nameTab.toArray, .bool true]) H) := fun H =>
  SpecH.rawP (R := fun r => r = .tuple #[.agg nameTab.toArray, .bool true]) (callOk Tryz.func55 (by kernel_rfl) rfl)
    (fun w _ => (Tryz.strings_makeASCIISet (fun w => by obtain ⟨i, hi, hz⟩ := Option.map_eq_some_iff.1 zero_set; exact run_zeroValue hi hz w) (bs nameL) w (by decide) (by
      intro j b hj
      rw [bs_list] at hj
      have hall : ∀ x ∈ nameL, x.toNat < 128 := by decide
      exact hall b (List.mem_of_getElem? hj))).mono fun e w' ⟨he, hw⟩ => ⟨_, he, by rw [bs_list, setCells_name'], by subst hw; exact (Below.refl _ w).alloc (Nat.le_refl _) _⟩) fun r hr => by subst hr; exact ⟨rfl, rfl⟩
theorem TrimN_c (s : List UInt8) (hs : s.length ≤ 1000000000) : ∀ H, SpecH Tryz.prog 36 (pvs [.string (bs s), .string (bs nameL)]) H (Ret (.string (bs ((trimE nameB s).dropWhile nameB))) H) := by
  refine pureC hm Tryz.func36 (by kernel_rfl) rfl rfl ?_
  (first | refine wX ?_ | exact wZ)
  rw [bs_list]
  refine brd_intro (fun h => ?_) (fun h => ?_)
  · have : s = [] := by simpa using h
    subst this
    (first | refine wX ?_ | exact wZ)
    rfl
  · (first | refine wX ?_ | exact wZ)
    refine call1 (makeName_c _) ?_
    (first | refine wX ?_ | exact wZ)
    refine callG (trimRightASCII_c _ nameTab nameB nameTab_ok s hs) [0] rfl ⟨rfl, trivial⟩ rfl fun _ _ => ?_
    (first | refine wX ?_ | exact wZ)
    refine callG (trimLeftASCII_c _ nameTab nameB nameTab_ok (trimE nameB s)) [0] rfl ⟨rfl, trivial⟩ rfl fun _ _ => ?_
    (first | refine wX ?_ | exact wZ)
theorem upper_low : Lib.toUpperA lowL = lowL.map (· - 32) := by decide
theorem ToUpper_c : ∀ H, SpecH Tryz.prog 38 (pvs [.string (bs lowL)]) H (Ret (.string (bs (lowL.map (· - 32)))) H) := fun H =>
  SpecH.rawP (R := fun r => r = .string (bs (lowL.map (· - 32)))) (callOk Tryz.func38 (by kernel_rfl) rfl)
    (fun w _ => (Tryz.strings_ToUpper_ascii (bs lowL) w (by decide) (by
      intro j b hj
      rw [bs_list] at hj
      have hall : ∀ x ∈ lowL, x.toNat < 128 := by decide
      exact hall b (List.mem_of_getElem? hj))).mono fun e w' ⟨he, hw⟩ => ⟨_, he, by rw [bs_list, upper_low]; rfl, hw⟩) fun r hr => by subst hr; exact ⟨rfl, rfl⟩
end Go.Proofs.YteljlkkppaobeaaGreatDoor

/-
  Contract: whether an option is valid (program).
-/
namespace Go.Proofs.YteljlkkppaobeaaGreatDoor
open Go.AX Go.RowKit Go.Opts
set_option maxRecDepth 20000

def optC (o : Opt) : List Value := [.string (bs o.name), .int .u8 (o.short.toNat : Int), .int .i64 o.kind, .string (bs o.dflt), .bool o.must]
def optsC (l : List Opt) : List Value := l.flatMap optC
def optV (o : Opt) : Value := .agg #[.string (bs o.name), .int .u8 (o.short.toNat : Int), .int .i64 o.kind, .string (bs o.dflt), .bool o.must]
theorem index_neg (l : List UInt8) (c : UInt8) : decide (Lib.indexByte l c < 0) = !l.contains c := by
  have h : Lib.indexByte l c < 0 ↔ l.contains c = false := by
    induction l with
    | nil => simp [Lib.indexByte]
    | cons b l ih =>
      have hge := Lib.indexByte_ge l c
      unfold Lib.indexByte
      cases hb : b == c with
      | true =>
        have hbc : b = c := by simpa using hb
        simp [hbc]
      | false =>
        have hbc : (c == b) = false := by
          have : ¬ b = c := by simpa using hb
          simpa using fun h => this h.symm
        rw [List.contains_cons, hbc, Bool.false_or, ← ih]
        simp only [Bool.false_eq_true, if_false]
        split
        · rename_i h1
          have : Lib.indexByte l c = -1 := by simpa using h1
          omega
        · rename_i h1
          have : ¬ Lib.indexByte l c = -1 := by simpa using h1
          omega
  rw [Bool.eq_iff_iff, decide_eq_true_eq, Bool.not_eq_true']
  exact h
set_option maxHeartbeats 2000000 in
theorem isOption_c (o : Opt) (hn : o.name.length ≤ 1000000000) : ∀ H, SpecH Tryz.prog 24 (pvs [optV o]) H (Ret (.bool (okB o)) H) := by
  refine pureC hm Tryz.func24 (by kernel_rfl) rfl rfl ?_
  have hz := bs_size o.name
  (first | refine wX ?_ | exact wZ)
  rw [hz]
  refine brd_dec (fun h1 => ?_) (fun h1 => ?_)
  · rw [show okB o = false by have : ¬ 2 ≤ o.name.length := by omega
                              simp [okB, this]]
    (first | refine wX ?_ | exact wZ)
  (first | refine wX ?_ | exact wZ)
  rw [hz]
  refine brd_dec (fun h2 => ?_) (fun h2 => ?_)
  · rw [show okB o = false by have : ¬ o.name.length ≤ 20 := by omega
                              simp [okB, this]]
    (first | refine wX ?_ | exact wZ)
  obtain ⟨c, hc⟩ : ∃ c, o.name[0]? = some c := ⟨_, List.getElem?_eq_getElem (by omega)⟩
  have hhd : o.name.headD 0 = c := by rw [List.headD_eq_head?_getD, List.head?_eq_getElem?, hc]; rfl
  (first | refine wX ?_ | exact wZ)
  rw [show byteAt (bs o.name) (Int.toNat 0) = (c.toNat : Int) from byteAt_get hc, show (⟨#[97, 98, 99, 100, 101, 102, 103, 104, 105, 106, 107, 108, 109, 110, 111, 112, 113, 114, 115, 116, 117, 118, 119, 120, 121, 122]⟩ : ByteArray) = bs lowL from rfl]
  (first | refine wX ?_ | exact wZ)
  refine call1 (IndexByte_c lowL c _) ?_
  (first | refine wX ?_ | exact wZ)
  rw [index_neg]
  cases h3 : lowL.contains c with
  | false =>
    rw [show okB o = false by simp only [okB, hhd, h3, Bool.and_false, Bool.false_and]]
    (first | refine wX ?_ | exact wZ)
  | true =>
  (first | refine wX ?_ | exact wZ)
  rw [show (⟨#[97, 98, 99, 100, 101, 102, 103, 104, 105, 106, 107, 108, 109, 110, 111, 112, 113, 114, 115, 116, 117, 118, 119, 120, 121, 122, 48, 49, 50, 51, 52, 53, 54, 55, 56, 57, 45]⟩ : ByteArray) = bs nameL from rfl]
  refine call1 (TrimN_c o.name hn _) ?_
  have htr : ((bs ((trimE nameB o.name).dropWhile nameB)).data.toList == (⟨#[]⟩ : ByteArray).data.toList) = o.name.all nameB := by rw [bs_list]; exact trim_nil (p := nameB) o.name
  (first | refine wX ?_ | exact wZ)
  rw [htr]
  cases h4 : o.name.all nameB with
  | false =>
    rw [show okB o = false by simp only [okB, h4, Bool.and_false, Bool.false_and]]
    (first | refine wX ?_ | exact wZ)
  | true =>
  (first | refine wX ?_ | exact wZ)
  rw [show (⟨#[45]⟩ : ByteArray) = bs [45] from rfl]
  refine call1 (HasSuffix_c o.name [45] (by omega) _) ?_
  cases h5 : ([45] : List UInt8).isSuffixOf o.name with
  | true =>
    rw [show okB o = false by simp only [okB, h5, Bool.not_true, Bool.and_false, Bool.false_and]]
    (first | refine wX ?_ | exact wZ)
  | false =>
  (first | refine wX ?_ | exact wZ)
  rw [show (⟨#[110, 111, 45]⟩ : ByteArray) = bs [110, 111, 45] from rfl]
  refine call1 (HasPrefix_c o.name [110, 111, 45] _) ?_
  cases h6 : ([110, 111, 45] : List UInt8).isPrefixOf o.name with
  | true =>
    rw [show okB o = false by simp only [okB, h6, Bool.not_true, Bool.and_false, Bool.false_and]]
    (first | refine wX ?_ | exact wZ)
  | false =>
  have hlet : decide (2 ≤ o.name.length) = true := by simp; omega
  have hlet2 : decide (o.name.length ≤ 20) = true := by simp; omega
  have hok : okB o = ((o.short == 0 || shortL.contains o.short) && decide (0 ≤ o.kind) && decide (o.kind ≤ 5) && (o.dflt == [] || o.kind == 1 || o.kind == 2)) := by
    simp only [okB, hlet, hlet2, hhd, h3, h4, h5, h6, Bool.not_false, Bool.true_and]
  rw [hok]
  have hsh : ((o.short.toNat : Int) == 0) = (o.short == 0) := by
    rw [Bool.eq_iff_iff, beq_iff_eq, beq_iff_eq]
    exact ⟨fun h => UInt8.toNat_inj.1 (by simpa using h), fun h => by rw [h]; rfl⟩
  have hd : ((bs o.dflt).data.toList == (⟨#[]⟩ : ByteArray).data.toList) = (o.dflt == []) := by rw [bs_list]
  (first | refine wX ?_ | exact wZ)
  rw [bne, hsh]
  cases h7 : o.short == 0 with
  | true =>
    rw [Bool.true_or, Bool.true_and]
    (first | refine wX ?_ | exact wZ)
    refine brd_dec (fun k0 => ?_) (fun k0 => ?_)
    · rw [show decide (0 ≤ o.kind) = true by simpa using k0, Bool.true_and]
      (first | refine wX ?_ | exact wZ)
      refine brd_dec (fun k1 => ?_) (fun k1 => ?_)
      · rw [show decide (o.kind ≤ 5) = true by simpa using k1, Bool.true_and]
        (first | refine wX ?_ | exact wZ)
        rw [hd]
        cases h9 : o.dflt == [] with
        | true =>
          rw [Bool.true_or, Bool.true_or]
          (first | refine wX ?_ | exact wZ)
        | false =>
          rw [Bool.false_or]
          (first | refine wX ?_ | exact wZ)
          cases h10 : o.kind == 1 with
          | true =>
            rw [Bool.true_or]
            (first | refine wX ?_ | exact wZ)
          | false =>
            rw [Bool.false_or]
            (first | refine wX ?_ | exact wZ)
      · rw [show decide (o.kind ≤ 5) = false by simpa using k1, Bool.false_and]
        (first | refine wX ?_ | exact wZ)
    · rw [show decide (0 ≤ o.kind) = false by simpa using k0, Bool.false_and, Bool.false_and]
      (first | refine wX ?_ | exact wZ)
  | false =>
    (first | refine wX ?_ | exact wZ)
    refine callQ (ToUpper_c _) ?_
    (first | refine wX ?_ | exact wZ)
    rw [bs_app]
    (first | refine wX ?_ | exact wZ)
    rw [show (⟨#[48, 49, 50, 51, 52, 53, 54, 55, 56, 57]⟩ : ByteArray) = bs numL from rfl, bs_app]
    (first | refine wX ?_ | exact wZ)
    refine callQ (IndexByte_c shortL o.short _) ?_
    (first | refine wX ?_ | exact wZ)
    rw [index_neg]
    rw [Bool.false_or]
    cases h8 : shortL.contains o.short with
    | false =>
      rw [Bool.false_and, Bool.false_and, Bool.false_and]
      (first | refine wX ?_ | exact wZ)
    | true =>
      rw [Bool.true_and]
      (first | refine wX ?_ | exact wZ)
      refine brd_dec (fun k0 => ?_) (fun k0 => ?_)
      · rw [show decide (0 ≤ o.kind) = true by simpa using k0, Bool.true_and]
        (first | refine wX ?_ | exact wZ)
        refine brd_dec (fun k1 => ?_) (fun k1 => ?_)
        · rw [show decide (o.kind ≤ 5) = true by simpa using k1, Bool.true_and]
          (first | refine wX ?_ | exact wZ)
          rw [hd]
          cases h9 : o.dflt == [] with
          | true =>
            rw [Bool.true_or, Bool.true_or]
            (first | refine wX ?_ | exact wZ)
          | false =>
            rw [Bool.false_or]
            (first | refine wX ?_ | exact wZ)
            cases h10 : o.kind == 1 with
            | true =>
              rw [Bool.true_or]
              (first | refine wX ?_ | exact wZ)
            | false =>
              rw [Bool.false_or]
              (first | refine wX ?_ | exact wZ)
        · rw [show decide (o.kind ≤ 5) = false by simpa using k1, Bool.false_and]
          (first | refine wX ?_ | exact wZ)
      · rw [show decide (0 ≤ o.kind) = false by simpa using k0, Bool.false_and, Bool.false_and]
        (first | refine wX ?_ | exact wZ)
end Go.Proofs.YteljlkkppaobeaaGreatDoor

/-
  Contracts: whether options are valid (program).
-/
namespace Go.Proofs.YteljlkkppaobeaaGreatDoor
open Go.AX Go.RowKit Go.Opts
set_option maxRecDepth 20000

theorem optsC_get (l : List Opt) (i j : Nat) (hj : j < 5) {t : Opt} (ht : l[i]? = some t) : (optsC l)[i * 5 + j]? = (optC t)[j]? := by
  unfold optsC
  rw [flat_get (g := optC) (m := 5) (fun _ => rfl) l i j hj, ht]
  rfl
theorem name_eq (a b : List UInt8) : ((bs a).data.toList == (bs b).data.toList) = (a == b) := by rw [bs_list, bs_list]
theorem u8_beq (a b : UInt8) : ((a.toNat : Int) == (b.toNat : Int)) = (a == b) := by
  rw [Bool.eq_iff_iff, beq_iff_eq, beq_iff_eq]
  exact ⟨fun h => UInt8.toNat_inj.1 (by omega), fun h => by rw [h]⟩
theorem u8_zero (a : UInt8) : ((a.toNat : Int) == 0) = (a == 0) := by
  rw [Bool.eq_iff_iff, beq_iff_eq, beq_iff_eq]
  exact ⟨fun h => UInt8.toNat_inj.1 (by simpa using h), fun h => by rw [h]; rfl⟩
theorem one_c (o p : Opt) (ob : Nat) : ∀ H, (∀ w, Facts H w → SlAt (some ⟨ob, 0, none⟩) 5 (optC o) w) → SpecH Tryz.prog 26 (pvs [optV p, .pointer (some ⟨ob, 0, none⟩)]) H (Ret (.bool (oneB o p)) H) := by
  refine factC hm Tryz.func26 (by kernel_rfl) rfl rfl ?_
  (first | refine wX ?_ | exact wZ)
  refine LdN.one (a := some ⟨ob, 0, none⟩) (q := 0) (.string (bs o.name)) rfl (fun w hw => hw.1) rfl ?_
  (first | refine wX ?_ | exact wZ)
  rw [name_eq]
  unfold oneB
  cases h1 : p.name == o.name with
  | true =>
    rw [Bool.true_or]
    (first | refine wX ?_ | exact wZ)
  | false =>
    rw [Bool.false_or]
    (first | refine wX ?_ | exact wZ)
    refine LdN.one (a := some ⟨ob, 0, none⟩) (q := 1) (.int .u8 (o.short.toNat : Int)) rfl (fun w hw => hw.1) rfl ?_
    (first | refine wX ?_ | exact wZ)
    rw [u8_beq]
    cases h2 : p.short == o.short with
    | false =>
      rw [Bool.false_and]
      (first | refine wX ?_ | exact wZ)
    | true =>
      rw [Bool.true_and]
      (first | refine wX ?_ | exact wZ)
      refine LdN.one (a := some ⟨ob, 0, none⟩) (q := 1) (.int .u8 (o.short.toNat : Int)) rfl (fun w hw => hw.1) rfl ?_
      (first | refine wX ?_ | exact wZ)
      rw [bne, u8_zero]
      cases h3 : o.short == 0 <;> simp [bne, h3]
/-- The first option of which a closure says yes. -/
def idx (f : Opt → Bool) : List Opt → Nat → Int
  | [], _ => -1
  | o :: l, i => if f o then (i : Int) else idx f l (i + 1)
theorem idx_spec (f : Opt → Bool) : ∀ (l : List Opt) (i : Nat), (idx f l i = -1 ∧ l.any f = false) ∨ ((i : Int) ≤ idx f l i ∧ idx f l i < i + l.length ∧ l.any f = true)
  | [], _ => .inl ⟨rfl, rfl⟩
  | o :: l, i => by
    unfold idx
    cases h : f o with
    | true => exact .inr ⟨by simp, by simp only [if_true, List.length_cons]; omega, by simp [h]⟩
    | false =>
      rcases idx_spec f l (i + 1) with ⟨h1, h2⟩ | ⟨h1, h2, h3⟩
      · exact .inl ⟨by simpa using h1, by simp [h, h2]⟩
      · refine .inr ⟨?_, ?_, by simp [h, h3]⟩
        · simp only [Bool.false_eq_true, if_false]; omega
        · simp only [Bool.false_eq_true, if_false, List.length_cons]; omega
theorem idx_drop (f : Opt → Bool) (l : List Opt) (i : Nat) {o : Opt} (h : l[i]? = some o) : idx f (l.drop i) i = if f o then (i : Int) else idx f (l.drop (i + 1)) (i + 1) := by
  obtain ⟨hlt, hx⟩ := List.getElem?_eq_some_iff.1 h
  rw [List.drop_eq_getElem_cons hlt, hx]
  rfl
/-- IndexFunc of options by any closure of which a contract says what it answers. -/
theorem IndexFunc_c (f : Opt → Bool) (g : Nat) (caps : Array Value) (F : World → Prop) (hf : ∀ p : Opt, ∀ H, (∀ w, Facts H w → F w) → SpecH Tryz.prog g (pvs [optV p] ++ pvs caps.toList) H (Ret (.bool (f p)) H)) (a : Option Addr) (cap : Nat) (l : List Opt) (n : Nat) (ha : a = none → l = []) (hn : n ≤ l.length) (hl : l.length ≤ 100000) : ∀ H, (∀ w, Facts H w → SlAt a (l.length * 5) (optsC l) w ∧ F w) →
    SpecH Tryz.prog 39 (pvs [.slice a n cap, .func (.func g) #[] caps]) H (Ret (.int .i64 (idx f (l.take n) 0)) H) := by
  refine factC hm Tryz.func39 (by kernel_rfl) rfl rfl ?_
  (first | refine wX ?_ | exact wZ)
  refine loopS Nat (fun i => i ≤ n ∧ idx f (l.take n) 0 = idx f ((l.take n).drop i) i) (fun i => mkS Tryz.f39.ntmps 0 [(0, .c (.v (.slice a n cap))), (1, .c (.v (.func (.func g) #[] caps))), (7, .c (.v (.int .i64 (n : Int)))), (8, .c (.v (.int .i64 (i : Int))))]) (fun i => n - i) rfl (fun _ => rfl) 0 ⟨Nat.zero_le _, rfl⟩ ?_ fun i ⟨hi, he⟩ => ?_
  · (repeat' (first | exact trivial | refine And.intro (by with_reducible rfl) ?_ | (with_reducible exact wkC_refl _) | (with_reducible exact wkCs_refl _) | refine And.intro ?_ ?_))
    all_goals rfl
  (first | refine wX ?_ | exact wZ)
  refine brd_dec (fun h1 => ?_) (fun h1 => ?_)
  · obtain ⟨o, ho⟩ : ∃ o, l[i]? = some o := ⟨_, List.getElem?_eq_getElem (by omega)⟩
    have hot : (l.take n)[i]? = some o := by rw [List.getElem?_take, if_pos (by omega), ho]
    have hd := idx_drop f (l.take n) i hot
    have hsa : a.isSome = true := by
      cases a with
      | none => rw [ha rfl] at ho; cases ho
      | some b => rfl
    (first | refine wX ?_ | exact wZ)
    refine Nd.mk ⟨hsa, by omega, by omega⟩ ?_
    (first | refine wX ?_ | exact wZ)
    refine LdN.agg (optC o) rfl (fun w hw => hw.1.1) rfl (fun j hj => by
      rw [Int.toNat_natCast]
      exact optsC_get l i j hj ho) ?_
    (first | refine wX ?_ | exact wZ)
    refine call1 (hf o _ (fun w hw => hw.1.2)) ?_
    cases hfo : f o with
    | true =>
      rw [hfo] at hd
      rw [he, hd]
      (first | refine wX ?_ | exact wZ)
      rfl
    | false =>
      rw [hfo] at hd
      (first | refine wX ?_ | exact wZ)
      refine ⟨i + 1, ⟨by omega, by rw [he, hd]; rfl⟩, by omega, ?_, by (repeat' (first | exact trivial | exact wkE_refl _ | refine And.intro ?_ ?_))⟩
      (repeat' (first | exact trivial | refine And.intro (by with_reducible rfl) ?_ | (with_reducible exact wkC_refl _) | (with_reducible exact wkCs_refl _) | refine And.intro ?_ ?_))
      all_goals first | rfl | exact av_int (by rw [wrap_i64 (by omega)]; omega)
  · have hin : i = n := by omega
    subst hin
    rw [he, List.drop_of_length_le (by simp; omega)]
    (first | refine wX ?_ | exact wZ)
    rfl
theorem ContainsFunc_c (f : Opt → Bool) (g : Nat) (caps : Array Value) (F : World → Prop) (hf : ∀ p : Opt, ∀ H, (∀ w, Facts H w → F w) → SpecH Tryz.prog g (pvs [optV p] ++ pvs caps.toList) H (Ret (.bool (f p)) H)) (a : Option Addr) (cap : Nat) (l : List Opt) (n : Nat) (ha : a = none → l = []) (hn : n ≤ l.length) (hl : l.length ≤ 100000) : ∀ H, (∀ w, Facts H w → SlAt a (l.length * 5) (optsC l) w ∧ F w) →
    SpecH Tryz.prog 25 (pvs [.slice a n cap, .func (.func g) #[] caps]) H (Ret (.bool ((l.take n).any f)) H) := by
  refine factC hm Tryz.func25 (by kernel_rfl) rfl rfl ?_
  (first | refine wX ?_ | exact wZ)
  refine call1 (IndexFunc_c f g caps F hf a cap l n ha hn hl _ (fun w hw => hw.1)) ?_
  (first | refine wX ?_ | exact wZ)
  rcases idx_spec f (l.take n) 0 with ⟨h1, h2⟩ | ⟨h1, h2, h3⟩
  · rw [h1, h2]
    rfl
  · rw [h3]
    exact out_bool (decide_eq_true (by omega))
end Go.Proofs.YteljlkkppaobeaaGreatDoor

/-
  AX, twenty-eighth text: a struct of one's own at a known address: one cell is set (as the model's own functions without body set it).
-/
namespace Go.AX

theorem app1_arr {ρ : List Loc} {S : Nat → Prop} {w : World} {i : Nat} {T : TypeId} {m b : Nat} {xs : List Value} (h : EntOk ρ S w i (.app T m xs (some ⟨b, 0, none⟩) 1 1)) : (∃ fr, w.heap[b]? = some (.cells xs.toArray T fr) ∧ NoFr fr xs.length) ∧ xs.length = m := by
  rcases h with ⟨h0, _⟩ | ⟨b', hb', arr, fr, ⟨hb, hfr⟩, hxl, _, _, hasz, htk⟩
  · cases h0
  · cases hb'
    rw [Nat.one_mul] at hxl hasz htk
    have e : arr.toList = xs := by rw [← htk, List.take_of_length_le (by simp [hasz])]
    refine ⟨⟨fr, ?_, ?_⟩, hxl⟩
    · rw [hb, ← e]
    · rw [← e]; simpa using hfr
theorem Sat.setApp1 {ρ : List Loc} {S : Nat → Prop} {H : List Ent} {w : World} {i : Nat} {T : TypeId} {m b : Nat} {xs : List Value} (hs : Sat ρ S H w) (hi : H[i]? = some (.app T m xs (some ⟨b, 0, none⟩) 1 1)) (j : Nat) (v : Value) {w0 : World} (hh : w0.heap = w.heap) (ho : w0.os = w.os) (ht : w0.tape = w.tape) (hu : w0.output = w.output) :
    Sat ρ S (H.set i (.app T m (xs.set j v) (some ⟨b, 0, none⟩) 1 1)) (w0.setCell ⟨b, j, none⟩ v) ∧ Ev ρ S H w ρ S (H.set i (.app T m (xs.set j v) (some ⟨b, 0, none⟩) 1 1)) (w0.setCell ⟨b, j, none⟩ v) := by
  obtain ⟨⟨fr, hb, hfr⟩, hm⟩ := app1_arr (hs.ent i _ hi)
  have hbl : b < w.heap.size := (Array.getElem?_eq_some_iff.1 hb).1
  have hsame : (w0.setCell ⟨b, j, none⟩ v).heap[b]? = some (.cells (xs.toArray.setIfInBounds j v) T fr) := by
    simp [World.setCell, Array.getElem?_modify, hh, hb]
  refine hs.setG (e' := .app T m (xs.set j v) (some ⟨b, 0, none⟩) 1 1) (c := b) hi rfl (by simp [World.setCell, hh]) (fun k _ hne => by simp [World.setCell, Array.getElem?_modify, Ne.symm hne, hh]) ho ht hu (fun c hc => .inl (Option.some.inj hc).symm) (.inr ⟨b, rfl, _, fr, ⟨hsame, by simpa using hfr⟩, by simp [hm], Nat.le_refl _, by simp only [maxLen]; omega, by simp [hm], ?_⟩)
  simp only [Nat.one_mul]
  rw [List.take_of_length_le (by simp [hm])]
  simp
theorem app1_cell {ρ : List Loc} {S : Nat → Prop} {w : World} {i : Nat} {T : TypeId} {m b : Nat} {xs : List Value} (h : EntOk ρ S w i (.app T m xs (some ⟨b, 0, none⟩) 1 1)) {j : Nat} {v : Value} (hv : xs[j]? = some v) : w.cell? ⟨b, j, none⟩ = some v ∧ w.frozen? ⟨b, j, none⟩ = false := by
  obtain ⟨⟨fr, hb, hfr⟩, _⟩ := app1_arr h
  have hj := (List.getElem?_eq_some_iff.1 hv).1
  constructor
  · simp [World.cell?, hb, hv]
  · obtain ⟨lo, hi⟩ := fr
    simp only [World.frozen?, hb, Bool.and_eq_false_iff, decide_eq_false_iff_not]
    rcases hfr with h | h
    · cases h; right; omega
    · left; simp only at h; omega
/-- sync.Once.Do of a function by its contract, not yet done: cells 0 and 1 of the struct are the Once's word and its lock's state. -/
theorem SpecH.once {P : Program} {fd fb : FuncId} {p : Value} {H : List Ent} {K : Out → List Ent → Prop} (ok : CallOk P fd) (i : Nat) {T : TypeId} {m b : Nat} {xs : List Value} (hi : nthE H i = some (.app T m xs (some ⟨b, 0, none⟩) 1 1)) (hx0 : xs[0]? = some (.int .u32 0)) (hx1 : xs[1]? = some (.int .i32 0))
    (raw : ∀ (Q : World → Prop) (w : World), w.cell? ⟨b, 0, none⟩ = some (.int .u32 0) → w.cell? ⟨b, 1, none⟩ = some (.int .i32 0) → w.frozen? ⟨b, 1, none⟩ = false →
      Calls P fb #[p] (w.setCell ⟨b, 1, none⟩ (.int .i32 1)) (fun e w2 => e = .returned (.tuple #[]) ∧ Q w2) →
      (∀ w2, Q w2 → (∃ x, w2.cell? ⟨b, 0, none⟩ = some x) ∧ w2.cell? ⟨b, 1, none⟩ = some (.int .i32 1) ∧ w2.frozen? ⟨b, 0, none⟩ = false ∧ w2.frozen? ⟨b, 1, none⟩ = false) →
      Calls P fd #[.pointer (some ⟨b, 0, none⟩), .func (.func fb) #[p] #[]] w fun e w' => e = .returned (.tuple #[]) ∧ ∃ w2, Q w2 ∧ w' = (w2.drew.setCell ⟨b, 0, none⟩ (.int .u32 1)).setCell ⟨b, 1, none⟩ (.int .i32 0))
    (hb : SpecH P fb (pvs [p]) (H.set i (.app T m (xs.set 1 (.int .i32 1)) (some ⟨b, 0, none⟩) 1 1)) fun out H2 => out = .val (.c (.v (.tuple #[]))) ∧ ∃ m2 ys, H2[i]? = some (.app T m2 ys (some ⟨b, 0, none⟩) 1 1) ∧ (∃ x, ys[0]? = some x) ∧ ys[1]? = some (.int .i32 1) ∧
      K (.val (.c (.v (.tuple #[])))) (H2.set i (.app T m2 ((ys.set 0 (.int .u32 1)).set 1 (.int .i32 0)) (some ⟨b, 0, none⟩) 1 1))) :
    SpecH P fd (pvs [.pointer (some ⟨b, 0, none⟩), .func (.func fb) #[p] #[]]) H K := by
  rw [nthE_eq] at hi
  refine ⟨ok, fun ρ S w vs hs hr => ?_⟩
  obtain rfl := RelS_pvs hr
  obtain ⟨c0, _⟩ := app1_cell (hs.ent i _ hi) hx0
  obtain ⟨c1, z1⟩ := app1_cell (hs.ent i _ hi) hx1
  obtain ⟨hs1, hev1⟩ := hs.setApp1 hi 1 (.int .i32 1) (w0 := w) rfl rfl rfl rfl
  have hrun := hb.run ρ S _ [p] hs1 (pvs_rel ρ [p])
  refine (raw (fun w2 => ∃ ρ' S' H2, Sat ρ' S' H2 w2 ∧ Ev ρ S H w ρ' S' H2 w2 ∧ ∃ m2 ys, H2[i]? = some (.app T m2 ys (some ⟨b, 0, none⟩) 1 1) ∧ (∃ x, ys[0]? = some x) ∧ ys[1]? = some (.int .i32 1) ∧
      K (.val (.c (.v (.tuple #[])))) (H2.set i (.app T m2 ((ys.set 0 (.int .u32 1)).set 1 (.int .i32 0)) (some ⟨b, 0, none⟩) 1 1))) w c0 c1 z1 ?_ ?_).mono ?_
  · refine hrun.mono fun e w2 ⟨ρ', S', H2, out, hs2, hev2, hout, hx, hrest⟩ => ?_
    subst hx
    obtain ⟨v, rfl, hv⟩ := hout
    have : v = .tuple #[] := hv
    subst this
    exact ⟨rfl, ρ', S', H2, hs2, hev1.trans hev2, hrest⟩
  · rintro w2 ⟨ρ', S', H2, hs2, _, m2, ys, h2, ⟨x, hy0⟩, hy1, _⟩
    obtain ⟨d0, y0⟩ := app1_cell (hs2.ent i _ h2) hy0
    obtain ⟨d1, y1⟩ := app1_cell (hs2.ent i _ h2) hy1
    exact ⟨⟨x, d0⟩, d1, y0, y1⟩
  · rintro e w' ⟨rfl, w2, ⟨ρ', S', H2, hs2, hev2, m2, ys, h2, _, _, hK⟩, rfl⟩
    obtain ⟨hs3, hev3⟩ := hs2.setApp1 h2 0 (.int .u32 1) (w0 := w2.drew) rfl rfl rfl rfl
    have h3 : (H2.set i (.app T m2 (ys.set 0 (.int .u32 1)) (some ⟨b, 0, none⟩) 1 1))[i]? = some (.app T m2 (ys.set 0 (.int .u32 1)) (some ⟨b, 0, none⟩) 1 1) := by
      rw [List.getElem?_set_self (List.getElem?_eq_some_iff.1 h2).1]
    obtain ⟨hs4, hev4⟩ := hs3.setApp1 h3 1 (.int .i32 0) (w0 := w2.drew.setCell ⟨b, 0, none⟩ (.int .u32 1)) rfl rfl rfl rfl
    rw [List.set_set] at hs4 hev4
    exact ⟨ρ', S', _, .val (.c (.v (.tuple #[]))), hs4, (hev2.trans hev3).trans hev4, ⟨.tuple #[], rfl, rfl⟩, hK⟩
end Go.AX

/-
  AX, twenty-ninth text: the rest of a slice.
-/
namespace Go.AX
theorem ReadW.slc_l {P : Program} {o : Oper} {s : List AV} {H : List Ent} {K : AV → Prop} {t e : TypeId} {x y : Operand} {b n cap : Nat} {k : IntKind} {i : Int} (j : Nat) (ho : o.op = .slice t x (some y) none none) (hu : P.underlying t = some (.slice e)) (he : byteB P e = true)
    (hx : opv s x = .c (.v (.slice (some ⟨b, 0, none⟩) n cap))) (hy : opv s y = .c (.v (.int k i))) (hj : i = (j : Int) ∧ j ≤ n ∧ n ≤ cap ∧ j < cap) (h : K (.c (.v (.slice (some ⟨b, j, none⟩) (n - j) (cap - j))))) : ReadW P o s H K := by
  obtain ⟨inf, hi, _, h1, _⟩ := byteB_spec he
  obtain ⟨rfl, hjn, hnc, hjc⟩ := hj
  refine ReadW.val _ (fun cs b => by rw [ho]; simp) (by rw [ho]; simp [Op.operands, allPlain, hx, hy]) (fun w _ => ?_) h
  have e1 := plainEv_v hx
  have e2 := plainEv_v hy
  have : (Instr.sliceAt t (.slice (some ⟨b, 0, none⟩) n cap) (some (.int k (j : Int))) none none).run P w = .ok (.slice (some ⟨b, j, none⟩) (n - j) (cap - j)) w := by
    simp [Instr.sliceAt, Instr.slice, run_underlying hu, Instr.sliceBounds, Instr.sliceBound, asIntOf, hjn, sizeOf, typeInfo, hi, h1, add_lit0]
    omega
  refine run_op_slice ho ?_
  rw [e1]
  simpa [e2] using this
theorem setCells_heap (b : Nat) (T : TypeId) (fr : Nat × Nat) : ∀ (ys : List Value) (q : Nat) (w : World) (arr : Array Value), w.heap[b]? = some (.cells arr T fr) → q + ys.length ≤ arr.size →
    (w.setCells b q ys).heap[b]? = some (.cells (arr.toList.take q ++ ys ++ arr.toList.drop (q + ys.length)).toArray T fr)
  | [], q, w, arr, h, _ => by simp [World.setCells, h]
  | v :: r, q, w, arr, h, hl => by
    simp only [List.length_cons] at hl
    rw [World.setCells, setCells_heap b T fr r (q + 1) (w.setCell ⟨b, q, none⟩ v) (arr.setIfInBounds q v) (by simp [World.setCell, Array.getElem?_modify, h]) (by simp; omega)]
    congr 3
    rw [Array.toList_setIfInBounds, List.drop_set_of_lt (by omega), List.take_set, List.length_cons, show q + 1 + r.length = q + (r.length + 1) by omega]
    have e : (arr.toList.take (q + 1)).set q v = arr.toList.take q ++ [v] := by
      rw [List.take_succ_eq_append_getElem (by simp; omega), List.set_append_right _ _ (by simp; omega)]
      simp [show min q arr.size = q by omega]
    rw [e]; simp
theorem setCells_rest (b : Nat) : ∀ (ys : List Value) (q : Nat) (w : World), (w.setCells b q ys).heap.size = w.heap.size ∧ (∀ k, k ≠ b → (w.setCells b q ys).heap[k]? = w.heap[k]?) ∧ (w.setCells b q ys).os = w.os ∧ (w.setCells b q ys).tape = w.tape ∧ (w.setCells b q ys).output = w.output
  | [], _, _ => ⟨rfl, fun _ _ => rfl, rfl, rfl, rfl⟩
  | v :: r, q, w => by
    obtain ⟨h1, h2, h3, h4, h5⟩ := setCells_rest b r (q + 1) (w.setCell ⟨b, q, none⟩ v)
    rw [World.setCells]
    exact ⟨h1.trans (by simp [World.setCell]), fun k hk => (h2 k hk).trans (by simp [World.setCell, Array.getElem?_modify, Ne.symm hk]), h3, h4, h5⟩
/-- copy of cells that are read into a part of an own row of bytes. -/
theorem EffW.copyIn {P : Program} {o : Oper} {s : List AV} {H : List Ent} {K : AV → List Ent → Prop} {args : Array Operand} {ts : Array TypeId} {T U e : TypeId} {x y : Operand} {b q dl dc n cap sl sc : Nat} {a : Addr} {xs ys : List Value} (i : Nat) (ho : o.op = .call { callee := .builtin .copy, args := args, argTypes := ts }) (ha : args.toList = [x, y]) (ht : ts.toList = [T, U])
    (hT : P.underlying T = some (.slice e)) (he : byteB P e = true) (hx : opv s x = .c (.v (.slice (some ⟨b, q, none⟩) dl dc))) (hy : opv s y = .c (.v (.slice (some a) sl sc))) (hi : nthE H i = some (.app e 1 xs (some ⟨b, 0, none⟩) n cap))
    (hF : ∀ w, Facts H w → SlAt (some a) sl ys w) (hone : ∀ v ∈ ys, v.oneCell' = true) (hle : sl ≤ dl) (hq : q + sl ≤ n)
    (next : setEK H i (.app e 1 (xs.take q ++ ys ++ xs.drop (q + sl)) (some ⟨b, 0, none⟩) n cap) fun H' => K (.c (.v (.int .i64 (sl : Int)))) H') : EffW P o s H K := by
  obtain ⟨inf, hinf, _, h1, _⟩ := byteB_spec he
  rw [nthE_eq] at hi
  obtain ⟨_, hk⟩ := setEK_spec next
  intro ρ S w ac hs hr
  have e1 : args = #[x, y] := by rw [← Array.toArray_toList (xs := args), ha]
  have e2 : ts = #[T, U] := by rw [← Array.toArray_toList (xs := ts), ht]
  subst e1; subst e2
  have hxr := opv_rel hr x
  have hyr := opv_rel hr y
  rw [hx] at hxr; rw [hy] at hyr
  have hxe : ac.eval x = .slice (some ⟨b, q, none⟩) dl dc := hxr
  have hye : ac.eval y = .slice (some a) sl sc := hyr
  obtain ⟨hyl, _, hyc⟩ := hF w hs.facts
  rcases hs.ent i _ hi with ⟨h0, _⟩ | ⟨b', hb', arr, fr, ⟨hb, hfr⟩, hxl, hnc, hcm, hasz, htk⟩
  · cases h0
  cases hb'
  rw [Nat.mul_one] at hxl hasz htk
  have hrun := run_copy_cells (P := P) w T U o.type e b q dl dc a sl sc ys hT (by simp [hinf, h1]) (by rw [hyl]; exact (Nat.min_eq_left hle).symm)
    (fun j v hv => by
      have hj : j < sl := by rw [← hyl]; exact (List.getElem?_eq_some_iff.1 hv).1
      exact (hyc j hj).trans hv)
    (fun j hj => by
      have : q + j < arr.size := by omega
      simp [World.cell?, hb, this])
    (fun j hj => by
      obtain ⟨lo, hi'⟩ := fr
      simp only [World.frozen?, hb, Bool.and_eq_false_iff, decide_eq_false_iff_not]
      rcases hfr with h | h
      · cases h; right; omega
      · left; simp only at h; omega) hone
  obtain ⟨r1, r2, r3, r4, r5⟩ := setCells_rest b ys q w
  have hheap := setCells_heap b e fr ys q w arr hb (by omega)
  rw [hyl] at hrun hheap
  have hrow : RowF e 1 n (xs.take q ++ ys ++ xs.drop (q + sl)) b cap (w.setCells b q ys) := by
    refine ⟨_, fr, ⟨hheap, by have e0 : (arr.toList.take q ++ ys ++ arr.toList.drop (q + sl)).toArray.size = arr.size := (by simp; omega); rw [e0]; exact hfr⟩, by simp; omega, hnc, hcm, by simp; omega, ?_⟩
    rw [Nat.mul_one, ← htk]
    apply List.ext_getElem?
    intro j
    simp only [List.getElem?_take, List.getElem?_append, List.getElem?_drop, List.length_append, List.length_take, Array.length_toList]
    by_cases j1 : j < q
    · simp [show min q arr.size = q by omega, show min q (min n arr.size) = q by omega, j1, show j < q + ys.length by omega, show j < n by omega]
    · by_cases j2 : j < q + ys.length
      · simp [show min q arr.size = q by omega, show min q (min n arr.size) = q by omega, j1, j2, show j < n by omega]
      · simp only [show min q arr.size = q by omega, show min q (min n arr.size) = q by omega, j1, j2, if_false]
        by_cases j3 : j < n
        · simp [j3, show q + sl + (j - (q + ys.length)) = j by omega]
        · simp [j3]; omega
  have hS := hs.setG (e' := .app e 1 (xs.take q ++ ys ++ xs.drop (q + sl)) (some ⟨b, 0, none⟩) n cap) hi rfl (Nat.le_of_eq r1.symm) (fun k _ hne => r2 k hne) r3 r4 r5 (fun c hc => .inl (Option.some.inj hc).symm) (.inr ⟨b, rfl, hrow⟩)
  refine ⟨_, _, hk, .value (goInt (sl : Int)), _, ρ, _, ?_, .inl rfl, hS.1, hS.2, rfl⟩
  unfold execOp
  simp only [ho, resolve, invoke, builtin, Sem.run_bind, Sem.run_pure, Result.andThen_ok, List.map_toArray, List.map_cons, List.map_nil, hxe, hye, hrun]
end Go.AX

/-
  AX, twenty-fifth text: rows of bytes that are made.
-/
namespace Go.AX

theorem made_bytes (n : Nat) : (madeCells #[Value.int .u8 0] n).toList = List.replicate n (.int .u8 0) := by
  apply List.ext_getElem?
  intro i
  rw [madeCells, Array.toList_map, List.getElem?_map, Array.toList_range]
  by_cases h : i < n
  · rw [List.getElem?_range h, List.getElem?_replicate, if_pos h]
    simp [Nat.mod_one]
  · rw [List.getElem?_eq_none (by simpa using h), List.getElem?_eq_none (by simpa using h)]
    rfl
/-- make([]byte, n) -/
theorem EffW.mkBytes {P : Program} {o : Oper} {s : List AV} {H : List Ent} {K : AV → List Ent → Prop} {t e : TypeId} {x y : Operand} (n : Nat) (ho : o.op = .makeSlice t x y) (ht : P.underlying t = some (.slice e)) (he : byteB P e = true)
    (hx : opv s x = .c (.v (.int .i64 (n : Int)))) (hy : opv s y = .c (.v (.int .i64 (n : Int)))) (hn : n ≤ 16000000)
    (next : ∀ b, K (.c (.v (.slice (some ⟨b, 0, none⟩) n n))) (H ++ [.app e 1 (List.replicate n (.int .u8 0)) (some ⟨b, 0, none⟩) n n])) : EffW P o s H K := by
  obtain ⟨inf, hi, hz, h1, h2⟩ := byteB_spec he
  intro ρ S w a hs hr
  have hxr := opv_rel hr x
  have hyr := opv_rel hr y
  rw [hx] at hxr; rw [hy] at hyr
  have hxe : a.eval x = .int .i64 (n : Int) := hxr
  have hye : a.eval y = .int .i64 (n : Int) := hyr
  have hrun := run_makeSlice (P := P) (w := w) t e inf (.int .u8 0) ht hi hz .i64 .i64 (n : Int) (n : Int) (by omega) (Int.le_refl _) (by rw [h1]; omega) (by rw [h2]; omega) (by omega)
  simp only [Int.toNat_natCast, h1, Nat.mul_one] at hrun
  have hrow : RowF e 1 n (List.replicate n (.int .u8 0)) w.heap.size n (w.alloc (.cells (madeCells #[Value.int .u8 0] n) e)) :=
    ⟨_, (0, 0), ⟨heap_alloc_new w _, .inl rfl⟩, by simp, Nat.le_refl _, by simp only [maxLen]; omega, by rw [size_madeCells, Nat.mul_one], by rw [made_bytes, Nat.mul_one, List.take_of_length_le (by simp)]⟩
  have hS := hs.newApp (w' := w.alloc (.cells (madeCells #[Value.int .u8 0] n) e)) rfl rfl rfl rfl hrow
  refine ⟨_, _, next w.heap.size, _, _, _, _, ?_, .inl rfl, hS.1, hS.2, rfl⟩
  unfold execOp
  simp only [ho, hxe, hye, Sem.run_bind, Sem.run_pure, hrun, Result.andThen_ok]
  rfl
end Go.AX
