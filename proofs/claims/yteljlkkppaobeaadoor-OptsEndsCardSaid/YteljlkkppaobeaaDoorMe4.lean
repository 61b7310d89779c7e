/-
  Lemmas (Ax14 Ax15 Ax16 Ax17 Ax13 Ax18 Ax19 Ax20 Ax34 Ax24 Ax21 Ax22 LB1 T1 Ax23 LB2 R0 LB3 P1 C1 C2 C3 Ax28 Ax29 Ax25 Ax30 C4 P2 P3).
-/
import Derived.Below
import Derived.DataElems
import Derived.WalkKit
import Derived.ProofKit
import Derived.OpenShut
import Derived.ShutString
import Derived.ChangeOld
import Derived.Carry
import Derived.HandedShaped
import Derived.SliceStrings
import Derived.ChangeSlices
import Derived.SizedLaws
import Derived.MakeChecks
import Derived.LaidMore
import Derived.LaidLaws
import Derived.LaidHandle
import Derived.Lib.LaidTab
import Derived.SevenTiedAt
import Derived.Laws.IdiomStrings
import Derived.Shelf.Vars
import Derived.Lib.AppendStr
import Derived.Lib.UnsafeStr
import Derived.Lib.Builder
import Derived.Laws.Externs
import Derived.Test.YteljlkkppaobeaaDoorChecked
import Derived.Shelf.Strings.Builder1
import Derived.Shelf.Strings.Builder2
import Derived.Shelf.Strings.OnBuilder
import Derived.Shelf.Strings.Trim
import Derived.Shelf.Small.Utf8
import Derived.Shelf.Small.Strs
import Derived.Shelf.Strings.BuilderF
import Derived.Shelf.Strings.BuilderK
import Derived.Shelf.Strings.BuilderRune
import Derived.Shelf.Utf8.AppendRune
import Derived.Shelf.Utf8.AppendRunePlain
import Derived.Shelf.Strings.Builder2Cap
import Derived.Shelf.Strings.Search1
import Derived.Shelf.Strings.Search2
import Derived.Shelf.Strings.Cut
import Derived.Shelf.LaysM
import Derived.Shelf.Strings.Shaped
import Derived.Shelf.Strings.Prefix
import Derived.Shelf.Unicode.Latin
import Derived.Shelf.Unicode.Decode
import Derived.Shelf.Strings.Runes
import Derived.Shelf.Strings.AsciiSet
import Derived.Shelf.Unicode.DecodeSlow
import Derived.Shelf.Unicode.DecodeAny
import Derived.Shelf.Unicode.DecodeLast
import Derived.Shelf.Unicode.CaseLookup
import Derived.Shelf.Unicode.CaseConvert
import Derived.Shelf.Unicode.CaseTo
import Derived.Shelf.Unicode.CaseLaid
import Derived.Shelf.Strings.BuilderCap
import Derived.Shelf.Slices.Equal
import Derived.Shelf.Slices.Empties2
import Derived.Test.YteljlkkppaobeaaDoorProg
import Derived.Lib.MakeNoZero
import Derived.Lib.CutLaws
import Derived.Lib.ReplaceLaws
import Derived.Test.YteljlkkppaobeaaDoorRows
import Derived.LaidOnce
import Derived.Laws.IdiomCopy
import Derived.Laws.MakeOwn
import Derived.Test.YteljlkkppaobeaaDoorMe3
/-
  AX, fourteenth text: calls over plain values and facts on memory that nobody writes; what a call made is handed on as such.
-/
namespace Go.AX
open Go.RowKit

theorem Imm.mono {S : Nat → Prop} {w : World} {F G : World → Prop} (h : Imm S w F) (hk : ∀ w, F w → G w) : Imm S w G := ⟨hk w h.1, fun w' hw => hk w' (h.2 w' hw)⟩
theorem Imm.grow {S S' : Nat → Prop} {w : World} {F : World → Prop} (h : Imm S w F) (hs : ∀ b, S b → S' b) : Imm S' w F := ⟨h.1, fun w' hw => h.2 w' fun b hb => hw b (hs b hb)⟩
theorem Imm.and {S : Nat → Prop} {w : World} {F G : World → Prop} (h : Imm S w F) (k : Imm S w G) : Imm S w fun w => F w ∧ G w := ⟨⟨h.1, k.1⟩, fun w' hw => ⟨h.2 w' hw, k.2 w' hw⟩⟩
theorem Imm.triv (S : Nat → Prop) (w : World) : Imm S w fun _ => True := ⟨trivial, fun _ _ => trivial⟩

theorem EntOk.grow {ρ : List Loc} {S S' : Nat → Prop} {w : World} {i : Nat} {e : Ent} (h : EntOk ρ S w i e) (hs : ∀ b, S b → S' b) : EntOk ρ S' w i e := by
  cases e with
  | fact F => exact Imm.grow h hs
  | fz => exact ⟨h.1, Imm.grow h.2 hs⟩
  | _ => exact h

theorem Facts_imm {ρ : List Loc} {S : Nat → Prop} {w : World} : ∀ {H : List Ent}, (∀ e ∈ H, ∃ i, EntOk ρ S w i e ∧ match e with | .app _ _ _ a _ _ => ∀ b, a.map Addr.block = some b → S b | .mp b _ _ => S b | _ => True) → Imm S w (Facts H)
  | [], _ => Imm.triv S w
  | .fact F :: es, h => by
    obtain ⟨i, hi, _⟩ := h (.fact F) (by simp)
    exact Imm.and hi (Facts_imm fun e he => h e (by simp [he]))
  | .fz T sz n xs b cap :: es, h => by
    obtain ⟨i, hi, _⟩ := h (.fz T sz n xs b cap) (by simp)
    exact Imm.and hi.2 (Facts_imm fun e he => h e (by simp [he]))
  | .blk .. :: es, h => Facts_imm (H := es) fun e he => h e (by simp [he])
  | .row .. :: es, h => Facts_imm (H := es) fun e he => h e (by simp [he])
  | .app T sz xs a n cap :: es, h => by
    obtain ⟨i, hi, hS⟩ := h (.app T sz xs a n cap) (by simp)
    have h1 : Imm S w (SlAt a (n * sz) xs) := ⟨appSl hi, fun w' hw => by
      rcases hi with ⟨rfl, rfl, rfl, rfl⟩ | ⟨b, rfl, hr⟩
      · rw [Nat.zero_mul]; exact SlAt.nil
      · exact (hr.move (hw b (hS b rfl))).sl⟩
    exact Imm.and h1 (Facts_imm fun e he => h e (by simp [he]))
  | .mp b es c :: H, h => by
    obtain ⟨i, hi, hS⟩ := h (.mp b es c) (by simp)
    have h1 : Imm S w (fun w => w.heap[b]? = some (.map es c)) := ⟨hi, fun w' hw => (hw b hS).trans hi⟩
    exact Imm.and h1 (Facts_imm fun e he => h e (by simp [he]))
  | .dead :: es, h => Facts_imm (H := es) fun e he => h e (by simp [he])
/-- The blocks of slices that still grow. -/
def appB (H : List Ent) (b : Nat) : Prop := (∃ T sz xs a n cap, Ent.app T sz xs a n cap ∈ H ∧ a.map Addr.block = some b) ∨ ∃ es c, Ent.mp b es c ∈ H
theorem appB_mb {ρ : List Loc} {H : List Ent} {b : Nat} (h : appB H b) : mb ρ H b := by
  rcases h with ⟨T, sz, xs, a, n, cap, hm, hb⟩ | ⟨es, c, hm⟩
  · obtain ⟨i, hi⟩ := List.getElem?_of_mem hm
    exact ⟨i, _, hi, hb⟩
  · obtain ⟨i, hi⟩ := List.getElem?_of_mem hm
    exact ⟨i, _, hi, rfl⟩
theorem Sat.imm {ρ : List Loc} {S : Nat → Prop} {H : List Ent} {w : World} (h : Sat ρ S H w) : Imm (fun b => S b ∨ appB H b) w (Facts H) :=
  Facts_imm (ρ := ρ) fun e he => by
    obtain ⟨i, hi⟩ := List.getElem?_of_mem he
    refine ⟨i, (h.ent i e hi).grow fun b hb => .inl hb, ?_⟩
    cases e with
    | app T sz xs a n cap => exact fun b hb => .inr (.inl ⟨T, sz, xs, a, n, cap, he, hb⟩)
    | mp b es c => exact .inr (.inr ⟨es, c, he⟩)
    | _ => trivial
/-- What is known of memory that nobody writes, slices that still grow aside. -/
def FactsP : List Ent → World → Prop
  | [], _ => True
  | .fz T sz n xs b cap :: es, w => RowF T sz n xs b cap w ∧ FactsP es w
  | .fact F :: es, w => F w ∧ FactsP es w
  | _ :: es, w => FactsP es w
theorem FactsP_imm {ρ : List Loc} {S : Nat → Prop} {w : World} : ∀ {H : List Ent}, (∀ e ∈ H, ∃ i, EntOk ρ S w i e) → Imm S w (FactsP H)
  | [], _ => Imm.triv S w
  | .fact F :: es, h => by
    obtain ⟨i, hi⟩ := h (.fact F) (by simp)
    exact Imm.and hi (FactsP_imm fun e he => h e (by simp [he]))
  | .fz T sz n xs b cap :: es, h => by
    obtain ⟨i, hi⟩ := h (.fz T sz n xs b cap) (by simp)
    exact Imm.and hi.2 (FactsP_imm fun e he => h e (by simp [he]))
  | .blk .. :: es, h => FactsP_imm (H := es) fun e he => h e (by simp [he])
  | .row .. :: es, h => FactsP_imm (H := es) fun e he => h e (by simp [he])
  | .app .. :: es, h => FactsP_imm (H := es) fun e he => h e (by simp [he])
  | .mp .. :: es, h => FactsP_imm (H := es) fun e he => h e (by simp [he])
  | .dead :: es, h => FactsP_imm (H := es) fun e he => h e (by simp [he])
theorem Sat.immP {ρ : List Loc} {S : Nat → Prop} {H : List Ent} {w : World} (h : Sat ρ S H w) : Imm S w (FactsP H) :=
  FactsP_imm (ρ := ρ) fun e he => by
    obtain ⟨i, hi⟩ := List.getElem?_of_mem he
    exact ⟨i, h.ent i e hi⟩

/-- A call over plain values, under a fact on memory that nobody writes: a value, and a fact on it. -/
structure SpecF (P : Program) (f : FuncId) (xs : List Value) (F : World → Prop) (R : Value → (World → Prop) → Prop) : Prop where
  ok : CallOk P f
  run : ∀ (S : Nat → Prop) (w : World), Imm S w F → (∀ b, S b → b < w.heap.size) → Calls P f xs.toArray w fun e w' =>
    ∃ v G S', e = .returned v ∧ R v G ∧ Imm S' w' G ∧ (∀ b, S' b → S b ∨ w.heap.size ≤ b) ∧ (∀ b, S' b → b < w'.heap.size) ∧ Below w.heap.size w w'

theorem below_ev {ρ : List Loc} {S S' : Nat → Prop} {H H' : List Ent} {w w' : World} (t : List Loc) (h : Below w.heap.size w w') (hS : ∀ b, S' b → S b ∨ w.heap.size ≤ b) (hm : ∀ b, mb (ρ ++ t) H' b → mb ρ H b) : Ev ρ S H w (ρ ++ t) S' H' w' :=
  ⟨⟨t, rfl⟩, h.os, h.tape, h.output, h.size, fun b hb _ => h.block b hb, fun b hb => (hS b hb).elim .inl fun h => .inr (.inr h), fun b hb => .inl (hm b hb)⟩

theorem Sat.below {ρ : List Loc} {S : Nat → Prop} {H : List Ent} {w w' : World} (hs : Sat ρ S H w) (h : Below w.heap.size w w') : Sat ρ S H w' :=
  ⟨hs.len, fun i e he => by
      have := (hs.ent i e he).move (w' := w') [] (fun b hb => h.block _ (hs.blk_lt he hb)) fun b hb => h.block b (hs.low b hb)
      simpa using this,
    hs.inj, hs.out, fun b hb => Nat.lt_of_lt_of_le (hs.low b hb) h.size⟩

/-- The fact that a call gave is kept. -/
theorem Sat.addFact {ρ : List Loc} {S S' : Nat → Prop} {H : List Ent} {w w' : World} {G : World → Prop} (hs : Sat ρ S H w) (h : Below w.heap.size w w') (hG : Imm S' w' G) (hS : ∀ b, S' b → S b ∨ w.heap.size ≤ b) (hl : ∀ b, S' b → b < w'.heap.size) :
    Sat (ρ ++ [⟨0, 0⟩]) (fun b => S b ∨ S' b) (H ++ [.fact G]) w' ∧ ∀ b, mb (ρ ++ [⟨0, 0⟩]) (H ++ [.fact G]) b → mb ρ H b := by
  have h1 := hs.below h
  have hcase : ∀ (i : Nat) (e : Ent), (H ++ [Ent.fact G])[i]? = some e → (i < H.length ∧ H[i]? = some e) ∨ e = .fact G := fun i e he => by
    by_cases hi : i < H.length
    · rw [List.getElem?_append_left hi] at he; exact .inl ⟨hi, he⟩
    · rw [List.getElem?_append_right (by omega)] at he
      have : i - H.length < 1 := by have := (List.getElem?_eq_some_iff.1 he).1; simpa using this
      have h0 : i - H.length = 0 := by omega
      rw [h0] at he
      simp at he
      exact .inr he.symm
  have hb2 : ∀ (i : Nat) (e : Ent) (b : Nat), (H ++ [Ent.fact G])[i]? = some e → entB (ρ ++ [⟨0, 0⟩]) i e = some b → H[i]? = some e ∧ entB ρ i e = some b := fun i e b he hb => by
    rcases hcase i e he with ⟨hi, he'⟩ | rfl
    · rw [entB_pre _ (by rw [hs.len]; exact hi)] at hb
      exact ⟨he', hb⟩
    · cases hb
  have hmb : ∀ b, mb (ρ ++ [⟨0, 0⟩]) (H ++ [.fact G]) b → mb ρ H b := by
    rintro b ⟨i, e, he, hb⟩
    exact ⟨i, e, hb2 i e b he hb⟩
  refine ⟨⟨by simp [hs.len], fun i e he => ?_, fun i j e f b he hf heb hfb => ?_, fun b hb hn => ?_, fun b hb => ?_⟩, hmb⟩
  · rcases hcase i e he with ⟨hi, he'⟩ | rfl
    · have := (hs.ent i e he').move (w' := w') [⟨0, 0⟩] (fun b hb => h.block _ (hs.blk_lt he' hb)) fun b hb => h.block b (hs.low b hb)
      exact this.grow fun b hb => .inl hb
    · exact Imm.grow hG fun b hb => .inr hb
  · have h1 := hb2 i e b he heb
    have h2 := hb2 j f b hf hfb
    exact hs.inj i j e f b h1.1 h2.1 h1.2 h2.2
  · obtain ⟨i, e, he, heb⟩ := hmb b hb
    rcases hn with hn | hn
    · exact hs.out _ ⟨i, e, he, heb⟩ hn
    · rcases hS _ hn with h2 | h2
      · exact hs.out _ ⟨i, e, he, heb⟩ h2
      · have := hs.blk_lt he heb; omega
  · rcases hb with hb | hb
    · exact h1.low b hb
    · exact hl b hb

theorem SpecF.call {P : Program} {f : FuncId} {xs : List Value} {F : World → Prop} {R : Value → (World → Prop) → Prop} {H : List Ent} {K : Out → List Ent → Prop} (h : SpecF P f xs F R) (hF : ∀ w, FactsP H w → F w)
    (hk : ∀ v G, R v G → snocK H (.fact G) 0 fun H' _ => K (.val (.c (.v v))) H') : SpecH P f (pvs xs) H K := by
  simp only [snocK_eq] at hk
  refine ⟨h.ok, fun ρ S w vs hs hr => ?_⟩
  obtain rfl := RelS_pvs hr
  refine (h.run S w (hs.immP.mono hF) hs.low).mono fun e w' ⟨v, G, S', he, hR, hG, hS, hlow, bel⟩ => ?_
  have hsat := hs.addFact bel hG hS hlow
  exact ⟨_, _, _, .val (.c (.v v)), hsat.1, below_ev [⟨0, 0⟩] bel (fun b hb => hb.elim .inl (hS b)) hsat.2, ⟨v, he, rfl⟩, hk v G hR⟩

/-- Where the fact is not wanted any more. -/
theorem SpecF.call0 {P : Program} {f : FuncId} {xs : List Value} {F : World → Prop} {R : Value → (World → Prop) → Prop} {H : List Ent} {K : Out → List Ent → Prop} (h : SpecF P f xs F R) (hF : ∀ w, Facts H w → F w)
    (hk : ∀ v G, R v G → K (.val (.c (.v v))) H) : SpecH P f (pvs xs) H K := by
  refine ⟨h.ok, fun ρ S w vs hs hr => ?_⟩
  obtain rfl := RelS_pvs hr
  refine (h.run _ w (hs.imm.mono hF) (fun b hb => hb.elim (hs.low b) fun hb => by obtain ⟨i, e, he, heb⟩ := appB_mb (ρ := ρ) hb; exact hs.blk_lt he heb)).mono fun e w' ⟨v, G, S', he, hR, hG, hS, hlow, bel⟩ => ?_
  exact ⟨ρ, S, H, .val (.c (.v v)), hs.below bel, by simpa using below_ev (S := S) (S' := S) (ρ := ρ) (H := H) (H' := H) [] bel (fun b hb => .inl hb) (fun b hb => by simpa using hb), ⟨v, he, rfl⟩, hk v G hR⟩

/-! ### From a body to such a call -/
def EntF (ρ : List Loc) (w : World) (i : Nat) : Ent → Prop
  | .blk T cs => ∃ l arr, ρ[i]? = some l ∧ w.heap[l.b]? = some (.cells arr T (0, 0)) ∧ RelL ρ cs arr.toList
  | .row T sz n cs => ∃ l arr, ρ[i]? = some l ∧ w.heap[l.b]? = some (.cells arr T (0, 0)) ∧ cs.length = n * sz ∧ n ≤ l.cap ∧ l.cap ≤ maxLen ∧ arr.size = l.cap * sz ∧ RelL ρ cs (arr.toList.take (n * sz))
  | .fact F => F w
  | .fz T sz n xs b cap => ρ[i]? = some ⟨b, cap⟩ ∧ RowF T sz n xs b cap w
  | .app T sz xs a n cap => (a = none ∧ n = 0 ∧ cap = 0 ∧ xs = []) ∨ ∃ b, a = some ⟨b, 0, none⟩ ∧ RowF T sz n xs b cap w
  | .mp b es c => w.heap[b]? = some (.map es c)
  | .dead => True
/-- What an abstract memory says of a world, its places given. -/
def All (ρ : List Loc) (H : List Ent) (w : World) : Prop := ∀ i e, H[i]? = some e → EntF ρ w i e
/-- The end of a body: at whatever places, the value and a fact that holds of it. -/
def Fin (R : Value → (World → Prop) → Prop) (out : Out) (H : List Ent) : Prop :=
  ∀ ρ v w0, All ρ H w0 → OutOk ρ out (.returned v) → ∃ G, R v G ∧ ∀ w, All ρ H w → G w
def notPan : Out → Prop
  | .pan _ => False
  | _ => True

theorem specF_of {P : Program} {f : FuncId} {xs : List Value} {F : World → Prop} {R : Value → (World → Prop) → Prop} (h : SpecH P f (pvs xs) [.fact F] fun out H' => notPan out ∧ Fin R out H') : SpecF P f xs F R := by
  refine ⟨h.ok, fun S w hF hlow => ?_⟩
  have nomb : ∀ b, ¬ mb [⟨0, 0⟩] [Ent.fact F] b := by
    rintro b ⟨i, e, he, ho⟩
    match i, he with
    | 0, he => simp at he; subst he; cases ho
  have hs : Sat [⟨0, 0⟩] S [.fact F] w := by
    refine ⟨rfl, fun i e he => ?_, fun i j e f b he hf heo => ?_, fun b hb => absurd hb (nomb b), hlow⟩
    · match i, he with
      | 0, he => simp at he; subst he; exact hF
    · match i, he with
      | 0, he => simp at he; subst he; cases heo
  refine (h.run _ S w xs hs (pvs_rel _ xs)).mono fun e w' ⟨ρ', S', H', out, hs', hev, hout, hn, hfin⟩ => ?_
  obtain ⟨v, rfl⟩ : ∃ v, e = .returned v := by
    cases out with
    | val av => obtain ⟨v, he, _⟩ := hout; exact ⟨v, he⟩
    | vals l => obtain ⟨v, he, _⟩ := hout; exact ⟨_, he⟩
    | pan c => exact hn.elim
  have hall : ∀ w'' : World, (∀ b, S' b ∨ mb ρ' H' b → w''.heap[b]? = w'.heap[b]?) → All ρ' H' w'' := fun w'' hw i e he => by
    have hk := hs'.ent i e he
    cases e with
    | blk T cs => obtain ⟨l, arr, hl, hb, hr⟩ := hk; exact ⟨l, arr, hl, by rw [hw l.b (.inr ⟨i, _, he, entB_own rfl hl⟩)]; exact hb, hr⟩
    | row T sz n cs => obtain ⟨l, arr, hl, hb, hr⟩ := hk; exact ⟨l, arr, hl, by rw [hw l.b (.inr ⟨i, _, he, entB_own rfl hl⟩)]; exact hb, hr⟩
    | fact F => exact hk.2 w'' fun b hb => hw b (.inl hb)
    | fz => exact ⟨hk.1, hk.2.2 w'' fun b hb => hw b (.inl hb)⟩
    | app T sz xs a n cap =>
      rcases hk with hk | ⟨b, rfl, hk⟩
      · exact .inl hk
      · exact .inr ⟨b, rfl, hk.move (hw b (.inr ⟨i, _, he, rfl⟩))⟩
    | mp b es c => exact (hw b (.inr ⟨i, _, he, rfl⟩)).trans hk
    | dead => trivial
  obtain ⟨G, hR, hG⟩ := hfin ρ' v w' (hall w' fun _ _ => rfl) hout
  refine ⟨v, G, fun b => S' b ∨ mb ρ' H' b, rfl, hR, ⟨hG _ (hall w' fun _ _ => rfl), fun w'' hw => hG w'' (hall w'' hw)⟩, ?_, ?_, ⟨hev.os, hev.tape, hev.output, hev.size, fun b hb => hev.keep b hb (nomb b)⟩⟩
  · rintro b (hb | hb)
    · rcases hev.imm b hb with h | h | h
      · exact .inl h
      · exact absurd h (nomb b)
      · exact .inr h
    · rcases hev.own b hb with h | h
      · exact absurd h (nomb b)
      · exact .inr h
  · rintro b (hb | hb)
    · exact hs'.low b hb
    · obtain ⟨i, e, he, heb⟩ := hb
      exact hs'.blk_lt he heb

theorem specF {P : Program} (hm : P.follows .mixedOrders = true) {f : FuncId} {fn : Func} {c : Code} (hf : P.funcs[f]? = some fn) (hn : (fn.name == "runtime.NumGoroutine") = false) (hb : fn.body = some c)
    {xs : List Value} (hl : Nat.ble (pvs xs).length fn.ntmps = true) {F : World → Prop} {R : Value → (World → Prop) → Prop} (h : initK fn.ntmps (pvs xs) fun s => exec P c s [.fact F] (endK P fn.results.toList fun out H' => notPan out ∧ Fin R out H')) : SpecF P f xs F R :=
  specF_of (spec_of_exec hm hf hn hb hl h)

theorem fin_v {R : Value → (World → Prop) → Prop} {x : Value} {H : List Ent} (h : R x fun _ => True) : notPan (.val (.c (.v x))) ∧ Fin R (.val (.c (.v x))) H :=
  ⟨trivial, fun _ v _ _ hv => by
    obtain ⟨_, e, hr⟩ := hv
    obtain rfl := Ending.returned.inj e
    have : v = x := hr
    subst this
    exact ⟨_, h, fun _ _ => trivial⟩⟩

theorem vs_only {ρ : List Loc} : ∀ {xs vs' : List Value}, RelL ρ (vs xs) vs' → vs' = xs
  | [], [], _ => rfl
  | x :: xs, v :: vs', h => by
    have h1 : v = x := h.1
    rw [h1, vs_only h.2]
  | [], _ :: _, h => h.elim
  | _ :: _, [], h => h.elim

/-- A row of plain values becomes a fact. -/
theorem EntF.row {ρ : List Loc} {w : World} {i : Nat} {T : TypeId} {sz n : Nat} {xs : List Value} {l : Loc} (h : EntF ρ w i (.row T sz n (vs xs))) (hl : ρ[i]? = some l) : RowF T sz n xs l.b l.cap w := by
  obtain ⟨l', arr, hl', hb, h1, h2, h3, h4, hr⟩ := h
  obtain rfl := Option.some.inj (hl'.symm.trans hl)
  exact ⟨arr, (0, 0), ⟨hb, .inl rfl⟩, by rwa [vs_len] at h1, h2, h3, h4, vs_only hr⟩

end Go.AX

/-
  AX, fifteenth text: how slices are used.
-/
namespace Go.AX
open Go.RowKit

theorem All.facts {ρ : List Loc} {H : List Ent} {w : World} (h : All ρ H w) : Facts H w := by
  refine Facts_of (ρ := ρ) (S := fun _ => True) fun e he => ?_
  obtain ⟨i, hi⟩ := List.getElem?_of_mem he
  have := h i e hi
  cases e with
  | fact F => exact this
  | fz => exact this.2
  | app T sz xs a n cap => exact appSl (ρ := ρ) (S := fun _ => True) (i := i) this
  | _ => trivial

/-- The result is a plain value; the facts on it are those at hand. -/
theorem fin_p {R : Value → (World → Prop) → Prop} {x : Value} {H : List Ent} (G : World → Prop) (h : R x G) (hG : ∀ w, Facts H w → G w) : notPan (.val (.c (.v x))) ∧ Fin R (.val (.c (.v x))) H :=
  ⟨trivial, fun ρ v _ _ hv => by
    obtain ⟨_, e, hr⟩ := hv
    obtain rfl := Ending.returned.inj e
    have : v = x := hr
    subst this
    exact ⟨_, h, fun w hall => hG w hall.facts⟩⟩

theorem Sat.dropApp {ρ : List Loc} {S : Nat → Prop} {H : List Ent} {w : World} (h : Sat ρ S H w) {i : Nat} {T : TypeId} {sz : Nat} {xs : List Value} {a : Option Addr} {n cap : Nat} (hi : H[i]? = some (.app T sz xs a n cap)) :
    ∃ S', Sat ρ S' (H.set i (.fact (SlAt a (n * sz) xs))) w ∧ Ev ρ S H w ρ S' (H.set i (.fact (SlAt a (n * sz) xs))) w := by
  have hilt : i < H.length := (List.getElem?_eq_some_iff.1 hi).1
  have hcase : ∀ (j : Nat) (f : Ent) (b : Nat), (H.set i (.fact (SlAt a (n * sz) xs)))[j]? = some f → entB ρ j f = some b → j ≠ i ∧ H[j]? = some f := by
    intro j f b hf hfb
    by_cases hj : i = j
    · subst hj
      simp [hilt] at hf
      subst hf
      cases hfb
    · rw [List.getElem?_set_ne hj] at hf
      exact ⟨Ne.symm hj, hf⟩
  have hent := h.ent i _ hi
  refine ⟨fun b => S b ∨ a.map Addr.block = some b, ⟨by simp [h.len], fun j f hf => ?_, fun j k f g b hf hg hfb hgb => ?_, fun b ⟨j, f, hf, hfb⟩ hn => ?_, fun b hb => ?_⟩,
    ⟨⟨[], by simp⟩, rfl, rfl, rfl, Nat.le_refl _, fun _ _ _ => rfl, fun b hb => ?_, fun b ⟨j, f, hf, hfb⟩ => .inl ⟨j, f, (hcase j f b hf hfb).2, hfb⟩⟩⟩
  · by_cases hj : i = j
    · subst hj
      simp [hilt] at hf
      subst hf
      refine ⟨appSl hent, fun w' hw => ?_⟩
      rcases hent with ⟨rfl, rfl, rfl, rfl⟩ | ⟨b, rfl, hr⟩
      · rw [Nat.zero_mul]; exact SlAt.nil
      · exact (hr.move (hw b (.inr rfl))).sl
    · rw [List.getElem?_set_ne hj] at hf
      exact (h.ent j f hf).grow fun b hb => .inl hb
  · exact h.inj j k f g b (hcase j f b hf hfb).2 (hcase k g b hg hgb).2 hfb hgb
  · have hjf := hcase j f b hf hfb
    rcases hn with hn | hn
    · exact h.out b ⟨j, f, hjf.2, hfb⟩ hn
    · exact hjf.1 (h.inj j i f _ b hjf.2 hi hfb hn)
  · rcases hb with hb | hb
    · exact h.low b hb
    · exact h.blk_lt hi hb
  · rcases hb with hb | hb
    · exact .inl hb
    · exact .inr (.inl ⟨i, _, hi, hb⟩)

/-- A slice that grew is not written any more: its cells become a fact. -/
theorem SpecH.shut {P : Program} {f : FuncId} {args : List AV} {H : List Ent} {K : Out → List Ent → Prop} (i : Nat) {T : TypeId} {sz : Nat} {xs : List Value} {a : Option Addr} {n cap : Nat} (hi : nthE H i = some (.app T sz xs a n cap))
    (h : setEK H i (.fact (SlAt a (n * sz) xs)) fun H' => SpecH P f args H' K) : SpecH P f args H K := by
  rw [nthE_eq] at hi
  obtain ⟨_, h⟩ := setEK_spec h
  refine ⟨h.ok, fun ρ S w vs hs hr => ?_⟩
  obtain ⟨S', hs', hev⟩ := hs.dropApp hi
  exact (h.run ρ S' w vs hs' hr).mono fun e w' ⟨ρ2, S2, H2, out, a1, a2, a3, a4⟩ => ⟨ρ2, S2, H2, out, a1, hev.trans a2, a3, a4⟩

/-! ### Rows of the call's own handed on -/
theorem Sat.dropRow {ρ : List Loc} {S : Nat → Prop} {H : List Ent} {w : World} (h : Sat ρ S H w) {i : Nat} {T : TypeId} {sz n : Nat} {xs : List Value} (hi : H[i]? = some (.row T sz n (vs xs))) :
    ∃ b cap S', n ≤ cap ∧ Sat ρ S' (H.set i (.fz T sz n xs b cap)) w ∧ Ev ρ S H w ρ S' (H.set i (.fz T sz n xs b cap)) w := by
  have hilt : i < H.length := (List.getElem?_eq_some_iff.1 hi).1
  obtain ⟨l, arr, hl, hb, h1, h2, h3, h4, hr⟩ := h.ent i _ hi
  have hrow : RowF T sz n xs l.b l.cap w := ⟨arr, (0, 0), ⟨hb, .inl rfl⟩, by rwa [vs_len] at h1, h2, h3, h4, vs_only hr⟩
  have hblk : entB ρ i (.row T sz n (vs xs)) = some l.b := entB_own rfl hl
  refine ⟨l.b, l.cap, fun b => S b ∨ b = l.b, h2, ?_⟩
  have hcase : ∀ (j : Nat) (f : Ent) (b : Nat), (H.set i (.fz T sz n xs l.b l.cap))[j]? = some f → entB ρ j f = some b → j ≠ i ∧ H[j]? = some f := by
    intro j f b hf hfb
    by_cases hj : i = j
    · subst hj
      simp [hilt] at hf
      subst hf
      cases hfb
    · rw [List.getElem?_set_ne hj] at hf
      exact ⟨Ne.symm hj, hf⟩
  refine ⟨⟨by simp [h.len], fun j f hf => ?_, fun j k f g b hf hg hfb hgb => ?_, fun b ⟨j, f, hf, hfb⟩ hn => ?_, fun b hb => ?_⟩,
    ⟨⟨[], by simp⟩, rfl, rfl, rfl, Nat.le_refl _, fun _ _ _ => rfl, fun b hb => ?_, fun b ⟨j, f, hf, hfb⟩ => .inl ⟨j, f, (hcase j f b hf hfb).2, hfb⟩⟩⟩
  · by_cases hj : i = j
    · subst hj
      simp [hilt] at hf
      subst hf
      exact ⟨hl, hrow, fun w' hw => hrow.move (hw _ (.inr rfl))⟩
    · rw [List.getElem?_set_ne hj] at hf
      exact (h.ent j f hf).grow fun b hb => .inl hb
  · exact h.inj j k f g b (hcase j f b hf hfb).2 (hcase k g b hg hgb).2 hfb hgb
  · have hjf := hcase j f b hf hfb
    rcases hn with hn | hn
    · exact h.out b ⟨j, f, hjf.2, hfb⟩ hn
    · exact hjf.1 (h.inj j i f _ b hjf.2 hi hfb (hn ▸ hblk))
  · rcases hb with hb | hb
    · exact h.low b hb
    · subst hb; exact h.blk_lt hi hblk
  · rcases hb with hb | hb
    · exact .inl hb
    · exact .inr (.inl ⟨i, _, hi, hb ▸ hblk⟩)

theorem SpecH.freeze {P : Program} {f : FuncId} {args : List AV} {H : List Ent} {K : Out → List Ent → Prop} (ok : CallOk P f) (i : Nat) {T : TypeId} {sz n : Nat} {cs : List CV} {xs : List Value} (hi : nthE H i = some (.row T sz n cs)) (hx : plains cs = some xs)
    (h : ∀ b cap, n ≤ cap → setEK H i (.fz T sz n xs b cap) fun H' => SpecH P f args H' K) : SpecH P f args H K := by
  have hcs : ∀ {cs : List CV} {xs : List Value}, plains cs = some xs → cs = vs xs := by
    intro cs
    induction cs with
    | nil => intro xs h; simp [plains] at h; subst h; rfl
    | cons c cs ih =>
      intro xs h
      cases c with
      | v x =>
        simp only [plains] at h
        split at h
        · rename_i l hl
          cases h
          rw [ih hl]; rfl
        · cases h
      | _ => simp [plains] at h
  rw [nthE_eq, hcs hx] at hi
  refine ⟨ok, fun ρ S w vs hs hr => ?_⟩
  obtain ⟨b, cap, S', hnc, hs', hev⟩ := hs.dropRow hi
  obtain ⟨_, h⟩ := setEK_spec (h b cap hnc)
  exact (h.run ρ S' w vs hs' hr).mono fun e w' ⟨ρ2, S2, H2, out, a1, a2, a3, a4⟩ => ⟨ρ2, S2, H2, out, a1, hev.trans a2, a3, a4⟩

def plainC (H : List Ent) : CV → Option Value
  | .v x => some x
  | .sl i m => match nthE H i with | some (.fz _ _ _ _ b cap) => some (.slice (some ⟨b, 0, none⟩) m cap) | _ => none
  | _ => none
def plainCs (H : List Ent) : List CV → Option (List Value)
  | [] => some []
  | c :: cs => match plainC H c, plainCs H cs with | some x, some xs => some (x :: xs) | _, _ => none
def plainA (H : List Ent) : AV → Option Value
  | .c c => plainC H c
  | .agg cs => match plainCs H cs with | some xs => some (.agg xs.toArray) | none => none
def plainAs (H : List Ent) : List AV → Option (List Value)
  | [] => some []
  | c :: cs => match plainA H c, plainAs H cs with | some x, some xs => some (x :: xs) | _, _ => none

theorem plainC_rel {ρ : List Loc} {S : Nat → Prop} {H : List Ent} {w : World} (hs : Sat ρ S H w) {c : CV} {x v : Value} (h : plainC H c = some x) (hr : c.rel ρ v) : v = x := by
  cases c with
  | any => cases h
  | v y => cases h; exact hr
  | lp => cases h
  | sl i m =>
    simp only [plainC] at h
    split at h
    · rename_i T sz n xs b cap he
      cases h
      rw [nthE_eq] at he
      obtain ⟨l, hl, rfl⟩ := hr
      have hl2 := (hs.ent i _ he).1
      obtain rfl := Option.some.inj (hl.symm.trans hl2)
      rfl
    · cases h
theorem plainCs_rel {ρ : List Loc} {S : Nat → Prop} {H : List Ent} {w : World} (hs : Sat ρ S H w) : ∀ {cs : List CV} {xs vs : List Value}, plainCs H cs = some xs → RelL ρ cs vs → vs = xs
  | [], xs, [], h, _ => by simp [plainCs] at h; exact h.symm
  | c :: cs, xs, v :: vs, h, hr => by
    simp only [plainCs] at h
    split at h
    · rename_i x ys hx hy
      cases h
      rw [plainC_rel hs hx hr.1, plainCs_rel hs hy hr.2]
    · cases h
  | [], _, _ :: _, _, hr => hr.elim
  | _ :: _, _, [], _, hr => hr.elim
theorem plainA_rel {ρ : List Loc} {S : Nat → Prop} {H : List Ent} {w : World} (hs : Sat ρ S H w) {a : AV} {x v : Value} (h : plainA H a = some x) (hr : a.rel ρ v) : v = x := by
  cases a with
  | c c => exact plainC_rel hs h hr
  | agg cs =>
    simp only [plainA] at h
    split at h
    · rename_i xs hx
      cases h
      obtain ⟨ys, rfl, hy⟩ := hr
      rw [plainCs_rel hs hx hy]
    · cases h
theorem plainAs_rel {ρ : List Loc} {S : Nat → Prop} {H : List Ent} {w : World} (hs : Sat ρ S H w) : ∀ {cs : List AV} {xs vs : List Value}, plainAs H cs = some xs → RelS ρ cs vs → vs = xs
  | [], xs, [], h, _ => by simp [plainAs] at h; exact h.symm
  | c :: cs, xs, v :: vs, h, hr => by
    simp only [plainAs] at h
    split at h
    · rename_i x ys hx hy
      cases h
      rw [plainA_rel hs hx hr.1, plainAs_rel hs hy hr.2]
    · cases h
  | [], _, _ :: _, _, hr => hr.elim
  | _ :: _, _, [], _, hr => hr.elim

/-- Arguments that are rows nobody writes any more are plain values. -/
theorem SpecH.plain {P : Program} {f : FuncId} {args : List AV} {H : List Ent} {K : Out → List Ent → Prop} {xs : List Value} (hx : plainAs H args = some xs) (h : SpecH P f (pvs xs) H K) : SpecH P f args H K :=
  ⟨h.ok, fun ρ S w vs hs hr => by
    obtain rfl := plainAs_rel hs hx hr
    exact h.run ρ S w vs hs (pvs_rel ρ vs)⟩

/-! ### Loads from slices that are facts -/
theorem loadVar_cell {P : Program} {T : TypeId} {w : World} {p : Addr} {x : Value} (hs : shapeT P T = some none) (hc : w.cell? p = some x) : (loadVar T p).run P w = .ok x w := by
  unfold shapeT at hs
  have key : ∀ d, P.underlying T = some d → isAggD d = false → (loadVar T p).run P w = .ok x w := fun d hd hf => by
    unfold loadVar
    rw [Sem.run_bind, run_isAgg hd, hf]
    simp [hc]
  cases hd : P.underlying T with
  | none => rw [hd] at hs; simp at hs
  | some d =>
    rw [hd] at hs
    cases d <;> first
      | exact key _ hd rfl
      | (simp only at hs; split at hs <;> simp at hs)
theorem loadVar_cells {P : Program} {T : TypeId} {n : Nat} {w : World} {p : Addr} {xs : List Value} (hs : shapeT P T = some (some n)) (hl : xs.length = n) (hc : ∀ j v, xs[j]? = some v → w.cell? (p.add j) = some v) : (loadVar T p).run P w = .ok (.agg xs.toArray) w := by
  unfold shapeT at hs
  have key : ∀ d i, P.underlying T = some d → P.info? T = some i → i.size = n → isAggD d = true → (loadVar T p).run P w = .ok (.agg xs.toArray) w := fun d i hd hi hn hf => by
    have hcells := run_loadCells_list (P := P) w p xs hc
    rw [hl] at hcells
    unfold loadVar
    rw [Sem.run_bind, run_isAgg hd, hf]
    simp [sizeOf, typeInfo, hi, hn, hcells]
  cases hd : P.underlying T with
  | none => rw [hd] at hs; simp at hs
  | some d =>
    rw [hd] at hs
    cases d <;> first
      | (simp at hs; done)
      | (simp only at hs
         split at hs
         · rename_i i hi
           simp at hs
           exact key _ i hd hi hs rfl
         · cases hs)

theorem SlAt.cell {a : Option Addr} {k : Nat} {xs : List Value} {w : World} (h : SlAt a k xs w) {q : Nat} {x : Value} (hx : xs[q]? = some x) : w.cell? ((a.getD default).add q) = some x := by
  have : q < k := by rw [← h.1]; exact (List.getElem?_eq_some_iff.1 hx).1
  rw [h.2.2 q this, hx]

/-- A load of one cell of a slice. -/
theorem LdN.one {P : Program} {T : TypeId} {a : Option Addr} {q : Nat} {H : List Ent} {K : AV → Prop} {k : Nat} {xs : List Value} (x : Value) (hT : shapeT P T = some none) (hF : ∀ w, Facts H w → SlAt a k xs w) (hx : xs[q]? = some x)
    (next : forceV x fun x => K (.c (.v x))) : LdN P T (elemAddr a q) H K :=
  ⟨x, fun w hw => loadVar_cell hT ((hF w hw).cell hx), next⟩
/-- A load of a field. -/
theorem LdN.fld {P : Program} {T : TypeId} {a : Option Addr} {q fo : Nat} {H : List Ent} {K : AV → Prop} {k : Nat} {xs : List Value} (x : Value) (hT : shapeT P T = some none) (hF : ∀ w, Facts H w → SlAt a k xs w) (hx : xs[q + fo]? = some x)
    (next : forceV x fun x => K (.c (.v x))) : LdN P T ((elemAddr a q).add fo) H K :=
  ⟨x, fun w hw => loadVar_cell hT (by rw [elemAddr, Addr.add_add]; exact (hF w hw).cell hx), next⟩
/-- A load of a struct. -/
theorem LdN.agg {P : Program} {T : TypeId} {a : Option Addr} {q n : Nat} {H : List Ent} {K : AV → Prop} {k : Nat} {xs : List Value} (ys : List Value) (hT : shapeT P T = some (some n)) (hF : ∀ w, Facts H w → SlAt a k xs w) (hl : ys.length = n)
    (hx : ∀ j, j < n → xs[q + j]? = ys[j]?) (next : K (.c (.v (.agg ys.toArray)))) : LdN P T (elemAddr a q) H K :=
  ⟨.agg ys.toArray, fun w hw => loadVar_cells hT hl fun j v hv => by
    have hj : j < n := by rw [← hl]; exact (List.getElem?_eq_some_iff.1 hv).1
    rw [elemAddr, Addr.add_add]
    exact (hF w hw).cell ((hx j hj).trans hv), next⟩

/-! ### Lists of structs as cells -/
theorem flat_len {α : Type} {g : α → List Value} {m : Nat} (hg : ∀ a, (g a).length = m) : ∀ l : List α, (l.flatMap g).length = l.length * m
  | [] => by simp
  | a :: l => by rw [List.flatMap_cons, List.length_append, hg, flat_len hg l, List.length_cons, Nat.add_mul]; omega
theorem flat_get {α : Type} {g : α → List Value} {m : Nat} (hg : ∀ a, (g a).length = m) : ∀ (l : List α) (i j : Nat), j < m → (l.flatMap g)[i * m + j]? = (l[i]?).bind fun a => (g a)[j]?
  | [], i, j, _ => by simp
  | a :: l, 0, j, hj => by rw [List.flatMap_cons, Nat.zero_mul, Nat.zero_add, List.getElem?_append_left (by rw [hg]; exact hj)]; simp
  | a :: l, i + 1, j, hj => by
    rw [List.flatMap_cons, List.getElem?_append_right (by rw [hg, Nat.add_mul]; omega), hg, show (i + 1) * m + j - m = i * m + j by rw [Nat.add_mul]; omega, flat_get hg l i j hj]
    simp
end Go.AX

/-
  AX, sixteenth text: a contract that speaks of some entries holds among others.
-/
namespace Go.AX

/-- The number of an entry of a part, in the whole: those that the part was given, then those behind the whole's. -/
def rnI : List Nat → Nat → Nat → Nat
  | [], N, j => N + j
  | s :: _, _, 0 => s
  | _ :: σ, N, j + 1 => rnI σ N j
def rnC (σ : List Nat) (N : Nat) : CV → CV
  | .lp i o => .lp (rnI σ N i) o
  | .sl i n => .sl (rnI σ N i) n
  | c => c
def rnCs (σ : List Nat) (N : Nat) : List CV → List CV
  | [] => []
  | c :: cs => rnC σ N c :: rnCs σ N cs
def rnA (σ : List Nat) (N : Nat) : AV → AV
  | .c c => .c (rnC σ N c)
  | .agg cs => .agg (rnCs σ N cs)
def rnS (σ : List Nat) (N : Nat) : List AV → List AV
  | [] => []
  | a :: s => rnA σ N a :: rnS σ N s
def rnE (σ : List Nat) (N : Nat) : Ent → Ent
  | .blk T cs => .blk T (rnCs σ N cs)
  | .row T sz n cs => .row T sz n (rnCs σ N cs)
  | e => e
def rnO (σ : List Nat) (N : Nat) : Out → Out
  | .val a => .val (rnA σ N a)
  | .vals l => .vals (rnS σ N l)
  | .pan c => .pan c
/-- The part's entries put back among the whole's. -/
def mrg (f : Ent → Ent) : List Nat → List Ent → List Ent → (List Ent → Prop) → Prop
  | [], [], H, K => K H
  | [], e :: es, H, K => snocK H (f e) 0 fun H' _ => mrg f [] es H' K
  | s :: σ, e :: es, H, K => setEK H s (f e) fun H' => mrg f σ es H' K
  | _ :: _, [], _, _ => False
/-- The part. -/
def part (σ : List Nat) (N : Nat) (H : List Ent) : List Nat → List Ent → Prop
  | [], [] => True
  | s :: τ, e :: es => nthE H s = some (rnE σ N e) ∧ part σ N H τ es
  | _, _ => False
def ndB : List Nat → Bool
  | [] => true
  | s :: σ => !(σ.any (Nat.beq s)) && ndB σ
theorem ndB_nodup : ∀ {σ : List Nat}, ndB σ = true → σ.Nodup
  | [], _ => List.nodup_nil
  | s :: σ, h => by
    simp only [ndB, Bool.and_eq_true, Bool.not_eq_true', List.any_eq_false] at h
    exact List.nodup_cons.2 ⟨fun hm => h.1 s hm (by simp), ndB_nodup h.2⟩

theorem rnI_get : ∀ {σ : List Nat} {N j s : Nat}, σ[j]? = some s → rnI σ N j = s
  | _ :: _, _, 0, s, h => by simpa [rnI] using h
  | _ :: σ, N, j + 1, s, h => by simpa [rnI] using rnI_get (σ := σ) (N := N) (by simpa using h)
  | [], _, _, _, h => by simp at h
theorem rnI_new : ∀ (σ : List Nat) (N j : Nat), rnI σ N (σ.length + j) = N + j
  | [], N, j => by simp [rnI]
  | _ :: σ, N, j => by
    rw [show (List.length (_ :: σ)) + j = (σ.length + j) + 1 by simp; omega]
    simpa [rnI] using rnI_new σ N j

/-! ### Relations under the renaming -/
section
variable {σ : List Nat} {N : Nat} {ρ ρ' : List Loc}
theorem rnC_rel (h : ∀ j, ρ'[rnI σ N j]? = ρ[j]?) (c : CV) (v : Value) : (rnC σ N c).rel ρ' v ↔ c.rel ρ v := by
  cases c <;> simp only [rnC, CV.rel, h]
theorem rnCs_rel (h : ∀ j, ρ'[rnI σ N j]? = ρ[j]?) : ∀ (cs : List CV) (vs : List Value), RelL ρ' (rnCs σ N cs) vs ↔ RelL ρ cs vs
  | [], [] => Iff.rfl
  | [], _ :: _ => Iff.rfl
  | _ :: _, [] => Iff.rfl
  | c :: cs, v :: vs => by simp only [rnCs, RelL, rnC_rel h, rnCs_rel h cs vs]
theorem rnA_rel (h : ∀ j, ρ'[rnI σ N j]? = ρ[j]?) (a : AV) (v : Value) : (rnA σ N a).rel ρ' v ↔ a.rel ρ v := by
  cases a with
  | c c => exact rnC_rel h c v
  | agg cs => simp only [rnA, AV.rel, rnCs_rel h]
theorem rnS_rel (h : ∀ j, ρ'[rnI σ N j]? = ρ[j]?) : ∀ (cs : List AV) (vs : List Value), RelS ρ' (rnS σ N cs) vs ↔ RelS ρ cs vs
  | [], [] => Iff.rfl
  | [], _ :: _ => Iff.rfl
  | _ :: _, [] => Iff.rfl
  | c :: cs, v :: vs => by simp only [rnS, RelS, rnA_rel h, rnS_rel h cs vs]
theorem rnCs_len : ∀ cs : List CV, (rnCs σ N cs).length = cs.length
  | [] => rfl
  | _ :: cs => by simp [rnCs, rnCs_len cs]
theorem rnE_ok (h : ∀ j, ρ'[rnI σ N j]? = ρ[j]?) (S : Nat → Prop) (w : World) (j : Nat) (e : Ent) : EntOk ρ' S w (rnI σ N j) (rnE σ N e) ↔ EntOk ρ S w j e := by
  cases e <;> simp only [rnE, EntOk, rnCs_rel h, h, rnCs_len]
theorem rnE_blk (h : ∀ j, ρ'[rnI σ N j]? = ρ[j]?) (j : Nat) (e : Ent) : entB ρ' (rnI σ N j) (rnE σ N e) = entB ρ j e := by
  cases e <;> simp only [rnE, entB, h]
theorem EntOk.imm {ρ : List Loc} {S S' : Nat → Prop} {w : World} {i : Nat} {e : Ent} (h : EntOk ρ S w i e) (hs : ∀ b, S b → S' b) : EntOk ρ S' w i e := h.grow hs
end

theorem part_get {σ : List Nat} {N : Nat} {H : List Ent} : ∀ {τ : List Nat} {es : List Ent}, part σ N H τ es → τ.length = es.length ∧ ∀ (j : Nat) (s : Nat) (e : Ent), τ[j]? = some s → es[j]? = some e → H[s]? = some (rnE σ N e)
  | [], [], _ => ⟨rfl, fun j s e h => by simp at h⟩
  | s :: τ, e :: es, h => by
    obtain ⟨h1, h2⟩ := part_get (τ := τ) (es := es) h.2
    refine ⟨by simp [h1], fun j s' e' hs he => ?_⟩
    cases j with
    | zero => simp at hs he; subst hs; subst he; rw [← nthE_eq]; exact h.1
    | succ j => exact h2 j s' e' (by simpa using hs) (by simpa using he)
  | [], _ :: _, h => h.elim
  | _ :: _, [], h => h.elim

theorem mrg_spec (f : Ent → Ent) : ∀ {σ : List Nat} {es H : List Ent} {K : List Ent → Prop}, σ.Nodup → mrg f σ es H K →
    ∃ H', K H' ∧ σ.length ≤ es.length ∧ H'.length = H.length + (es.length - σ.length) ∧ (∀ s ∈ σ, s < H.length) ∧
      (∀ (j : Nat) (e : Ent), es[j]? = some e → H'[rnI σ H.length j]? = some (f e)) ∧ ∀ i, i < H.length → i ∉ σ → H'[i]? = H[i]?
  | [], [], H, K, _, h => ⟨H, h, Nat.le_refl _, by simp, fun _ h => by simp at h, fun j e h => by simp at h, fun _ _ _ => rfl⟩
  | [], e :: es, H, K, _, h => by
    simp only [mrg] at h
    rw [snocK_eq] at h
    obtain ⟨H', hK, _, hl, _, hj, hi⟩ := mrg_spec f (σ := []) List.nodup_nil h
    refine ⟨H', hK, by simp, by simp at hl ⊢; omega, fun _ h => by simp at h, fun j e' he => ?_, fun i hi' _ => ?_⟩
    · cases j with
      | zero =>
        simp at he; subst he
        simp only [rnI, Nat.add_zero]
        rw [hi H.length (by simp) (by simp)]; simp
      | succ j =>
        have := hj j e' (by simpa using he)
        simp only [rnI, List.length_append, List.length_cons, List.length_nil] at this ⊢
        rw [show H.length + (j + 1) = H.length + (0 + 1) + j by omega]; exact this
    · rw [hi i (by simp; omega) (by simp), List.getElem?_append_left hi']
  | s :: σ, e :: es, H, K, hn, h => by
    simp only [mrg] at h
    obtain ⟨hs, h⟩ := setEK_spec h
    obtain ⟨hn1, hn2⟩ := List.nodup_cons.1 hn
    obtain ⟨H', hK, hlen, hl, hlt, hj, hi⟩ := mrg_spec f (σ := σ) hn2 h
    rw [List.length_set] at hl hlt hj hi
    refine ⟨H', hK, by simp; omega, by simp at hl ⊢; omega, fun t ht => ?_, fun j e' he => ?_, fun i hi' hni => ?_⟩
    · cases ht with
      | head => exact hs
      | tail _ ht => exact hlt t ht
    · cases j with
      | zero =>
        simp at he; subst he
        simp only [rnI]
        rw [hi s hs hn1]; simp [hs]
      | succ j => exact hj j e' (by simpa using he)
    · simp only [List.mem_cons, not_or] at hni
      rw [hi i hi' hni.2, List.getElem?_set_ne (Ne.symm hni.1)]
  | _ :: _, [], _, _, _, h => h.elim

/-- A contract that speaks of some entries holds among others. -/
theorem SpecH.at {P : Program} {f : FuncId} {args0 : List AV} {H0 : List Ent} {K0 : Out → List Ent → Prop} (h : SpecH P f args0 H0 K0) (σ : List Nat) {args : List AV} {H : List Ent} {K : Out → List Ent → Prop}
    (hn : ndB σ = true) (hp : part σ H.length H σ H0) (ha : args = rnS σ H.length args0)
    (hk : ∀ out H', K0 out H' → mrg (rnE σ H.length) σ H' H fun G => K (rnO σ H.length out) G) : SpecH P f args H K := by
  subst ha
  refine ⟨h.ok, fun ρ S w vs hs hr => ?_⟩
  have nd := ndB_nodup hn
  obtain ⟨hlen, hget⟩ := part_get hp
  generalize hN : H.length = N at *
  have hρN : ρ.length = N := by rw [hs.len, hN]
  have hσlt : ∀ (j s : Nat), σ[j]? = some s → s < N := fun j s hj => by
    have hj2 : j < H0.length := by rw [← hlen]; exact (List.getElem?_eq_some_iff.1 hj).1
    have := hget j s _ hj (List.getElem?_eq_getElem hj2)
    rw [← hN]; exact (List.getElem?_eq_some_iff.1 this).1
  -- the part's places
  have hρ0 : ∃ ρ0 : List Loc, ρ0.length = σ.length ∧ ∀ (j s : Nat), σ[j]? = some s → ρ0[j]? = ρ[s]? := by
    refine ⟨σ.map fun s => ρ.getD s ⟨0, 0⟩, by simp, fun j s hj => ?_⟩
    have hs' := hσlt j s hj
    rw [List.getElem?_map, hj, Option.map_some, List.getD_eq_getElem?_getD, List.getElem?_eq_getElem (by omega)]
    rfl
  obtain ⟨ρ0, hρl, hρg⟩ := hρ0
  have hre : ∀ j, ρ[rnI σ N j]? = ρ0[j]? := fun j => by
    by_cases hj : j < σ.length
    · have hj' := List.getElem?_eq_getElem hj
      rw [rnI_get hj', ← hρg j _ hj']
    · obtain ⟨k, rfl⟩ : ∃ k, j = σ.length + k := ⟨j - σ.length, by omega⟩
      rw [rnI_new, List.getElem?_eq_none (by omega), List.getElem?_eq_none (by omega)]
  have hidx : ∀ (j : Nat) (e : Ent), H0[j]? = some e → ∃ s, σ[j]? = some s ∧ rnI σ N j = s ∧ H[s]? = some (rnE σ N e) := fun j e he => by
    have hj : j < σ.length := by rw [hlen]; exact (List.getElem?_eq_some_iff.1 he).1
    have hj' := List.getElem?_eq_getElem hj
    exact ⟨_, hj', rnI_get hj', hget j _ e hj' he⟩
  have hsat0 : Sat ρ0 S H0 w := by
    refine ⟨by omega, fun j e he => ?_, fun i j e f b he hf heb hfb => ?_, fun b hb => ?_, hs.low⟩
    · obtain ⟨s, _, h2, h3⟩ := hidx j e he
      have := hs.ent s _ h3
      rw [← h2] at this
      exact (rnE_ok hre S w j e).1 this
    · obtain ⟨s, a1, a2, a3⟩ := hidx i e he
      obtain ⟨t, b1, b2, b3⟩ := hidx j f hf
      have e1 : entB ρ s (rnE σ N e) = some b := by rw [← a2, rnE_blk hre]; exact heb
      have e2 : entB ρ t (rnE σ N f) = some b := by rw [← b2, rnE_blk hre]; exact hfb
      have := hs.inj s t _ _ b a3 b3 e1 e2
      subst this
      have hi' : i < σ.length := (List.getElem?_eq_some_iff.1 a1).1
      exact (List.getElem?_inj hi' nd).1 (a1.trans b1.symm)
    · obtain ⟨j, e, he, heb⟩ := hb
      obtain ⟨s, _, h2, h3⟩ := hidx j e he
      exact hs.out b ⟨s, _, h3, by rw [← h2, rnE_blk hre]; exact heb⟩
  have hmb0 : ∀ b, mb ρ0 H0 b → ∃ s ∈ σ, ∃ e, H[s]? = some e ∧ entB ρ s e = some b := fun b ⟨j, e, he, heb⟩ => by
    obtain ⟨s, h1, h2, h3⟩ := hidx j e he
    exact ⟨s, List.mem_of_getElem? h1, _, h3, by rw [← h2, rnE_blk hre]; exact heb⟩
  refine (h.run ρ0 S w vs hsat0 ((rnS_rel hre _ _).1 hr)).mono fun e w' ⟨ρ0', S', H0', out, hs', hev, hout, hK⟩ => ?_
  obtain ⟨G, hG, hσl, hGl, _, hGj, hGi⟩ := mrg_spec (rnE σ N) nd (hk out H0' hK)
  rw [hN] at hGl hGj hGi
  obtain ⟨t, ht⟩ := hev.pre
  have hl' : H0'.length = σ.length + t.length := by rw [← hs'.len, ht, List.length_append, hρl]
  have hre' : ∀ j, (ρ ++ t)[rnI σ N j]? = ρ0'[j]? := fun j => by
    rw [ht]
    by_cases hj : j < σ.length
    · have hj' := List.getElem?_eq_getElem hj
      have hlt := hσlt j _ hj'
      rw [rnI_get hj', List.getElem?_append_left (by omega), List.getElem?_append_left (by omega), ← hρg j _ hj']
    · obtain ⟨k, rfl⟩ : ∃ k, j = σ.length + k := ⟨j - σ.length, by omega⟩
      rw [rnI_new, List.getElem?_append_right (by omega), List.getElem?_append_right (by omega), hρN, hρl]
      congr 1; omega
  -- an entry of the whole is one of the part's, or one that was
  have hcase : ∀ (i : Nat) (f : Ent), G[i]? = some f → (∃ j e, H0'[j]? = some e ∧ i = rnI σ N j ∧ f = rnE σ N e) ∨ (i < N ∧ i ∉ σ ∧ H[i]? = some f) := fun i f hf => by
    by_cases hi : i < N
    · by_cases him : i ∈ σ
      · obtain ⟨j, hj⟩ := List.getElem?_of_mem him
        have hjl : j < H0'.length := by have := (List.getElem?_eq_some_iff.1 hj).1; omega
        have he := List.getElem?_eq_getElem hjl
        have h1 := hGj j _ he
        rw [rnI_get hj] at h1
        exact .inl ⟨j, _, he, (rnI_get hj).symm, Option.some.inj (hf.symm.trans h1)⟩
      · exact .inr ⟨hi, him, (hGi i hi him) ▸ hf⟩
    · have hil : i < G.length := (List.getElem?_eq_some_iff.1 hf).1
      have hjl : σ.length + (i - N) < H0'.length := by omega
      have he := List.getElem?_eq_getElem hjl
      have h1 := hGj _ _ he
      have hi2 : rnI σ N (σ.length + (i - N)) = i := by rw [rnI_new]; omega
      rw [hi2] at h1
      exact .inl ⟨_, _, he, hi2.symm, Option.some.inj (hf.symm.trans h1)⟩
  have houter : ∀ (i : Nat) (f : Ent) (b : Nat), i < N → i ∉ σ → H[i]? = some f → entB (ρ ++ t) i f = some b → entB ρ i f = some b ∧ b < w.heap.size ∧ ¬ mb ρ0 H0 b := fun i f b hi hni hf hfb => by
    rw [entB_pre _ (by omega)] at hfb
    refine ⟨hfb, hs.blk_lt hf hfb, fun hm => ?_⟩
    obtain ⟨s, hsσ, e', he', heb⟩ := hmb0 b hm
    exact hni (hs.inj i s f e' b hf he' hfb heb ▸ hsσ)
  have hnS : ∀ b, S b → b < w.heap.size ∧ ¬ mb ρ0 H0 b := fun b hb => ⟨hs.low b hb, fun hm => hsat0.out b hm hb⟩
  have hmbG : ∀ b, mb (ρ ++ t) G b → mb ρ H b ∨ w.heap.size ≤ b := fun b ⟨i, f, hf, hfb⟩ => by
    rcases hcase i f hf with ⟨j, e, he, rfl, rfl⟩ | ⟨hi, hni, hf'⟩
    · rw [rnE_blk hre'] at hfb
      rcases hev.own b ⟨j, e, he, hfb⟩ with h1 | h1
      · obtain ⟨s, _, e', he', heb⟩ := hmb0 b h1
        exact .inl ⟨s, e', he', heb⟩
      · exact .inr h1
    · exact .inl ⟨i, f, hf', (houter i f b hi hni hf' hfb).1⟩
  refine ⟨ρ ++ t, fun b => S b ∨ S' b, G, rnO σ N out, ⟨?_, fun i f hf => ?_, fun i j f g b hf hg hfb hgb => ?_, fun b hb hSb => ?_, fun b hb => ?_⟩,
    ⟨⟨t, rfl⟩, hev.os, hev.tape, hev.output, hev.size, fun b hb hn => hev.keep b hb fun hm => ?_, fun b hb => ?_, hmbG⟩, ?_, hG⟩
  · rw [List.length_append, hρN, hGl]; omega
  · rcases hcase i f hf with ⟨j, e, he, rfl, rfl⟩ | ⟨hi, hni, hf'⟩
    · exact ((rnE_ok hre' S' w' j e).2 (hs'.ent j e he)).grow fun b hb => .inr hb
    · refine ((hs.ent i f hf').move t (fun b hb => ?_) fun b hb => ?_).grow fun b hb => .inl hb
      · have := houter i f b hi hni hf' (by rw [entB_pre _ (by omega)]; exact hb)
        exact hev.keep b this.2.1 this.2.2
      · exact hev.keep b (hnS b hb).1 (hnS b hb).2
  · rcases hcase i f hf with ⟨i', e, he, rfl, rfl⟩ | ⟨hi, hni, hf'⟩ <;> rcases hcase j g hg with ⟨j', e', he', rfl, rfl⟩ | ⟨hj, hnj, hg'⟩
    · rw [rnE_blk hre'] at hfb hgb
      rw [hs'.inj i' j' e e' b he he' hfb hgb]
    · rw [rnE_blk hre'] at hfb
      have := houter j g b hj hnj hg' hgb
      rcases hev.own b ⟨i', e, he, hfb⟩ with h1 | h1
      · exact absurd h1 this.2.2
      · omega
    · rw [rnE_blk hre'] at hgb
      have := houter i f b hi hni hf' hfb
      rcases hev.own b ⟨j', e', he', hgb⟩ with h1 | h1
      · exact absurd h1 this.2.2
      · omega
    · exact hs.inj i j f g b hf' hg' (houter i f b hi hni hf' hfb).1 (houter j g b hj hnj hg' hgb).1
  · obtain ⟨i, f, hf, hfb⟩ := hb
    rcases hcase i f hf with ⟨j, e, he, rfl, rfl⟩ | ⟨hi, hni, hf'⟩
    · rw [rnE_blk hre'] at hfb
      rcases hSb with hSb | hSb
      · rcases hev.own b ⟨j, e, he, hfb⟩ with h1 | h1
        · exact (hnS b hSb).2 h1
        · have := (hnS b hSb).1; omega
      · exact hs'.out b ⟨j, e, he, hfb⟩ hSb
    · have h1 := houter i f b hi hni hf' hfb
      rcases hSb with hSb | hSb
      · exact hs.out b ⟨i, f, hf', h1.1⟩ hSb
      · rcases hev.imm b hSb with h2 | h2 | h2
        · exact hs.out b ⟨i, f, hf', h1.1⟩ h2
        · exact h1.2.2 h2
        · omega
  · rcases hb with hb | hb
    · exact Nat.lt_of_lt_of_le (hs.low b hb) hev.size
    · exact hs'.low b hb
  · obtain ⟨s, _, e', he', heb⟩ := hmb0 b hm
    exact hn ⟨s, e', he', heb⟩
  · rcases hb with hb | hb
    · exact .inl hb
    · rcases hev.imm b hb with h1 | h1 | h1
      · exact .inl h1
      · obtain ⟨s, _, e', he', heb⟩ := hmb0 b h1
        exact .inr (.inl ⟨s, e', he', heb⟩)
      · exact .inr (.inr h1)
  · cases out with
    | val a => obtain ⟨v, he, hv⟩ := hout; exact ⟨v, he, (rnA_rel hre' a v).2 hv⟩
    | vals l => obtain ⟨xs, he, hv⟩ := hout; exact ⟨xs, he, (rnS_rel hre' l xs).2 hv⟩
    | pan c => exact hout
end Go.AX

/-
  AX, seventeenth text: contracts that were proved of the model's calls, brought in.
-/
namespace Go.AX
open Go.RowKit

/-- A call over plain values that writes nothing that was there. -/
theorem SpecH.rawP {P : Program} {f : FuncId} {xs : List Value} {H : List Ent} {K : Out → List Ent → Prop} {R : Value → Prop} (ok : CallOk P f)
    (h : ∀ w, Facts H w → Calls P f xs.toArray w fun e w' => ∃ r, e = .returned r ∧ R r ∧ Below w.heap.size w w') (hk : ∀ r, R r → K (.val (.c (.v r))) H) : SpecH P f (pvs xs) H K := by
  refine ⟨ok, fun ρ S w vs hs hr => ?_⟩
  obtain rfl := RelS_pvs hr
  refine (h w hs.facts).mono fun e w' ⟨r, he, hR, bel⟩ => ?_
  exact ⟨ρ, S, H, .val (.c (.v r)), hs.below bel, by simpa using below_ev (S := S) (S' := S) (ρ := ρ) (H := H) (H' := H) [] bel (fun b hb => .inl hb) (fun b hb => by simpa using hb), ⟨r, he, rfl⟩, hk r hR⟩

theorem callOk {P : Program} {f : FuncId} {fn : Func} (hf : P.funcs[f]? = some fn) (hn : (fn.name == "runtime.NumGoroutine") = false) (hb : fn.body.isSome = true) : CallOk P f := ⟨fn, hf, hn, hb⟩

/-- One value under a fact; nothing turns. -/
theorem factC {P : Program} (hm : P.follows .mixedOrders = true) {f : FuncId} {fn : Func} {c : Code} (hf : P.funcs[f]? = some fn) (hn : (fn.name == "runtime.NumGoroutine") = false) (hb : fn.body = some c)
    {xs : List Value} (hl : Nat.ble (pvs xs).length fn.ntmps = true) {F : World → Prop} {r : Value} (h : initK fn.ntmps (pvs xs) fun s => exec P c s [.fact F] (endK P fn.results.toList fun out _ => out = .val (.c (.v r)))) (H : List Ent) (hF : ∀ w, Facts H w → F w) : SpecH P f (pvs xs) H (Ret r H) :=
  SpecF.call0 (R := fun v _ => v = r) (specF_of ((spec_of_exec hm hf hn hb hl h).mono fun out H' ho => by subst ho; exact fin_v rfl)) hF fun v G hv => by subst hv; exact ⟨rfl, rfl⟩
theorem okCs_vs (n : Nat) : ∀ xs : List Value, okCs n (vs xs)
  | [] => trivial
  | _ :: xs => ⟨trivial, okCs_vs n xs⟩
end Go.AX

/-
  AX, thirteenth text: from a contract to the row of a law.
-/
namespace Go.AX
open Go.ChangeShapes Go.WideShapes Go.ChangeAt Go.RowKit

section
variable {H : Type} {enc : TypeId × Value → H} {P : Program}

theorem trodAll_len {w : World} {base : Nat} {sp : Nat → Bool} {held : Bool} : ∀ {ts : List TypeId} {vs : List Value} {ds : List (DataW H)} {ps : List MemPlace}, DataW.TrodAll enc P w base sp held ts vs ds ps → ds.length = ts.length ∧ vs.length = ts.length
  | [], [], [], _, _ => ⟨rfl, rfl⟩
  | t :: ts, v :: vs, d :: ds, _, ⟨_, _, _, h, _⟩ => by have := trodAll_len h; simp [this]
  | [], _ :: _, _, _, h => h.elim
  | [], [], _ :: _, _, h => h.elim
  | _ :: _, [], _, _, h => h.elim
  | _ :: _, _ :: _, [], _, h => h.elim

/-- All that was read ahead of the call reads behind it as it did. -/
theorem trodAll_keep (hl : laidOutB P = true) {W W' : World} (hb : Below W.heap.size W W') : ∀ {ts : List TypeId} {vs : List Value} {ds : List (DataW H)} {ps : List MemPlace},
    (ts.all fun t => P.readableRec t && decide (t < P.types.size)) = true → DataW.TrodAll enc P W 0 (fun _ => true) true ts vs ds ps → DataW.TrodAll enc P W' 0 (fun b => decide (b < W.heap.size)) true ts vs ds ps
  | [], [], [], _, _, h => h
  | t :: ts, v :: vs, d :: ds, _, hp, ⟨p, q, h1, h2, e⟩ => by
    simp only [List.all_cons, Bool.and_eq_true, decide_eq_true_eq] at hp
    have lt : ∀ x ∈ p, x.block < W.heap.size := by obtain ⟨m, hm⟩ := h1; exact DataW.trod_lt m _ _ _ hm
    exact ⟨p, q, Below.trod hl hp.1.1 hp.1.2 h1 hb lt, trodAll_keep hl hb (by simpa using hp.2) h2, e⟩
  | [], _ :: _, _, _, _, h => h.elim
  | [], [], _ :: _, _, _, h => h.elim
  | _ :: _, [], _, _, _, h => h.elim
  | _ :: _, _ :: _, [], _, _, h => h.elim

/-- What a law's walk has to show: true, and nothing that was there has turned. -/
def Walk (P : Program) (f : FuncId) (args : Array Value) (W : World) : Prop :=
  Calls P f args W fun e W' => e = .returned (.bool true) ∧ Below W.heap.size W W'

/-- What is known of a law's arguments. -/
structure Known (enc : TypeId × Value → H) (P : Program) (fn : Func) (W : World) (base : Nat) (args : Array Value) (ds : List (DataW H)) (p : List MemPlace) : Prop where
  val : ∀ (j : Nat) t v, fn.params[j]? = some t → args[j]? = some v → Value.okWide P W .any base t v
  trod : DataW.TrodAll enc P W 0 (fun _ => true) true fn.params.toList args.toList ds p
  weights : (DataW.weightsEach P fn.params.toList ds).all (· ≤ reachBytes) = true
  shaped : W.ShapedOpen P

end

end Go.AX
namespace Go.AX
theorem arr1 {α : Type} {a : Array α} (h : a.toList.length = 1) : ∃ x, a = #[x] := by
  match a, h with
  | ⟨[x]⟩, _ => exact ⟨x, rfl⟩
end Go.AX

/-
  AX, eighteenth text: a law whose arguments are slices of numbers or of strings.
-/
namespace Go.AX
open Go.ChangeShapes Go.WideShapes Go.ChangeAt Go.RowKit

theorem cell?_keep {w w' : World} {a : Addr} {x : Value} (h : w.cell? a = some x) (hb : w'.heap[a.block]? = w.heap[a.block]?) : w'.cell? a = some x := by
  simp only [World.cell?] at h ⊢
  rw [hb]; exact h
theorem cell?_lt {w : World} {a : Addr} {x : Value} (h : w.cell? a = some x) : a.block < w.heap.size := by
  simp only [World.cell?] at h
  rcases hc : w.heap[a.block]? with _ | o
  · rw [hc] at h; cases h
  · exact (Array.getElem?_eq_some_iff.1 hc).1
theorem SlAt.imm {w : World} {a : Option Addr} {k : Nat} {xs : List Value} (h : SlAt a k xs w) : Imm (fun b => b < w.heap.size) w (SlAt a k xs) := by
  refine ⟨h, fun w' hw => ⟨h.1, h.2.1, fun j hj => ?_⟩⟩
  have h1 := h.2.2 j hj
  have hj' : j < xs.length := by rw [h.1]; exact hj
  rw [List.getElem?_eq_getElem hj'] at h1 ⊢
  exact cell?_keep h1 (hw _ (cell?_lt h1))

/-- A law whose arguments are plain values, under facts of the memory that it finds. -/
theorem walkH {P : Program} {f : FuncId} {vs : List Value} {w : World} (H : List Ent) (hF : ∀ e ∈ H, ∃ F, e = .fact F ∧ Imm (fun b => b < w.heap.size) w F)
    (h : SpecH P f (pvs vs) H (Ret (.bool true) H)) : Walk P f vs.toArray w := by
  have hn : ∀ (ρ : List Loc) (i : Nat) (e : Ent) (b : Nat), H[i]? = some e → entB ρ i e = some b → False := fun ρ i e b he hb => by
    obtain ⟨F, rfl, _⟩ := hF e (List.mem_of_getElem? he)
    cases hb
  have hm : ∀ (ρ : List Loc) b, ¬ mb ρ H b := fun ρ b ⟨i, e, he, hb⟩ => hn ρ i e b he hb
  have hs : Sat (H.map fun _ => ⟨0, 0⟩) (fun b => b < w.heap.size) H w := by
    refine ⟨by simp, fun i e he => ?_, fun i j e f b he hf hb _ => (hn _ i e b he hb).elim, fun b hb => (hm _ b hb).elim, fun b hb => hb⟩
    obtain ⟨F, rfl, hi⟩ := hF e (List.mem_of_getElem? he)
    exact hi
  refine (h.run _ _ w vs hs (pvs_rel _ vs)).mono fun e w' ⟨ρ', S', H', out, hs', hev, hout, hx, hH⟩ => ?_
  subst hx
  obtain ⟨v, rfl, hv⟩ := hout
  have : v = .bool true := hv
  subst this
  exact ⟨rfl, hev.os, hev.tape, hev.output, hev.size, fun b hb => hev.keep b hb (hm _ b)⟩

section
variable {H : Type} {enc : TypeId × Value → H} {P : Program} {w : World}

theorem known_string {t : TypeId} {v : Value} {d : DataW H} {ps : List MemPlace} {ts : List TypeId} {ds : List (DataW H)} {j : Nat} (ht : P.underlying t = some .string)
    (hsz : (DataW.weightsEach P ts ds).all (· ≤ reachBytes) = true) (hj : ts[j]? = some t) (hd : ds[j]? = some d)
    {r : Reach} {b : Nat} (hv : Value.okWide P w r b t v) (h : DataW.Trod enc P w 0 (fun _ => true) true t v d ps) : ∃ s : ByteArray, v = .string s ∧ s.size ≤ 200000000000000 := by
  obtain ⟨s, rfl⟩ := okWide_string ht hv
  obtain ⟨fuel, hf⟩ := h
  obtain ⟨s, h1, h2, hw⟩ := DataW.trod_string ht hf
  simp only [Prod.mk.injEq] at h2
  rw [h2.1] at hd
  have hs := sized_string hsz hj hd
  have hr : reachBytes < 200000000000000 := by decide
  refine ⟨s, ?_, ?_⟩
  · simpa [Value.cells] using h1
  · have : s.size = s.data.toList.length := rfl
    omega
theorem trodAll_get {base : Nat} {sp : Nat → Bool} {held : Bool} : ∀ {ts : List TypeId} {vs : List Value} {ds : List (DataW H)} {ps : List MemPlace}, DataW.TrodAll enc P w base sp held ts vs ds ps →
    ∀ (j : Nat) t v, ts[j]? = some t → vs[j]? = some v → ∃ d p, ds[j]? = some d ∧ DataW.Trod enc P w base sp held t v d p
  | [], [], [], _, _, j, t, v, h, _ => by simp at h
  | t :: ts, v :: vs, d :: ds, _, ⟨p, _, h1, h, _⟩, 0, t', v', ht, hv => by
    simp only [List.getElem?_cons_zero, Option.some.injEq] at ht hv
    subst ht; subst hv
    exact ⟨d, p, rfl, h1⟩
  | t :: ts, v :: vs, d :: ds, _, ⟨_, _, _, h, _⟩, j + 1, t', v', ht, hv => by
    simp only [List.getElem?_cons_succ] at ht hv ⊢
    exact trodAll_get h j t' v' ht hv
  | [], _ :: _, _, _, h, _, _, _, _, _ => h.elim
  | [], [], _ :: _, _, h, _, _, _, _, _ => h.elim
  | _ :: _, [], _, _, h, _, _, _, _, _ => h.elim
  | _ :: _, _ :: _, [], _, h, _, _, _, _, _ => h.elim

variable {fn : Func} {base : Nat} {args : Array Value} {ds : List (DataW H)} {p : List MemPlace}
/-- What is known of a law's arguments, its memory's shape aside. -/
structure Known0 (enc : TypeId × Value → H) (P : Program) (fn : Func) (W : World) (base : Nat) (args : Array Value) (ds : List (DataW H)) (p : List MemPlace) : Prop where
  val : ∀ (j : Nat) t v, fn.params[j]? = some t → args[j]? = some v → Value.okWide P W .any base t v
  trod : DataW.TrodAll enc P W 0 (fun _ => true) true fn.params.toList args.toList ds p
  weights : (DataW.weightsEach P fn.params.toList ds).all (· ≤ reachBytes) = true
theorem Known.low (k : Known enc P fn w base args ds p) : Known0 enc P fn w base args ds p := ⟨k.val, k.trod, k.weights⟩
theorem Known0.int (k : Known0 enc P fn w base args ds p) (j : Nat) {t : TypeId} {v : Value} {i : IntKind} (hj : fn.params[j]? = some t) (hv : args[j]? = some v) (ht : P.underlying t = some (.int i)) : ∃ n, v = .int i n := okWide_int ht (k.val j t v hj hv)
theorem Known0.string (k : Known0 enc P fn w base args ds p) (j : Nat) {t : TypeId} {v : Value} (hj : fn.params[j]? = some t) (hv : args[j]? = some v) (ht : P.underlying t = some .string) :
    ∃ s : ByteArray, v = .string s ∧ s.size ≤ 200000000000000 := by
  obtain ⟨d, q, hd, h⟩ := trodAll_get k.trod j t v (by simpa using hj) (by simpa using hv)
  exact known_string ht k.weights (by simpa using hj) hd (k.val j t v hj hv) h
end
end Go.AX

/-
  AX, nineteenth text: from a contract to the row of a law that lists package-level variables.
-/
namespace Go.AX
open Go.ChangeShapes Go.WideShapes Go.ChangeAt Go.RowKit

section
variable {H : Type} {enc : TypeId × Value → H}

end
end Go.AX

/-
  AX, twentieth text: parts of strings, bytes as a string, stores into a slice that grows.
-/
namespace Go.AX
open Go.RowKit

theorem ReadW.val {P : Program} {o : Oper} {s : List AV} {H : List Ent} {K : AV → Prop} (x : Value) (hsel : ∀ cs b, o.op ≠ .select cs b) (hp : allPlain s o.op.operands.toList = true)
    (ok : ∀ w, Facts H w → (execOp (plainEv s) o).run P w = .ok (.value x) w) (hk : K (.c (.v x))) : ReadW P o s H K :=
  ⟨_, hk, fun ρ S w a hs hr => ⟨x, by rw [execOp_congr o hsel (ρ' := plainEv s) fun x hx => allPlain_eval hr _ hp x (Array.mem_toList_iff.2 hx)]; exact ok w hs.facts, rfl⟩⟩

theorem plainEv_v {s : List AV} {x : Operand} {v : Value} (h : opv s x = .c (.v v)) : plainEv s x = v := by simp [plainEv, h]
theorem run_op_slice {P : Program} {o : Oper} {ev : Operand → Value} {t : TypeId} {x : Operand} {lo hi mx : Option Operand} {r : Value} {w : World} (ho : o.op = .slice t x lo hi mx)
    (h : (Instr.sliceAt t (ev x) (lo.map ev) (hi.map ev) (mx.map ev)).run P w = .ok r w) : (execOp ev o).run P w = .ok (.value r) w := by
  unfold execOp; simp only [ho, Sem.run_bind, h, Result.andThen_ok, Sem.run_pure]
section
variable {P : Program} {o : Oper} {s : List AV} {H : List Ent} {K : AV → Prop} {t : TypeId} {x y z : Operand} {b : ByteArray} {k k' : IntKind} {i j : Int}
/-- b[i:] -/
theorem ReadW.str_l (ho : o.op = .slice t x (some y) none none) (hu : P.underlying t = some .string) (hx : opv s x = .c (.v (.string b))) (hy : opv s y = .c (.v (.int k i)))
    (h : 0 ≤ i ∧ i ≤ b.size) (hk : K (.c (.v (.string (b.extract i.toNat b.size))))) : ReadW P o s H K :=
  ReadW.val _ (fun cs b e => by rw [ho] at e; cases e) (by rw [ho]; show allPlain s [x, y] = true; simp [allPlain, hx, hy])
    (fun w _ => run_op_slice ho (by simp only [Option.map, plainEv_v hx, plainEv_v hy]; rw [run_sliceAt_string w t _ _ _ _ hu, run_slice_string_l w t b hu k i h.1 h.2])) hk
/-- b[:j] -/
theorem ReadW.str_h (ho : o.op = .slice t x none (some z) none) (hu : P.underlying t = some .string) (hx : opv s x = .c (.v (.string b))) (hz : opv s z = .c (.v (.int k j)))
    (h : 0 ≤ j ∧ j ≤ b.size) (hk : K (.c (.v (.string (b.extract 0 j.toNat))))) : ReadW P o s H K :=
  ReadW.val _ (fun cs b e => by rw [ho] at e; cases e) (by rw [ho]; show allPlain s [x, z] = true; simp [allPlain, hx, hz])
    (fun w _ => run_op_slice ho (by simp only [Option.map, plainEv_v hx, plainEv_v hz]; rw [run_sliceAt_string w t _ _ _ _ hu, run_slice_string_h w t b hu k j h.1 h.2])) hk
end

/-- The bytes as values. -/
def u8s (l : List UInt8) : List Value := l.map fun b => .int .u8 (b.toNat : Int)
/-- string(a) of bytes. -/
theorem ReadW.bytes {P : Program} {o : Oper} {s : List AV} {H : List Ent} {K : AV → Prop} {src dst e : TypeId} {x : Operand} {a : Option Addr} {cap n : Nat} (l : List UInt8) (hn : l.length = n) (ho : o.op = .convert src dst x) (hs : P.underlying src = some (.slice e))
    (he : P.underlying e = some (.int .u8)) (hd : P.underlying dst = some .string) (hx : opv s x = .c (.v (.slice a n cap))) (hF : ∀ w, Facts H w → SlAt a n (u8s l) w) (hk : K (.c (.v (.string ⟨l.toArray⟩)))) : ReadW P o s H K := by
  subst hn
  exact ReadW.val _ (fun cs b e => by rw [ho] at e; cases e) (by rw [ho]; show allPlain s [x] = true; simp [allPlain, hx])
    (fun w hw => by
      unfold execOp
      have hS := hF w hw
      have hrun : (convert src dst (.slice a l.length cap)).run P w = .ok (.string ⟨l.toArray⟩) w := by
        cases a with
        | some a =>
          refine run_convert_bytes_back w src dst e a cap l hs he hd ?_
          intro j hj
          have := hS.2.2 j hj
          simpa [u8s, hj] using this
        | none =>
          have hl : l = [] := by
            cases l with
            | nil => rfl
            | cons c l => exact absurd (hS.2.1 (by simp)) (by simp)
          subst hl
          have := run_convert_bytes_string w src dst e none 0 cap hs he hd
          simp [this, Conv.bytesToString]
          rfl
      simp only [ho, plainEv_v hx, Sem.run_bind, hrun, Result.andThen_ok, Sem.run_pure]) hk

/-- A store into a slice that grows. -/
theorem EffW.app {P : Program} {o : Oper} {s : List AV} {H : List Ent} {K : AV → List Ent → Prop} {Ty T : TypeId} {x y : Operand} {sz n cap b q i : Nat} {xs ys : List Value} {inf : TypeInfo} (ho : o.op = .store Ty x y)
    (hx : opv s x = .c (.v (.pointer (some ⟨b, q, none⟩)))) (hi : nthE H i = some (.app T sz xs (some ⟨b, 0, none⟩) n cap)) (hy : avCells (opv s y) = some (vs ys)) (hone : oneCs (vs ys) = true) (hinf : P.info? Ty = some inf) (hlen : ys.length = inf.size)
    (hq : q + ys.length ≤ n * sz) (hk : setEK H i (.app T sz (xs.take q ++ ys ++ xs.drop (q + ys.length)) (some ⟨b, 0, none⟩) n cap) fun H' => K (.c .any) H') : EffW P o s H K := by
  rw [nthE_eq] at hi
  obtain ⟨_, hk⟩ := setEK_spec hk
  refine Effs.w (fun ρ S w a hs hr => ?_) hk
  have hxr : a.eval x = .pointer (some ⟨b, q, none⟩) := by have := opv_rel hr x; rw [hx] at this; exact this
  have hyr := avCells_rel hy (opv_rel hr y)
  have hys : (a.eval y).cells.toList = ys := by
    have : ∀ (l : List Value) (m : List Value), RelL ρ (vs l) m → m = l := by
      intro l
      induction l with
      | nil => intro m h; cases m with
        | nil => rfl
        | cons _ _ => exact h.elim
      | cons v l ih => intro m h; cases m with
        | nil => exact h.elim
        | cons u m => rw [show u = v from h.1, ih m h.2]
    exact this _ _ hyr
  rcases hs.ent i _ hi with ⟨h0, _⟩ | ⟨b', hb', arr, fr, ⟨hb, hfr⟩, hxl, hnc, hcm, hasz, htk⟩
  · cases h0
  cases hb'
  have hnl : n * sz ≤ arr.size := by rw [hasz]; exact Nat.mul_le_mul_right _ hnc
  have hsz : (a.eval y).cells.size = inf.size := by rw [← hlen, ← hys]; simp
  have hfit : q + (a.eval y).cells.toList.length ≤ arr.size := by rw [hys]; omega
  have hrun := run_storeVar (P := P) hb hfr hinf hsz hfit (oneCs_rel hone hyr)
  obtain ⟨f1, f2, f3, f4, f5⟩ := setRow_facts w b (arr.toList.take q ++ (a.eval y).cells.toList ++ arr.toList.drop (q + (a.eval y).cells.toList.length)).toArray
  have hE : EntOk ρ S (w.setRow b (arr.toList.take q ++ (a.eval y).cells.toList ++ arr.toList.drop (q + (a.eval y).cells.toList.length)).toArray) i (.app T sz (xs.take q ++ ys ++ xs.drop (q + ys.length)) (some ⟨b, 0, none⟩) n cap) := by
    have e0 : (arr.toList.take q ++ (a.eval y).cells.toList ++ arr.toList.drop (q + (a.eval y).cells.toList.length)).toArray.size = arr.size := by rw [hys]; simp; omega
    refine .inr ⟨b, rfl, _, fr, ⟨setRow_heap w b arr _ T _ hb, by rw [e0]; exact hfr⟩, ?_, hnc, hcm, ?_, ?_⟩
    · simp; omega
    · rw [hys]; simp; omega
    · rw [hys]
      have e : (arr.toList.take q ++ ys ++ arr.toList.drop (q + ys.length)).toArray.toList.take (n * sz) = (arr.toList.take (n * sz)).take q ++ ys ++ (arr.toList.take (n * sz)).drop (q + ys.length) := by
        apply List.ext_getElem?
        intro j
        simp only [List.getElem?_take, List.getElem?_append, List.getElem?_drop, List.length_append, List.length_take, Array.length_toList]
        by_cases h1 : j < q
        · have : min q arr.size = q := by omega
          have h2 : min q (min (n * sz) arr.size) = q := by omega
          simp [this, h2, h1, show j < q + ys.length by omega, show j < n * sz by omega]
        · have : min q arr.size = q := by omega
          have h2 : min q (min (n * sz) arr.size) = q := by omega
          by_cases h3 : j < q + ys.length
          · simp [this, h2, h1, h3, show j < n * sz by omega]
          · simp only [this, h2, h1, h3, if_false]
            by_cases h4 : j < n * sz
            · simp [h4, show q + ys.length + (j - (q + ys.length)) = j by omega]
            · simp [h4]; omega
      rw [e, htk]
  have hS := hs.setG (e' := .app T sz (xs.take q ++ ys ++ xs.drop (q + ys.length)) (some ⟨b, 0, none⟩) n cap) hi rfl (Nat.le_of_eq f1.symm) (fun k _ hne => f2 k hne) f3 f4 f5 (fun c hc => .inl (Option.some.inj hc).symm) hE
  refine ⟨.skip, undef, ρ, _, ?_, .inr ⟨rfl, rfl⟩, hS.1, hS.2, trivial⟩
  unfold execOp
  simp only [ho, hxr, Instr.storeAt, Instr.sureAddr, Sem.run_bind, Sem.run_pure, Result.andThen_ok, hrun]
end Go.AX

/-
  The walk's own step, under a short name: the goal is walked on as far as nothing is to be decided.
-/
namespace Go.AX
structure WQ (q : Prop) : Prop where
  out : q
theorem wX {p q : Prop} (h : q) (e : WQ q → p := by intro hq; (((conv => whnf); (repeat ((first | refine BoxN.own ?_ | refine RwN.own ?_ | refine VrN.norm (wrap_i64 (by omega)) ?_ | refine VrN.keep ?_ | refine DrawN.calm (by decide +kernel) ?_ | refine Nd.mk (by decide +kernel) ?_ | refine Nd.mk (by omega) ?_ | (refine Nd.mk ?_ ?_; focus ((repeat' (first | exact trivial | exact wkE_refl _ | refine And.intro ?_ ?_)); done)) | refine RdN.intro _ rfl (by rfl) ?_); (conv => whnf))))); exact hq.out) : p := e ⟨h⟩
theorem wZ {p : Prop} (e : p := by ((conv => whnf); (repeat ((first | refine BoxN.own ?_ | refine RwN.own ?_ | refine VrN.norm (wrap_i64 (by omega)) ?_ | refine VrN.keep ?_ | refine DrawN.calm (by decide +kernel) ?_ | refine Nd.mk (by decide +kernel) ?_ | refine Nd.mk (by omega) ?_ | (refine Nd.mk ?_ ?_; focus ((repeat' (first | exact trivial | exact wkE_refl _ | refine And.intro ?_ ?_)); done)) | refine RdN.intro _ rfl (by rfl) ?_); (conv => whnf))))) : p := e
end Go.AX

/-
  AX, twenty-fourth text: from a contract to the row of a law that lists package-level variables, the world's shape kept.
-/
namespace Go.AX
open Go.ChangeShapes Go.WideShapes Go.ChangeAt Go.RowKit

section
variable {H : Type} {enc : TypeId × Value → H}

theorem handed_and_shaped {a : Assume} {C : Checked} {os : Os} {f : FuncId} {fn : Func} {s : ChangeSpec} {conds : List PathCond} {apart fresh handsOn again : Bool} {X : World → Array Value → Prop}
    (hX : ∀ (w w' : World) (args : Array Value), w.heap = w'.heap → X w args → X w' args)
    (own : ownKnob C.prog.godebug = none) (started : os.Started) (noInit : C.prog.inits.idxOf? f = none) (hfn : C.prog.funcs[f]? = some fn)
    (witness : ∃ (w : World) (tape : Tape) (i : Input), w.os = os ∧ (w.forCall tape i).Shaped C.prog ∧ i.vars = [] ∧ Input.okWide C.prog (w.forCall tape i) .any w.heap.size f i ∧
      ((s.pre enc C.prog fn conds apart (w.forCall tape i).memory i.args ∧ X (w.forCall tape i).memory i.args) ∧ sizedMet enc C.prog fn (OpenSpec.ofChange s) apart (w.forCall tape i).memory i.args) ∧ a.holds C.prog (lone (Frame.enter C.prog f i.args .normal) [] (w.forCall tape i)))
    (contract : ∀ (W : World) (base : Nat) (args : Array Value) (ds gs : List (DataW H)) (before : List MemPlace),
      (∀ (j : Nat) t v, fn.params[j]? = some t → args[j]? = some v → Value.okWide C.prog W .any base t v) →
      DataW.Whole enc C.prog fn.params.toList s.vars apart W args.toList ds gs before →
      conds.all (PathCond.test C.prog ⟨fn.params.toList, ds, s.plain.varTypes C.prog, gs⟩) = true →
      (DataW.weightsEach C.prog (fn.params.toList ++ s.plain.varTypes C.prog) (ds ++ gs)).all (· ≤ reachBytes) = true → X W args → W.ShapedOpen C.prog →
      Calls C.prog f args W fun e W' => ∃ v, e = .returned v ∧ s.post enc C.prog fn apart fresh handsOn again W args v W') :
    ReturnsInHanded a C os f .any (fun w args => (s.pre enc C.prog fn conds apart w args ∧ X w args) ∧ sizedMet enc C.prog fn (OpenSpec.ofChange s) apart w args) (s.post enc C.prog fn apart fresh handsOn again) := by
  refine returnsInHanded_of_calls own started noInit witness ?_
  intro w tape i _ hsh _ hok hpre _
  obtain ⟨_, _, _, fn', hfn', _, _, _, _, hval⟩ := hok
  have e : fn' = fn := Option.some.inj (hfn'.symm.trans hfn)
  subst e
  obtain ⟨⟨⟨ds, gs, before, hw, hc⟩, hx⟩, hz⟩ := hpre
  have hw' := DataW.Whole.of_heap (w' := w.forCall tape i) (by rfl) hw
  refine (contract (w.forCall tape i) w.heap.size i.args ds gs before hval hw' hc (hz.weights hw) (hX _ _ _ (by rfl) hx) hsh).mono fun e W' ⟨v, he, hp⟩ => ?_
  subst he
  exact ChangeSpec.post_blind hp

theorem liftS {C : Checked} {os : Os} {f : FuncId} {fn : Func} {s : ChangeSpec} {conds : List PathCond} {laid : List (String × DataW Unit)} (own : ownKnob C.prog.godebug = none) (started : os.Started) (noInit : C.prog.inits.idxOf? f = none)
    (hfn : C.prog.funcs[f]? = some fn)
    (witness : ∃ (w : World) (tape : Tape) (i : Input), w.os = os ∧ (w.forCall tape i).Shaped C.prog ∧ i.vars = [] ∧ Input.okWide C.prog (w.forCall tape i) .any w.heap.size f i ∧
      ((s.pre enc C.prog fn conds false (w.forCall tape i).memory i.args ∧ laidMetH C.prog laid (w.forCall tape i).memory) ∧ sizedMet enc C.prog fn (OpenSpec.ofChange s) false (w.forCall tape i).memory i.args) ∧ ({} : Assume).holds C.prog (lone (Frame.enter C.prog f i.args .normal) [] (w.forCall tape i)))
    (hlaid : laidOutB C.prog = true) (hvars : s.vars = []) {t : TypeId} (hres : fn.resultTypes = #[t]) (hbool : C.prog.underlying t = some .bool)
    (hpar : (fn.params.toList.all fun t => C.prog.readableRec t && decide (t < C.prog.types.size)) = true)
    (hspec : ∀ ds : List (DataW H), ds.length = fn.params.toList.length → s.fn H ds = { results := [.lit (.bool true)], args := ds })
    (walk : ∀ (W : World) (base : Nat) (args : Array Value) (ds : List (DataW H)) (p : List MemPlace), Known enc C.prog fn W base args ds p → laidMetH C.prog laid W → Walk C.prog f args W) :
    ReturnsInHanded {} C os f .any (fun w args => (s.pre enc C.prog fn conds false w args ∧ laidMetH C.prog laid w) ∧ sizedMet enc C.prog fn (OpenSpec.ofChange s) false w args) (s.post enc C.prog fn false true false false) := by
  refine handed_and_shaped (X := fun w _ => laidMetH C.prog laid w) (fun _ _ _ hh h => h.of_heap hh) own started noInit hfn witness ?_
  intro W base args ds gs before hval hW _ hwt hL hsh
  have hW' := hW
  obtain ⟨p, q, hA, hV, rfl, hfz, hnd⟩ := hW
  rw [hvars] at hV
  obtain ⟨rfl, rfl⟩ := trodVars_none hV
  have hvt : s.plain.varTypes C.prog = [] := by simp [DataSpec.varTypes, ChangeSpec.plain, hvars]
  rw [hvt, List.append_nil, List.append_nil] at hwt
  refine (walk W base args ds p ⟨hval, hA, hwt, hsh⟩ hL).mono fun e W' ⟨he, bel⟩ => ?_
  subst he
  have hs := hspec ds (trodAll_len hA).1
  refine ⟨_, rfl, ds, [], p ++ [], [], p, [], hW', ?_, ?_, ?_, bel.frame _, fun h => by cases h⟩
  · rw [List.append_nil, hs, hres]
    exact trodAll_mk1 (shut_bool hbool _)
  · rw [List.append_nil, hs]
    exact trodAll_keep hlaid bel hpar hA
  · rw [List.append_nil, hs, hvars]
    rfl
end
end Go.AX

/-
  AX, twenty-first text: bytes that grow by strings, package unsafe's strings, pointers turned to and fro, functions without a body, parts of slices, entries set ahead.
-/
namespace Go.AX

theorem u8s_len (l : List UInt8) : (u8s l).length = l.length := by simp [u8s]

/-- Where a slice lies: nowhere yet, or at the head of a block. -/
def at0 (ob : Option Nat) : Option Addr := ob.map fun b => ⟨b, 0, none⟩

/-! ### Pointers -/
/-! ### Functions without a body -/
theorem EffW.ext {P : Program} {o : Oper} {s : List AV} {H : List Ent} {K : AV → List Ent → Prop} {f : FuncId} {fn : Func} {e : Array Value → Sem Value} {args : Array Operand} {ts : Array TypeId} (ho : o.op = .call { callee := .value (.func f), args := args, argTypes := ts })
    (hf : P.funcs[f]? = some fn) (hname : (fn.name == "runtime.NumGoroutine") = false) (hb : fn.body.isNone = true) (hn : Extern.findNext fn = none) (he : Extern.find fn = some e) (av : AV) (h : K av H)
    (hrun : ∀ (ρ : List Loc) (vs : List Value), RelS ρ (opvs s args.toList) vs → ∃ v, av.rel ρ v ∧ ∀ w, (e vs.toArray).run P w = .ok v w) : EffW P o s H K := by
  intro ρ S w a hs hr
  obtain ⟨v, hv, hrun⟩ := hrun ρ _ (opvs_rel hr args.toList)
  refine ⟨av, H, h, .value v, v, ρ, w, ?_, .inl rfl, hs, Ev.refl _ _ _ _, hv⟩
  have hc := run_callFunc_extern hf hname hb hn he (args.toList.map a.eval).toArray w
  rw [hrun w] at hc
  have he2 : args.map a.eval = (args.toList.map a.eval).toArray := by apply Array.ext'; simp
  unfold execOp
  simp only [ho, resolve, Deferred.ofValue, invoke, Act.eval, Sem.run_bind, Sem.run_pure, Result.andThen_ok, he2]
  simpa using hc
/-! ### Bytes as a string -/
/-! ### Parts of slices -/
def slcB (P : Program) (T : TypeId) : Bool := match P.underlying T with | some (.slice e) => (P.info? e).isSome | _ => false
theorem slcB_spec {P : Program} {T : TypeId} (h : slcB P T = true) : ∃ e i, P.underlying T = some (.slice e) ∧ P.info? e = some i := by
  unfold slcB at h
  split at h
  · rename_i e he
    exact ⟨e, _, he, (Option.some_get h).symm⟩
  · cases h
theorem ReadW.slc_h {P : Program} {o : Oper} {s : List AV} {H : List Ent} {K : AV → Prop} {t : TypeId} {x z : Operand} {ob : Option Nat} {n cap : Nat} {k : IntKind} {j : Int} (ho : o.op = .slice t x none (some z) none) (hu : slcB P t = true)
    (hx : opv s x = .c (.v (.slice (at0 ob) n cap))) (hz : opv s z = .c (.v (.int k j))) (hj : 0 ≤ j ∧ j ≤ (cap : Int)) (h : K (.c (.v (.slice (at0 ob) j.toNat cap)))) : ReadW P o s H K := by
  obtain ⟨e, inf, hu, hi⟩ := slcB_spec hu
  refine ReadW.val _ (fun cs b => by rw [ho]; simp) (by rw [ho]; simp [Op.operands, allPlain, hx, hz]) (fun w _ => ?_) h
  have e1 := plainEv_v hx
  have e2 := plainEv_v hz
  have : (Instr.sliceAt t (.slice (at0 ob) n cap) none (some (.int k j)) none).run P w = .ok (.slice (at0 ob) j.toNat cap) w := by
    have ha : (at0 ob).map (·.add 0) = at0 ob := by
      cases ob with
      | none => rfl
      | some b => simp [at0, add_lit0]
    simp [Instr.sliceAt, Instr.slice, run_underlying hu, Instr.sliceBounds, Instr.sliceBound, asIntOf, hj, sizeOf, typeInfo, hi, ha]
  refine run_op_slice ho ?_
  rw [e1]
  simpa [e2] using this

/-! ### Entries set ahead -/
theorem SpecH.pad {P : Program} {f : FuncId} {args : List AV} {H : List Ent} {K : Out → List Ent → Prop} (pad : List Ent) (hp : padB pad = true) (h : SpecH P f args (H ++ pad) K) : SpecH P f args H K := by
  refine ⟨h.ok, fun ρ S w vs hs hr => ?_⟩
  obtain ⟨t, hs', hev⟩ := hs.pad pad hp
  exact (h.run (ρ ++ t) S w vs hs' (RelS_pre t hr)).mono fun e w' ⟨ρ', S', H', out, h1, h2, h3, h4⟩ => ⟨ρ', S', H', out, h1, hev.trans h2, h3, h4⟩
end Go.AX

/-
  AX, twenty-second text: bytes as lists; contracts that turn own entries.
-/
namespace Go.AX

def bs (l : List UInt8) : ByteArray := ⟨l.toArray⟩
theorem bs_app (a b : List UInt8) : bs a ++ bs b = bs (a ++ b) := by
  apply ByteArray.ext
  simp [bs]
theorem bs_size (a : List UInt8) : (bs a).size = a.length := by simp [bs, ByteArray.size]
theorem bs_list (a : List UInt8) : (bs a).data.toList = a := by simp [bs]
theorem bs_of (b : ByteArray) : bs b.data.toList = b := rfl
theorem bs_ext (l : List UInt8) (i j : Nat) : (bs l).extract i j = bs ((l.take j).drop i) := by
  apply ByteArray.ext
  apply Array.ext'
  rw [ByteArray.data_extract]
  simp [bs, List.drop_take]
theorem bs_drop (l : List UInt8) (i : Nat) : (bs l).extract i l.length = bs (l.drop i) := by rw [bs_ext, List.take_length]
theorem bs_take (l : List UInt8) (j : Nat) : (bs l).extract 0 j = bs (l.take j) := by rw [bs_ext, List.drop_zero]
theorem byteAt_get {l : List UInt8} {i : Nat} {c : UInt8} (h : l[i]? = some c) : byteAt (bs l) i = (c.toNat : Int) := by
  simp [byteAt, bs_list, List.getD, h]
theorem u8_eq {c : UInt8} {n : Nat} (hn : n < 256) : ((c.toNat : Int) == (n : Int)) = (c == UInt8.ofNat n) := by
  by_cases h : c = UInt8.ofNat n
  · subst h
    have e : (UInt8.ofNat n).toNat = n := by simp; omega
    rw [e]; simp
  · rw [show (c == UInt8.ofNat n) = false by simpa using h]
    have : ¬ (c.toNat : Int) = (n : Int) := fun h2 => h (UInt8.toNat_inj.1 (by simp; omega))
    simpa using this

/-- s[i:] -/
theorem ReadW.sl_l {P : Program} {o : Oper} {s : List AV} {H : List Ent} {K : AV → Prop} {t : TypeId} {x y : Operand} {b : List UInt8} {k : IntKind} {i : Int} (n : Nat) (ho : o.op = .slice t x (some y) none none) (hu : P.underlying t = some .string) (hx : opv s x = .c (.v (.string (bs b)))) (hy : opv s y = .c (.v (.int k i)))
    (h : i = (n : Int) ∧ n ≤ b.length) (hk : K (.c (.v (.string (bs (b.drop n)))))) : ReadW P o s H K :=
  ReadW.str_l ho hu hx hy ⟨by omega, by rw [bs_size]; omega⟩ (by rw [bs_size, show i.toNat = n by omega, bs_drop]; exact hk)
/-- s[:j] -/
theorem ReadW.sl_h {P : Program} {o : Oper} {s : List AV} {H : List Ent} {K : AV → Prop} {t : TypeId} {x y : Operand} {b : List UInt8} {k : IntKind} {i : Int} (n : Nat) (ho : o.op = .slice t x none (some y) none) (hu : P.underlying t = some .string) (hx : opv s x = .c (.v (.string (bs b)))) (hy : opv s y = .c (.v (.int k i)))
    (h : i = (n : Int) ∧ n ≤ b.length) (hk : K (.c (.v (.string (bs (b.take n)))))) : ReadW P o s H K :=
  ReadW.str_h ho hu hx hy ⟨by omega, by rw [bs_size]; omega⟩ (by rw [show i.toNat = n by omega, bs_take]; exact hk)
/-- The call hands back a value of a family, and leaves own entries of that family. -/
def RetG {ι : Type} (inv : ι → Prop) (val : ι → Value) (G : ι → List Ent) : Out → List Ent → Prop := fun out H' => ∃ i, inv i ∧ out = .val (.c (.v (val i))) ∧ H' = G i
theorem SpecH.wkG {P : Program} {f : FuncId} {args : List AV} {H : List Ent} {ι : Type} {inv : ι → Prop} {val : ι → Value} {G : ι → List Ent} (hok : ∀ i, inv i → okH (G i).length (G i)) (hl : ∀ i, inv i → H.length ≤ (G i).length)
    (h : SpecH P f args H fun out H' => ∃ i, inv i ∧ out = .val (.c (.v (val i))) ∧ wkH H' (G i)) : SpecH P f args H (RetG inv val G) := by
  refine ⟨h.ok, fun ρ S w vs hs hr => (h.run ρ S w vs hs hr).mono fun e w' ⟨ρ', S', H', out, hs', hev, hout, i, hi, hx, hw⟩ => ?_⟩
  subst hx
  obtain ⟨h1, h2⟩ := hs'.weak hw (hok i hi)
  refine ⟨ρ'.take (G i).length, S', G i, .val (.c (.v (val i))), h1, ⟨?_, hev.os, hev.tape, hev.output, hev.size, hev.keep, hev.imm, fun b hb => hev.own b (h2 b hb)⟩, hout, i, hi, rfl, rfl⟩
  obtain ⟨t, ht⟩ := hev.pre
  refine ⟨t.take ((G i).length - ρ.length), ?_⟩
  rw [ht, List.take_append, List.take_of_length_le (by rw [hs.len]; exact hl i hi)]
/-- A contract on own entries, by the executor. -/
theorem ownC {P : Program} (hm : P.follows .mixedOrders = true) {f : FuncId} {fn : Func} {c : Code} (hf : P.funcs[f]? = some fn) (hn : (fn.name == "runtime.NumGoroutine") = false) (hb : fn.body = some c)
    {args : List AV} {H : List Ent} (hl : Nat.ble args.length fn.ntmps = true) {ι : Type} {inv : ι → Prop} {val : ι → Value} {G : ι → List Ent} (hok : ∀ i, inv i → okH (G i).length (G i)) (hl2 : ∀ i, inv i → H.length ≤ (G i).length)
    (h : initK fn.ntmps args fun s => exec P c s H (endK P fn.results.toList fun out H' => ∃ i, inv i ∧ out = .val (.c (.v (val i))) ∧ wkH H' (G i))) : SpecH P f args H (RetG inv val G) :=
  SpecH.wkG hok hl2 (spec_of_exec hm hf hn hb hl h)
/-- .. used among other entries. -/
theorem callG {P : Program} {f : FuncId} {args0 : List AV} {H0 : List Ent} {ι : Type} {inv : ι → Prop} {val : ι → Value} {G : ι → List Ent} (h : SpecH P f args0 H0 (RetG inv val G)) (σ : List Nat) {args : List AV} {H : List Ent} {K : Out → List Ent → Prop}
    (hn : ndB σ = true) (hp : part σ H.length H σ H0) (ha : args = rnS σ H.length args0) (hk : ∀ i, inv i → mrg (rnE σ H.length) σ (G i) H fun G' => K (.val (.c (.v (val i)))) G') : SpecH P f args H K :=
  h.at σ hn hp ha fun out H' ⟨i, hi, ho, hH⟩ => by subst ho; subst hH; exact hk i hi
theorem wkH_nil (H : List Ent) : wkH H [] := by cases H <;> trivial
theorem wkH_of_eq {H G : List Ent} (h : H = G) : wkH H G := by subst h; exact wkH_refl _
end Go.AX

/-
  Contracts: strings.Builder, own.
-/
namespace Go.Proofs.YteljlkkppaobeaaDoor
open Go.AX Go.RowKit
set_option maxRecDepth 20000
theorem hm : Tryd.prog.follows .mixedOrders = true := by kernel_rfl

structure BSt where
  ob : Option Nat
  cap : Nat
/-- Where a Builder's bytes lie. -/
def BSt.ok (n : Nat) (i : BSt) : Prop := (i.ob = none → n = 0 ∧ i.cap = 0) ∧ n ≤ i.cap ∧ (i.cap = 0 → i.ob = none)

end Go.Proofs.YteljlkkppaobeaaDoor

/-
  DERIVED: THE SHELF's CONTRACTS AT THIS DUMP, IN PLAIN WORDS (tools/lay-plain.mjs out of 'TrydShelf.lean', which tools/lay-shelf.mjs wrote): THE SAME DECLARATIONS UNDER THE SAME NAMES: 'import', 'namespace', 'open', 'def', 'theorem' AND NOTHING ELSE: no command of the shelf's: FOR A HAND-IN. Each laying: the table of numbers ('.._ren') and one theorem, a field a fact of the dump's own or the kernel's comparison; each contract: ONE APPLICATION.
-/
namespace Go.Proofs
open Go.Shelf
def Tryd.lays158_ren : Go.Shelf.Ren := ⟨fun | 158 => 33 | 165 => 48 | 166 => 49 | 167 => 50 | 169 => 51 | 230 => 52 | 203 => 53 | 240 => 61 | 241 => 62 | 197 => 58 | 118 => 63 | 168 => 64 | 270 => 65 | 262 => 66 | 276 => 71 | 277 => 72 | 260 => 68 | 242 => 73 | 313 => 74 | 278 => 79 | 274 => 80 | 275 => 81 | n => n, fun | 9 => 9 | 4 => 4 | 3 => 3 | 5 => 5 | 72 => 83 | 0 => 0 | 76 => 87 | 75 => 86 | 107 => 92 | 70 => 80 | 20 => 20 | 37 => 81 | 127 => 99 | 21 => 21 | 105 => 96 | 164 => 106 | 162 => 112 | 203 => 110 | 119 => 114 | 46 => 43 | 139 => 117 | 138 => 116 | 51 => 119 | 160 => 120 | 208 => 128 | 206 => 126 | 80 => 90 | n => n, fun | 13 => 1 | 3 => 2 | 4 => 3 | n => n⟩
theorem Tryd.lays158 : Go.Proofs.Lays.n158 Tryd.prog Tryd.lays158_ren := {
  mixed := by kernel_rfl
  f118 := Tryd.func63.trans (congrArg some (by kernel_rfl))
  f158 := Tryd.func33.trans (congrArg some (by kernel_rfl))
  f165 := Tryd.func48.trans (congrArg some (by kernel_rfl))
  f166 := Tryd.func49.trans (congrArg some (by kernel_rfl))
  f167 := Tryd.func50.trans (congrArg some (by kernel_rfl))
  f168 := Tryd.func64.trans (congrArg some (by kernel_rfl))
  f169 := Tryd.func51.trans (congrArg some (by kernel_rfl))
  f197 := Tryd.func58.trans (congrArg some (by kernel_rfl))
  f203 := Tryd.func53.trans (congrArg some (by kernel_rfl))
  f230 := Tryd.func52.trans (congrArg some (by kernel_rfl))
  f240 := Tryd.func61.trans (congrArg some (by kernel_rfl))
  f241 := Tryd.func62.trans (congrArg some (by kernel_rfl))
  f242 := Tryd.func73.trans (congrArg some (by kernel_rfl))
  f260 := Tryd.func68.trans (congrArg some (by kernel_rfl))
  f262 := Tryd.func66.trans (congrArg some (by kernel_rfl))
  f270 := Tryd.func65.trans (congrArg some (by kernel_rfl))
  f274 := Tryd.func80.trans (congrArg some (by kernel_rfl))
  f275 := Tryd.func81.trans (congrArg some (by kernel_rfl))
  f276 := Tryd.func71.trans (congrArg some (by kernel_rfl))
  f277 := Tryd.func72.trans (congrArg some (by kernel_rfl))
  f278 := Tryd.func79.trans (congrArg some (by kernel_rfl))
  f313 := Tryd.func74.trans (congrArg some (by kernel_rfl))
  t0 := Tryd.underlying0
  a0 := Tryd.isAgg0
  z0 := Tryd.sizeOf0
  v0 := Tryd.zeroValue0
  t3 := Tryd.underlying3
  a3 := Tryd.isAgg3
  z3 := Tryd.sizeOf3
  v3 := Tryd.zeroValue3
  t4 := Tryd.underlying4
  a4 := Tryd.isAgg4
  z4 := Tryd.sizeOf4
  v4 := Tryd.zeroValue4
  t5 := Tryd.underlying5
  a5 := Tryd.isAgg5
  z5 := Tryd.sizeOf5
  v5 := Tryd.zeroValue5
  t9 := Tryd.underlying9
  a9 := Tryd.isAgg9
  z9 := Tryd.sizeOf9
  v9 := Tryd.zeroValue9
  t20 := Tryd.underlying20
  a20 := Tryd.isAgg20
  z20 := Tryd.sizeOf20
  v20 := Tryd.zeroValue20
  t21 := Tryd.underlying21
  a21 := Tryd.isAgg21
  z21 := Tryd.sizeOf21
  v21 := Tryd.zeroValue21
  t37 := Tryd.underlying81
  a37 := Tryd.isAgg81
  z37 := Tryd.sizeOf81
  v37 := Tryd.zeroValue81
  t46 := Tryd.underlying43
  a46 := Tryd.isAgg43
  z46 := Tryd.sizeOf43
  v46 := Tryd.zeroValue43
  t51 := Tryd.underlying119
  a51 := Tryd.isAgg119
  z51 := Tryd.sizeOf119
  v51 := Tryd.zeroValue119
  t70 := Tryd.underlying80
  a70 := Tryd.isAgg80
  z70 := Tryd.sizeOf80
  v70 := Tryd.zeroValue80
  t72 := Tryd.underlying83
  a72 := Tryd.isAgg83
  z72 := Tryd.sizeOf83
  v72 := Tryd.zeroValue83
  t75 := Tryd.underlying86
  a75 := Tryd.isAgg86
  z75 := Tryd.sizeOf86
  v75 := Tryd.zeroValue86
  t76 := Tryd.underlying87
  a76 := Tryd.isAgg87
  z76 := Tryd.sizeOf87
  v76 := Tryd.zeroValue87
  t105 := Tryd.underlying96
  a105 := Tryd.isAgg96
  z105 := Tryd.sizeOf96
  v105 := Tryd.zeroValue96
  t107 := Tryd.underlying92
  a107 := Tryd.isAgg92
  z107 := Tryd.sizeOf92
  v107 := Tryd.zeroValue92
  t119 := Tryd.underlying114
  a119 := Tryd.isAgg114
  z119 := Tryd.sizeOf114
  t127 := Tryd.underlying99
  a127 := Tryd.isAgg99
  z127 := Tryd.sizeOf99
  v127 := Tryd.zeroValue99
  t138 := Tryd.underlying116
  a138 := Tryd.isAgg116
  z138 := Tryd.sizeOf116
  v138 := Tryd.zeroValue116
  t139 := Tryd.underlying117
  a139 := Tryd.isAgg117
  z139 := Tryd.sizeOf117
  v139 := Tryd.zeroValue117
  t160 := Tryd.underlying120
  a160 := Tryd.isAgg120
  z160 := Tryd.sizeOf120
  v160 := Tryd.zeroValue120
  t162 := Tryd.underlying112
  a162 := Tryd.isAgg112
  z162 := Tryd.sizeOf112
  v162 := Tryd.zeroValue112
  t164 := Tryd.underlying106
  a164 := Tryd.isAgg106
  z164 := Tryd.sizeOf106
  v164 := Tryd.zeroValue106
  t203 := Tryd.underlying110
  a203 := Tryd.isAgg110
  z203 := Tryd.sizeOf110
  v203 := Tryd.zeroValue110
  t206 := Tryd.underlying126
  a206 := Tryd.isAgg126
  z206 := Tryd.sizeOf126
  v206 := Tryd.zeroValue126
  t208 := Tryd.underlying128
  a208 := Tryd.isAgg128
  z208 := Tryd.sizeOf128
  v208 := Tryd.zeroValue128
  g3 := by kernel_rfl
  g4 := by kernel_rfl
  g13 := by kernel_rfl }
theorem Tryd.Builder_Extra_158 : Builder.Extra Tryd.prog Tryd.lays158_ren := {
  sizeBuilder := by kernel_rfl
  liesBuilder := by kernel_rfl
  t5 := Tryd.underlying5
  a5 := Tryd.isAgg5
  z5 := Tryd.sizeOf5
  v5 := Tryd.zeroValue5
  infoByte := by kernel_rfl
  cellsByte := by kernel_rfl
  sizeByte := by kernel_rfl
  neB5 := by decide }
open Go.RowKit in
/-- strings.ToUpper: "ToUpper returns s with all Unicode letters mapped to their upper case.": ON ASCII TEXT OF AT MOST 2^47 BYTES. Below the heap's end the world is as it was: where a letter turns, the call makes a builder and its buffer. (LAID: no walk: one application.) -/
theorem Tryd.strings_ToUpper_ascii (s : ByteArray) (w : World) (hs : s.size ≤ 140737488355328) (hascii : ∀ (j : Nat) (b : UInt8), s.data.toList[j]? = some b → b.toNat < 128) :
    Calls Tryd.prog 33 #[.string s] w fun e w' => e = .returned (.string ⟨(Lib.toUpperA s.data.toList).toArray⟩) ∧ Below w.heap.size w w' := Any.strings_ToUpper_ascii Tryd.lays158 Tryd.Builder_Extra_158 s w hs hascii
def Tryd.lays137_ren : Go.Shelf.Ren := ⟨fun | 137 => 30 | 217 => 39 | 266 => 56 | n => n, fun | 9 => 9 | 5 => 5 | 3 => 3 | n => n, fun | n => n⟩
theorem Tryd.lays137 : Go.Proofs.Lays.n137 Tryd.prog Tryd.lays137_ren := {
  mixed := by kernel_rfl
  f137 := Tryd.func30.trans (congrArg some (by kernel_rfl))
  f217 := Tryd.func39.trans (congrArg some (by kernel_rfl))
  f266 := Tryd.func56.trans (congrArg some (by kernel_rfl))
  t3 := Tryd.underlying3
  a3 := Tryd.isAgg3
  z3 := Tryd.sizeOf3
  v3 := Tryd.zeroValue3
  t5 := Tryd.underlying5
  a5 := Tryd.isAgg5
  z5 := Tryd.sizeOf5
  v5 := Tryd.zeroValue5
  t9 := Tryd.underlying9
  a9 := Tryd.isAgg9
  z9 := Tryd.sizeOf9
  v9 := Tryd.zeroValue9 }
open Go.RowKit in
/-- strings.IndexByte: "IndexByte returns the index of the first instance of c in s, or -1 if c is not present in s.": IT RETURNS 'Lib.indexByte s c'; the world is as it was. (LAID: no walk: one application.) -/
theorem Tryd.strings_IndexByte (s : ByteArray) (c : Int) (w : World) :
    Calls Tryd.prog 30 #[.string s, .int .u8 c] w fun e w' => e = .returned (.int .i64 (Lib.indexByte s.data.toList c.toNat.toUInt8)) ∧ w' = w := Any.strings_IndexByte Tryd.lays137 s c w
def Tryd.lays145_ren : Go.Shelf.Ren := ⟨fun | 145 => 36 | 220 => 54 | 219 => 67 | 217 => 39 | 225 => 75 | 224 => 76 | 267 => 77 | 266 => 56 | 314 => 82 | n => n, fun | 9 => 9 | 4 => 4 | 59 => 70 | 3 => 3 | 5 => 5 | 46 => 43 | 146 => 123 | 51 => 119 | n => n, fun | 1 => 0 | n => n⟩
theorem Tryd.lays145 : Go.Proofs.Lays.n145 Tryd.prog Tryd.lays145_ren := {
  mixed := by kernel_rfl
  f145 := Tryd.func36.trans (congrArg some (by kernel_rfl))
  f217 := Tryd.func39.trans (congrArg some (by kernel_rfl))
  f219 := Tryd.func67.trans (congrArg some (by kernel_rfl))
  f220 := Tryd.func54.trans (congrArg some (by kernel_rfl))
  f224 := Tryd.func76.trans (congrArg some (by kernel_rfl))
  f225 := Tryd.func75.trans (congrArg some (by kernel_rfl))
  f266 := Tryd.func56.trans (congrArg some (by kernel_rfl))
  f267 := Tryd.func77.trans (congrArg some (by kernel_rfl))
  f314 := Tryd.func82.trans (congrArg some (by kernel_rfl))
  t3 := Tryd.underlying3
  a3 := Tryd.isAgg3
  z3 := Tryd.sizeOf3
  v3 := Tryd.zeroValue3
  t4 := Tryd.underlying4
  a4 := Tryd.isAgg4
  z4 := Tryd.sizeOf4
  v4 := Tryd.zeroValue4
  t5 := Tryd.underlying5
  a5 := Tryd.isAgg5
  z5 := Tryd.sizeOf5
  v5 := Tryd.zeroValue5
  t9 := Tryd.underlying9
  a9 := Tryd.isAgg9
  z9 := Tryd.sizeOf9
  v9 := Tryd.zeroValue9
  t46 := Tryd.underlying43
  a46 := Tryd.isAgg43
  z46 := Tryd.sizeOf43
  v46 := Tryd.zeroValue43
  t51 := Tryd.underlying119
  a51 := Tryd.isAgg119
  z51 := Tryd.sizeOf119
  v51 := Tryd.zeroValue119
  t59 := Tryd.underlying70
  a59 := Tryd.isAgg70
  z59 := Tryd.sizeOf70
  v59 := Tryd.zeroValue70
  t146 := Tryd.underlying123
  a146 := Tryd.isAgg123
  z146 := Tryd.sizeOf123
  v146 := Tryd.zeroValue123
  g1 := by kernel_rfl }
open Go.RowKit Go.Lib in
/-- strings.Cut: "Cut slices s around the first instance of sep, returning the text before and after sep. The found result reports whether sep appears in s. If sep does not appear in s, cut returns s, "", false.": IT RETURNS 'Lib.cut s sep'; the world is as it was but for the count of draws. (LAID: no walk: one application.) -/
theorem Tryd.strings_Cut (s sep : ByteArray) (m : Int) (w : World) (hs : s.size < 4294967281) (hm : w.cell? ⟨0, 0, none⟩ = some (.int .i64 m)) :
    Calls Tryd.prog 36 #[.string s, .string sep] w fun e w' => e = .returned (.tuple #[.string ⟨(Lib.cut s.data.toList sep.data.toList).1.toArray⟩, .string ⟨(Lib.cut s.data.toList sep.data.toList).2.1.toArray⟩, .bool (Lib.cut s.data.toList sep.data.toList).2.2]) ∧ ∃ n, w' = w.drewN n := Any.strings_Cut Tryd.lays145 s sep m w hs hm
def Tryd.lays99_ren : Go.Shelf.Ren := ⟨fun | 99 => 27 | 206 => 35 | n => n, fun | 9 => 9 | 4 => 4 | 3 => 3 | n => n, fun | n => n⟩
theorem Tryd.lays99 : Go.Proofs.Lays.n99 Tryd.prog Tryd.lays99_ren := {
  mixed := by kernel_rfl
  f99 := Tryd.func27.trans (congrArg some (by kernel_rfl))
  f206 := Tryd.func35.trans (congrArg some (by kernel_rfl))
  t3 := Tryd.underlying3
  a3 := Tryd.isAgg3
  z3 := Tryd.sizeOf3
  v3 := Tryd.zeroValue3
  t4 := Tryd.underlying4
  a4 := Tryd.isAgg4
  z4 := Tryd.sizeOf4
  v4 := Tryd.zeroValue4
  t9 := Tryd.underlying9
  a9 := Tryd.isAgg9
  z9 := Tryd.sizeOf9
  v9 := Tryd.zeroValue9 }
open Go.RowKit Go.Lib in
/-- strings.HasPrefix: "HasPrefix reports whether the string s begins with prefix.": IT RETURNS 'Lib.hasPrefix s prefix'; the world is as it was. (LAID: no walk: one application.) -/
theorem Tryd.strings_HasPrefix (s p : ByteArray) (w : World) :
    Calls Tryd.prog 27 #[.string s, .string p] w fun e w' => e = .returned (.bool (Lib.hasPrefix s.data.toList p.data.toList)) ∧ w' = w := Any.strings_HasPrefix Tryd.lays99 s p w
def Tryd.lays100_ren : Go.Shelf.Ren := ⟨fun | 100 => 32 | 207 => 47 | n => n, fun | 9 => 9 | 4 => 4 | 3 => 3 | n => n, fun | n => n⟩
theorem Tryd.lays100 : Go.Proofs.Lays.n100 Tryd.prog Tryd.lays100_ren := {
  mixed := by kernel_rfl
  f100 := Tryd.func32.trans (congrArg some (by kernel_rfl))
  f207 := Tryd.func47.trans (congrArg some (by kernel_rfl))
  t3 := Tryd.underlying3
  a3 := Tryd.isAgg3
  z3 := Tryd.sizeOf3
  v3 := Tryd.zeroValue3
  t4 := Tryd.underlying4
  a4 := Tryd.isAgg4
  z4 := Tryd.sizeOf4
  v4 := Tryd.zeroValue4
  t9 := Tryd.underlying9
  a9 := Tryd.isAgg9
  z9 := Tryd.sizeOf9
  v9 := Tryd.zeroValue9 }
open Go.RowKit Go.Lib in
/-- strings.HasSuffix: "HasSuffix reports whether the string s ends with suffix.": IT RETURNS 'Lib.hasSuffix s suffix'; the world is as it was. ('hs': no Go string is longer: a caller has it of every string that it was handed.) (LAID: no walk: one application.) -/
theorem Tryd.strings_HasSuffix (s p : ByteArray) (w : World) (hs : s.size ≤ 9223372036854775807) :
    Calls Tryd.prog 32 #[.string s, .string p] w fun e w' => e = .returned (.bool (Lib.hasSuffix s.data.toList p.data.toList)) ∧ w' = w := Any.strings_HasSuffix Tryd.lays100 s p w hs
def Tryd.lays227_ren : Go.Shelf.Ren := ⟨fun | 227 => 42 | n => n, fun | 9 => 9 | 116 => 75 | 4 => 4 | 0 => 0 | 3 => 3 | 5 => 5 | n => n, fun | n => n⟩
theorem Tryd.lays227 : Go.Proofs.Lays.n227 Tryd.prog Tryd.lays227_ren := {
  mixed := by kernel_rfl
  f227 := Tryd.func42.trans (congrArg some (by kernel_rfl))
  t0 := Tryd.underlying0
  a0 := Tryd.isAgg0
  z0 := Tryd.sizeOf0
  v0 := Tryd.zeroValue0
  t3 := Tryd.underlying3
  a3 := Tryd.isAgg3
  z3 := Tryd.sizeOf3
  v3 := Tryd.zeroValue3
  t4 := Tryd.underlying4
  a4 := Tryd.isAgg4
  z4 := Tryd.sizeOf4
  v4 := Tryd.zeroValue4
  t5 := Tryd.underlying5
  a5 := Tryd.isAgg5
  z5 := Tryd.sizeOf5
  v5 := Tryd.zeroValue5
  t9 := Tryd.underlying9
  a9 := Tryd.isAgg9
  z9 := Tryd.sizeOf9
  v9 := Tryd.zeroValue9
  t116 := Tryd.underlying75
  a116 := Tryd.isAgg75
  z116 := Tryd.sizeOf75 }
open Go.RowKit Go.Lib in
theorem Tryd.strings_makeASCIISet (hv116 : ∀ w, (zeroValue 75).run Tryd.prog w = .ok (.agg (Array.replicate 256 (.bool false))) w) (chars : ByteArray) (w : World) (hs : chars.size < 4294967281) (hascii : ∀ (j : Nat) b, chars.data.toList[j]? = some b → b.toNat < 128) :
    Calls Tryd.prog 42 #[.string chars] w fun e w' => e = .returned (.tuple #[.agg (Lib.setCells chars.data.toList), .bool true]) ∧ w' = w.alloc (.cells (Lib.setCells chars.data.toList) 75) := Any.strings_makeASCIISet Tryd.lays227 hv116 (by kernel_rfl) chars w hs hascii
end Go.Proofs

/-
  AX, twenty-third text: rows of bytes that the runtime makes; copies of nothing; rows that are made.
-/
namespace Go.AX

/-- A new row in a new block. -/
theorem Sat.newApp {ρ : List Loc} {S : Nat → Prop} {H : List Ent} {w w' : World} {T : TypeId} {sz n cap : Nat} {xs : List Value} (hs : Sat ρ S H w) {ob : Obj} (hheap : w'.heap = w.heap.push ob) (ho : w'.os = w.os) (ht : w'.tape = w.tape) (hu : w'.output = w.output) (hr : RowF T sz n xs w.heap.size cap w') :
    Sat (ρ ++ [⟨0, 0⟩]) S (H ++ [.app T sz xs (some ⟨w.heap.size, 0, none⟩) n cap]) w' ∧ Ev ρ S H w (ρ ++ [⟨0, 0⟩]) S (H ++ [.app T sz xs (some ⟨w.heap.size, 0, none⟩) n cap]) w' :=
  hs.snocG (e := .app T sz xs (some ⟨w.heap.size, 0, none⟩) n cap) (l := ⟨0, 0⟩) (w' := w') (ob := ob) (fun _ hb => (Option.some.inj hb).symm) hheap ho ht hu (.inr ⟨_, rfl, hr⟩)

end Go.AX

/-
  Contracts: functions of package strings that only read (by the shelf); Builder's Grow; Replace.
-/
namespace Go.Proofs.YteljlkkppaobeaaDoor
open Go.AX Go.RowKit
set_option maxRecDepth 20000

/-- A variable of the library holds some number. -/
def MaxF (w : World) : Prop := ∃ m, w.cell? ⟨0, 0, none⟩ = some (.int .i64 m)

theorem HasPrefix_c (s p : List UInt8) : ∀ H, SpecH Tryd.prog 27 (pvs [.string (bs s), .string (bs p)]) H (Ret (.bool (p.isPrefixOf s)) H) := fun H =>
  SpecH.rawP (R := fun r => r = .bool (p.isPrefixOf s)) (callOk Tryd.func27 (by kernel_rfl) rfl)
    (fun w _ => (Tryd.strings_HasPrefix (bs s) (bs p) w).mono fun e w' ⟨he, hw⟩ => ⟨_, he, by rw [bs_list, bs_list]; rfl, by subst hw; exact Below.refl _ _⟩) fun r hr => by subst hr; exact ⟨rfl, rfl⟩
theorem HasSuffix_c (s p : List UInt8) (hs : s.length ≤ 9223372036854775807) : ∀ H, SpecH Tryd.prog 32 (pvs [.string (bs s), .string (bs p)]) H (Ret (.bool (p.isSuffixOf s)) H) := fun H =>
  SpecH.rawP (R := fun r => r = .bool (p.isSuffixOf s)) (callOk Tryd.func32 (by kernel_rfl) rfl)
    (fun w _ => (Tryd.strings_HasSuffix (bs s) (bs p) w (by rw [bs_size]; exact hs)).mono fun e w' ⟨he, hw⟩ => ⟨_, he, by rw [bs_list, bs_list]; rfl, by subst hw; exact Below.refl _ _⟩) fun r hr => by subst hr; exact ⟨rfl, rfl⟩
theorem IndexByte_c (s : List UInt8) (c : UInt8) : ∀ H, SpecH Tryd.prog 30 (pvs [.string (bs s), .int .u8 (c.toNat : Int)]) H (Ret (.int .i64 (Lib.indexByte s c)) H) := fun H =>
  SpecH.rawP (R := fun r => r = .int .i64 (Lib.indexByte s c)) (callOk Tryd.func30 (by kernel_rfl) rfl)
    (fun w _ => (Tryd.strings_IndexByte (bs s) (c.toNat : Int) w).mono fun e w' ⟨he, hw⟩ => ⟨_, he, by rw [bs_list]; simp, by subst hw; exact Below.refl _ _⟩) fun r hr => by subst hr; exact ⟨rfl, rfl⟩
theorem Cut_c (s p : List UInt8) (hs : s.length < 4294967281) : ∀ H, (∀ w, Facts H w → MaxF w) → SpecH Tryd.prog 36 (pvs [.string (bs s), .string (bs p)]) H (Ret (.tuple #[.string (bs (Lib.cut s p).1), .string (bs (Lib.cut s p).2.1), .bool (Lib.cut s p).2.2]) H) := fun H hF =>
  SpecH.rawP (R := fun r => r = .tuple #[.string (bs (Lib.cut s p).1), .string (bs (Lib.cut s p).2.1), .bool (Lib.cut s p).2.2]) (callOk Tryd.func36 (by kernel_rfl) rfl)
    (fun w hw => by
      obtain ⟨m, hm⟩ := hF w hw
      exact (Tryd.strings_Cut (bs s) (bs p) m w (by rw [bs_size]; exact hs) hm).mono fun e w' ⟨he, hw⟩ => ⟨_, he, by rw [bs_list, bs_list]; rfl, by obtain ⟨n, rfl⟩ := hw; exact ⟨rfl, rfl, rfl, Nat.le_refl _, fun _ _ => rfl⟩⟩) fun r hr => by subst hr; exact ⟨rfl, rfl⟩

/-! ### Builder's Grow, where nothing is written yet -/
/-! ### Replace -/
/-- How far the loop has come: what is left is replaced as all would be. -/
structure RpOk (s old new : List UInt8) (k : Nat) (i : Nat) (out : List UInt8) (st : Nat) : Prop where
  le : i ≤ k
  hst : st ≤ s.length
  cnt : k - i ≤ Lib.count (s.drop st) old
  eq : out ++ Lib.replaceK old new (k - i) (s.drop st) = Lib.replaceK old new k s
  len : out.length ≤ st + i * new.length
theorem RpOk.step {s old new : List UInt8} {k i : Nat} {out : List UInt8} {st : Nat} (h1 : 1 ≤ old.length) (h : RpOk s old new k i out st) (hi : i < k) :
    ∃ x : Nat, Lib.index (s.drop st) old = x ∧ st + x + old.length ≤ s.length ∧ RpOk s old new k (i + 1) (out ++ (s.take (st + x)).drop st ++ new) (st + x + old.length) := by
  obtain ⟨x, hx⟩ := Lib.index_of_count (s := s.drop st) (old := old) (by have := h.cnt; omega)
  have hroom := Lib.index_room (s.drop st) old (by omega)
  rw [hx, List.length_drop] at hroom
  have hst := h.hst
  have hd : (s.drop st).drop (x + old.length) = s.drop (st + x + old.length) := by rw [List.drop_drop]; congr 1; omega
  have ht : (s.drop st).take x = (s.take (st + x)).drop st := by rw [List.drop_take]; congr 1; omega
  refine ⟨x, hx, by omega, by omega, by omega, ?_, ?_, ?_⟩
  · have := Lib.count_hit (s := s.drop st) (sub := old) (i := x) (fun e => by rw [e] at h1; simp at h1) hx
    rw [hd] at this
    have := h.cnt
    omega
  · have h2 := h.eq
    rw [show k - i = (k - (i + 1)) + 1 by omega, Lib.replaceK_hit old new _ _ x hx, hd, ht] at h2
    rw [← h2]
    simp
  · have := h.len
    simp only [List.length_append, List.length_drop, List.length_take, Nat.add_mul]
    omega
end Go.Proofs.YteljlkkppaobeaaDoor

/-
  Closed facts of the program that every row asks.
-/
namespace Go.Proofs.YteljlkkppaobeaaDoor
open Go.ChangeShapes Go.WideShapes Go.ChangeAt Go.RowKit Go.AX
set_option maxRecDepth 100000
theorem own0 : ownKnob Tryd.prog.godebug = none := by kernel_rfl
theorem laidOut : laidOutB Tryd.prog = true := by kernel_rfl
theorem max_of {W : World} (h : W.ShapedOpen Tryd.prog) : MaxF W :=
  cell_of_shapedOpen_int (g := 0) (t := 3) (zero := #[.int .i64 0]) h (of_decide_eq_true (by kernel_rfl)) (by kernel_rfl) (by kernel_rfl) (by kernel_rfl) (by kernel_rfl) (by kernel_rfl)
theorem max_imm {W : World} (h : MaxF W) : Imm (fun b => b < W.heap.size) W MaxF := by
  refine ⟨h, fun w' hw => ?_⟩
  obtain ⟨m, hm⟩ := h
  exact ⟨m, cell?_keep hm (hw _ (cell?_lt hm))⟩
end Go.Proofs.YteljlkkppaobeaaDoor

/-
  Contracts: the last place of a byte; blanks trimmed.
-/
namespace Go.Proofs.YteljlkkppaobeaaDoor
open Go.AX Go.RowKit
set_option maxRecDepth 20000

/-- A table of truth values by byte. -/
def TabB (xs : List Value) (p : UInt8 → Bool) : Prop := ∀ c : UInt8, xs[c.toNat]? = some (.bool (p c))
theorem rnCs_vs (σ : List Nat) (N : Nat) : ∀ xs : List Value, rnCs σ N (vs xs) = vs xs
  | [] => rfl
  | x :: xs => by simp [vs, rnCs, rnC, rnCs_vs σ N xs]
theorem contains_c (T : TypeId) (xs : List Value) (p : UInt8 → Bool) (hp : TabB xs p) (c : UInt8) : SpecH Tryd.prog 57 [.c (.lp 0 0), .c (.v (.int .u8 (c.toNat : Int)))] [.blk T (vs xs)]
    (RetG (ι := Unit) (fun _ => True) (fun _ => .bool (p c)) fun _ => [.blk T (vs xs)]) := by
  refine ownC hm Tryd.func57 (by kernel_rfl) rfl rfl (fun _ _ => ⟨okCs_vs _ xs, trivial⟩) (fun _ _ => Nat.le_refl _) ?_
  have hc := c.toNat_lt
  (first | refine wX ?_ | exact wZ)
  have key : ∀ z, z = c.toNat → nthC (vs xs) z = some (.v (.bool (p c))) := fun z hz => by rw [hz, nthC_eq, vs_eq, List.getElem?_map, hp c]; rfl
  rw [key _ (by show 0 + Int.toNat (c.toNat : Int) * 1 = _; omega)]
  (first | refine wX ?_ | exact wZ)
  exact ⟨(), trivial, rfl, wkH_refl _⟩
theorem trimLeftASCII_c (T : TypeId) (xs : List Value) (p : UInt8 → Bool) (hp : TabB xs p) (s : List UInt8) : SpecH Tryd.prog 43 [.c (.v (.string (bs s))), .c (.lp 0 0)] [.blk T (vs xs)]
    (RetG (ι := Unit) (fun _ => True) (fun _ => .string (bs (s.dropWhile p))) fun _ => [.blk T (vs xs)]) := by
  refine ownC hm Tryd.func43 (by kernel_rfl) rfl rfl (fun _ _ => ⟨okCs_vs _ xs, trivial⟩) (fun _ _ => Nat.le_refl _) ?_
  (first | refine wX ?_ | exact wZ)
  refine LoopN.intro (List UInt8) (fun l => l.dropWhile p = s.dropWhile p) (fun l => mkS Tryd.f43.ntmps 0 [(0, .c (.v (.string (bs l)))), (1, .c (.lp 0 0))]) (fun _ => [.blk T (vs xs)]) (fun l => l.length) [] rfl (fun _ => rfl) (fun _ => rfl) (fun _ _ => ⟨okCs_vs _ xs, trivial⟩) ⟨s, rfl, ?_, wkH_refl _⟩ fun l hl => ?_
  · (repeat' (first | exact trivial | refine And.intro (by with_reducible rfl) ?_ | (with_reducible exact wkC_refl _) | (with_reducible exact wkCs_refl _) | refine And.intro ?_ ?_))
    all_goals rfl
  cases l with
  | nil =>
    (first | refine wX ?_ | exact wZ)
    exact ⟨(), trivial, by rw [← hl]; rfl, wkH_refl _⟩
  | cons c l =>
    have hb : byteAt (bs (c :: l)) 0 = (c.toNat : Int) := byteAt_get rfl
    (first | refine wX ?_ | exact wZ)
    rw [bs_size]
    refine brd_dec (fun _ => ?_) (fun h => by simp at h)
    (first | refine wX ?_ | exact wZ)
    refine Nd.mk ⟨by omega, by rw [bs_size]; simp⟩ ?_
    rw [show ((0 : Int).toNat) = 0 from rfl, hb]
    (first | refine wX ?_ | exact wZ)
    refine callG (contains_c T xs p hp c) [0] rfl ⟨by show some _ = some (rnE _ _ _); simp [rnE, rnCs_vs], trivial⟩ rfl fun _ _ => ?_
    (first | refine wX ?_ | exact wZ)
    refine brd_not (brd_intro (fun h => ?_) (fun h => ?_))
    · (first | refine wX ?_ | exact wZ)
      refine ReadW.sl_l 1 rfl (by kernel_rfl) rfl rfl ⟨rfl, by simp⟩ ?_
      (first | refine wX ?_ | exact wZ)
      refine ⟨l, by rw [← hl, List.dropWhile_cons_of_pos h], by simp, ?_, wkH_of_eq (by simp [rnE, rnCs_vs])⟩
      (repeat' (first | exact trivial | refine And.intro (by with_reducible rfl) ?_ | (with_reducible exact wkC_refl _) | (with_reducible exact wkCs_refl _) | refine And.intro ?_ ?_))
      rfl
    · (first | refine wX ?_ | exact wZ)
      exact ⟨(), trivial, by rw [← hl, List.dropWhile_cons_of_neg (by simp [h])], wkH_of_eq (by simp [rnE, rnCs_vs])⟩
def trimE (p : UInt8 → Bool) (s : List UInt8) : List UInt8 := (s.reverse.dropWhile p).reverse
theorem trimE_snoc (p : UInt8 → Bool) (s : List UInt8) (c : UInt8) : trimE p (s ++ [c]) = if p c then trimE p s else s ++ [c] := by
  unfold trimE
  rw [List.reverse_append, List.reverse_singleton, List.singleton_append, List.dropWhile_cons]
  split <;> simp
theorem trimRightASCII_c (T : TypeId) (xs : List Value) (p : UInt8 → Bool) (hp : TabB xs p) (s : List UInt8) (hs : s.length ≤ 1000000000) : SpecH Tryd.prog 44 [.c (.v (.string (bs s))), .c (.lp 0 0)] [.blk T (vs xs)]
    (RetG (ι := Unit) (fun _ => True) (fun _ => .string (bs (trimE p s))) fun _ => [.blk T (vs xs)]) := by
  refine ownC hm Tryd.func44 (by kernel_rfl) rfl rfl (fun _ _ => ⟨okCs_vs _ xs, trivial⟩) (fun _ _ => Nat.le_refl _) ?_
  (first | refine wX ?_ | exact wZ)
  refine LoopN.intro (List UInt8) (fun l => trimE p l = trimE p s ∧ l.length ≤ 1000000000) (fun l => mkS Tryd.f44.ntmps 0 [(0, .c (.v (.string (bs l)))), (1, .c (.lp 0 0))]) (fun _ => [.blk T (vs xs)]) (fun l => l.length) [] rfl (fun _ => rfl) (fun _ => rfl) (fun _ _ => ⟨okCs_vs _ xs, trivial⟩) ⟨s, ⟨rfl, hs⟩, ?_, wkH_refl _⟩ fun l ⟨hl, hll⟩ => ?_
  · (repeat' (first | exact trivial | refine And.intro (by with_reducible rfl) ?_ | (with_reducible exact wkC_refl _) | (with_reducible exact wkCs_refl _) | refine And.intro ?_ ?_))
    all_goals rfl
  rcases List.eq_nil_or_concat l with rfl | ⟨l, c, rfl⟩
  · (first | refine wX ?_ | exact wZ)
    exact ⟨(), trivial, by rw [← hl]; rfl, wkH_refl _⟩
  · rw [List.concat_eq_append] at *
    have hb : byteAt (bs (l ++ [c])) l.length = (c.toNat : Int) := byteAt_get (by simp)
    rw [List.length_append] at hll
    rw [trimE_snoc] at hl
    (first | refine wX ?_ | exact wZ)
    rw [bs_size]
    refine brd_dec (fun _ => ?_) (fun h => by simp at h)
    (first | refine wX ?_ | exact wZ)
    rw [bs_size]
    have e : IntKind.wrap .i64 (((l ++ [c]).length : Int) - 1) = (l.length : Int) := by rw [wrap_i64 (by simp; simp at hll; omega)]; simp
    rw [e]
    refine Nd.mk ⟨by omega, by simp; omega⟩ ?_
    rw [Int.toNat_natCast, hb]
    (first | refine wX ?_ | exact wZ)
    refine callG (contains_c T xs p hp c) [0] rfl ⟨by show some _ = some (rnE _ _ _); simp [rnE, rnCs_vs], trivial⟩ rfl fun _ _ => ?_
    (first | refine wX ?_ | exact wZ)
    refine brd_not (brd_intro (fun h => ?_) (fun h => ?_))
    · (first | refine wX ?_ | exact wZ)
      refine ReadW.sl_h l.length rfl (by kernel_rfl) rfl rfl ⟨by rw [bs_size]; exact e, by simp⟩ ?_
      (first | refine wX ?_ | exact wZ)
      refine ⟨l, ⟨by rw [← hl, if_pos h], by simp at hll; omega⟩, by simp, ?_, wkH_of_eq (by simp [rnE, rnCs_vs])⟩
      (repeat' (first | exact trivial | refine And.intro (by with_reducible rfl) ?_ | (with_reducible exact wkC_refl _) | (with_reducible exact wkCs_refl _) | refine And.intro ?_ ?_))
      simp
    · (first | refine wX ?_ | exact wZ)
      exact ⟨(), trivial, by rw [← hl, if_neg (by simp [h])], wkH_of_eq (by simp [rnE, rnCs_vs])⟩
theorem zero_set : (Tryd.prog.info? 75).map (fun i => i.zero) = some (some (.agg (Array.replicate 256 (.bool false)))) := by kernel_rfl
end Go.Proofs.YteljlkkppaobeaaDoor

/-
  Plain: options, what is valid, what is found.
-/
namespace Go.Opts

/-- An option. -/
structure Opt where
  name : List UInt8
  short : UInt8
  kind : Int
  dflt : List UInt8
  must : Bool
def lowL : List UInt8 := [97, 98, 99, 100, 101, 102, 103, 104, 105, 106, 107, 108, 109, 110, 111, 112, 113, 114, 115, 116, 117, 118, 119, 120, 121, 122]
def numL : List UInt8 := [48, 49, 50, 51, 52, 53, 54, 55, 56, 57]
def nameL : List UInt8 := lowL ++ numL ++ [45]
def shortL : List UInt8 := lowL ++ lowL.map (· - 32) ++ numL
def nameB (c : UInt8) : Bool := decide (97 ≤ c.toNat) && decide (c.toNat ≤ 122) || decide (48 ≤ c.toNat) && decide (c.toNat ≤ 57) || decide (c.toNat = 45)
/-- Whether an option is valid by itself. -/
def okB (o : Opt) : Bool :=
  decide (2 ≤ o.name.length) && decide (o.name.length ≤ 20) && lowL.contains (o.name.headD 0) && o.name.all nameB && !([45] : List UInt8).isSuffixOf o.name && !([110, 111, 45] : List UInt8).isPrefixOf o.name &&
    (o.short == 0 || shortL.contains o.short) && decide (0 ≤ o.kind) && decide (o.kind ≤ 5) && (o.dflt == [] || o.kind == 1 || o.kind == 2)
/-- Whether two options are one. -/
def oneB (o p : Opt) : Bool := p.name == o.name || p.short == o.short && o.short != 0
/-- Whether options are valid. -/
def chkB (l : List Opt) : Bool := decide (l.length ≤ 30) && (List.range l.length).all fun i => match l[i]? with | some o => okB o && !(l.take i).any (oneB o) | none => true
/-- What is found of the forms of one name: a full name, or how many begin so, and the last of them. -/
structure Hit where
  full : Option (Nat × Bool)
  at_ : Nat
  no : Bool
  hits : Nat
def form1 (i : Nat) (k : Bool) (f name : List UInt8) (h : Hit) : Hit :=
  if h.full.isSome then h else if f == name then { h with full := some (i, k) } else if name != [] && name.isPrefixOf f then { h with at_ := i, no := k, hits := h.hits + 1 } else h
def forms1 (i : Nat) (o : Opt) (name : List UInt8) (h : Hit) : Hit :=
  let h := form1 i false o.name name h
  if o.kind == 5 then form1 i true ([110, 111, 45] ++ o.name) name h else h
def hitS (name : List UInt8) : Nat → List Opt → Hit → Hit
  | _, [], h => h
  | i, o :: l, h => hitS name (i + 1) l (forms1 i o name h)
/-- What Find answers: the option, whether it is the form that says no, the error. -/
def findS (l : List Opt) (name : List UInt8) : Nat × Bool × Int :=
  let h := hitS name 0 l ⟨none, 0, false, 0⟩
  match h.full with
  | some (i, k) => (i, k, 0)
  | none => if h.hits = 0 then (0, false, 6) else if h.hits = 1 then (h.at_, h.no, 0) else (0, false, 7)
theorem trim_nil {p : UInt8 → Bool} (s : List UInt8) : (((s.reverse.dropWhile p).reverse).dropWhile p == []) = s.all p := by
  rw [Bool.eq_iff_iff, beq_iff_eq, List.all_eq_true]
  constructor
  · intro h
    have h1 : ∀ (l : List UInt8), l.dropWhile p = [] → ∀ x ∈ l, p x = true := by
      intro l
      induction l with
      | nil => intro _ x hx; cases hx
      | cons a l ih =>
        intro h x hx
        rw [List.dropWhile_cons] at h
        split at h
        · rename_i ha
          rcases List.mem_cons.1 hx with rfl | hx
          · exact ha
          · exact ih h x hx
        · cases h
    have h2 := h1 _ h
    intro x hx
    have h3 : x ∈ s.reverse.takeWhile p ++ s.reverse.dropWhile p := by rw [List.takeWhile_append_dropWhile]; exact List.mem_reverse.2 hx
    rcases List.mem_append.1 h3 with h4 | h4
    · have := List.all_takeWhile (p := p) (l := s.reverse)
      exact List.all_eq_true.1 this x h4
    · exact h2 x (List.mem_reverse.2 h4)
  · intro h
    have : s.reverse.dropWhile p = [] := by
      have h1 : ∀ (l : List UInt8), (∀ x ∈ l, p x = true) → l.dropWhile p = [] := by
        intro l
        induction l with
        | nil => intro _; rfl
        | cons a l ih =>
          intro h
          rw [List.dropWhile_cons, if_pos (h a (List.mem_cons_self ..))]
          exact ih fun x hx => h x (List.mem_cons_of_mem _ hx)
      exact h1 _ fun x hx => h x (List.mem_reverse.1 hx)
    rw [this]; rfl
end Go.Opts

/-
  Contracts: what is trimmed by a name's bytes; capitals.
-/
namespace Go.Proofs.YteljlkkppaobeaaDoor
open Go.AX Go.RowKit Go.Opts
set_option maxRecDepth 20000

def nameTab : List Value := (List.range 256).map fun i => .bool (decide (97 ≤ i) && decide (i ≤ 122) || decide (48 ≤ i) && decide (i ≤ 57) || decide (i = 45))
theorem nameTab_ok : TabB nameTab nameB := fun c => by
  have hc := c.toNat_lt
  unfold nameTab nameB
  rw [List.getElem?_map, List.getElem?_range (by omega)]
  rfl
theorem setCells_name : (Lib.setCells nameL).toList = nameTab := by kernel_rfl
theorem setCells_name' : Lib.setCells nameL = nameTab.toArray := by apply Array.ext'; rw [setCells_name]
theorem makeName_c : ∀ H, SpecH Tryd.prog 42 (pvs [.string (bs nameL)]) H (Ret (.tuple #[.agg nameTab.toArray, .bool true]) H) := fun H =>
  SpecH.rawP (R := fun r => r = .tuple #[.agg nameTab.toArray, .bool true]) (callOk Tryd.func42 (by kernel_rfl) rfl)
    (fun w _ => (Tryd.strings_makeASCIISet (fun w => by obtain ⟨i, hi, hz⟩ := Option.map_eq_some_iff.1 zero_set; exact run_zeroValue hi hz w) (bs nameL) w (by decide) (by
      intro j b hj
      rw [bs_list] at hj
      have hall : ∀ x ∈ nameL, x.toNat < 128 := by decide
      exact hall b (List.mem_of_getElem? hj))).mono fun e w' ⟨he, hw⟩ => ⟨_, he, by rw [bs_list, setCells_name'], by subst hw; exact (Below.refl _ w).alloc (Nat.le_refl _) _⟩) fun r hr => by subst hr; exact ⟨rfl, rfl⟩
theorem TrimN_c (s : List UInt8) (hs : s.length ≤ 1000000000) : ∀ H, SpecH Tryd.prog 31 (pvs [.string (bs s), .string (bs nameL)]) H (Ret (.string (bs ((trimE nameB s).dropWhile nameB))) H) := by
  refine pureC hm Tryd.func31 (by kernel_rfl) rfl rfl ?_
  (first | refine wX ?_ | exact wZ)
  rw [bs_list]
  refine brd_intro (fun h => ?_) (fun h => ?_)
  · have : s = [] := by simpa using h
    subst this
    (first | refine wX ?_ | exact wZ)
    rfl
  · (first | refine wX ?_ | exact wZ)
    refine call1 (makeName_c _) ?_
    (first | refine wX ?_ | exact wZ)
    refine callG (trimRightASCII_c _ nameTab nameB nameTab_ok s hs) [0] rfl ⟨rfl, trivial⟩ rfl fun _ _ => ?_
    (first | refine wX ?_ | exact wZ)
    refine callG (trimLeftASCII_c _ nameTab nameB nameTab_ok (trimE nameB s)) [0] rfl ⟨rfl, trivial⟩ rfl fun _ _ => ?_
    (first | refine wX ?_ | exact wZ)
theorem upper_low : Lib.toUpperA lowL = lowL.map (· - 32) := by decide
theorem ToUpper_c : ∀ H, SpecH Tryd.prog 33 (pvs [.string (bs lowL)]) H (Ret (.string (bs (lowL.map (· - 32)))) H) := fun H =>
  SpecH.rawP (R := fun r => r = .string (bs (lowL.map (· - 32)))) (callOk Tryd.func33 (by kernel_rfl) rfl)
    (fun w _ => (Tryd.strings_ToUpper_ascii (bs lowL) w (by decide) (by
      intro j b hj
      rw [bs_list] at hj
      have hall : ∀ x ∈ lowL, x.toNat < 128 := by decide
      exact hall b (List.mem_of_getElem? hj))).mono fun e w' ⟨he, hw⟩ => ⟨_, he, by rw [bs_list, upper_low]; rfl, hw⟩) fun r hr => by subst hr; exact ⟨rfl, rfl⟩
end Go.Proofs.YteljlkkppaobeaaDoor

/-
  Contract: whether an option is valid (program).
-/
namespace Go.Proofs.YteljlkkppaobeaaDoor
open Go.AX Go.RowKit Go.Opts
set_option maxRecDepth 20000

def optC (o : Opt) : List Value := [.string (bs o.name), .int .u8 (o.short.toNat : Int), .int .i64 o.kind, .string (bs o.dflt), .bool o.must]
def optsC (l : List Opt) : List Value := l.flatMap optC
def optV (o : Opt) : Value := .agg #[.string (bs o.name), .int .u8 (o.short.toNat : Int), .int .i64 o.kind, .string (bs o.dflt), .bool o.must]
theorem index_neg (l : List UInt8) (c : UInt8) : decide (Lib.indexByte l c < 0) = !l.contains c := by
  have h : Lib.indexByte l c < 0 ↔ l.contains c = false := by
    induction l with
    | nil => simp [Lib.indexByte]
    | cons b l ih =>
      have hge := Lib.indexByte_ge l c
      unfold Lib.indexByte
      cases hb : b == c with
      | true =>
        have hbc : b = c := by simpa using hb
        simp [hbc]
      | false =>
        have hbc : (c == b) = false := by
          have : ¬ b = c := by simpa using hb
          simpa using fun h => this h.symm
        rw [List.contains_cons, hbc, Bool.false_or, ← ih]
        simp only [Bool.false_eq_true, if_false]
        split
        · rename_i h1
          have : Lib.indexByte l c = -1 := by simpa using h1
          omega
        · rename_i h1
          have : ¬ Lib.indexByte l c = -1 := by simpa using h1
          omega
  rw [Bool.eq_iff_iff, decide_eq_true_eq, Bool.not_eq_true']
  exact h
set_option maxHeartbeats 2000000 in
theorem isOption_c (o : Opt) (hn : o.name.length ≤ 1000000000) : ∀ H, SpecH Tryd.prog 24 (pvs [optV o]) H (Ret (.bool (okB o)) H) := by
  refine pureC hm Tryd.func24 (by kernel_rfl) rfl rfl ?_
  have hz := bs_size o.name
  (first | refine wX ?_ | exact wZ)
  rw [hz]
  refine brd_dec (fun h1 => ?_) (fun h1 => ?_)
  · rw [show okB o = false by have : ¬ 2 ≤ o.name.length := by omega
                              simp [okB, this]]
    (first | refine wX ?_ | exact wZ)
  (first | refine wX ?_ | exact wZ)
  rw [hz]
  refine brd_dec (fun h2 => ?_) (fun h2 => ?_)
  · rw [show okB o = false by have : ¬ o.name.length ≤ 20 := by omega
                              simp [okB, this]]
    (first | refine wX ?_ | exact wZ)
  obtain ⟨c, hc⟩ : ∃ c, o.name[0]? = some c := ⟨_, List.getElem?_eq_getElem (by omega)⟩
  have hhd : o.name.headD 0 = c := by rw [List.headD_eq_head?_getD, List.head?_eq_getElem?, hc]; rfl
  (first | refine wX ?_ | exact wZ)
  rw [show byteAt (bs o.name) (Int.toNat 0) = (c.toNat : Int) from byteAt_get hc, show (⟨#[97, 98, 99, 100, 101, 102, 103, 104, 105, 106, 107, 108, 109, 110, 111, 112, 113, 114, 115, 116, 117, 118, 119, 120, 121, 122]⟩ : ByteArray) = bs lowL from rfl]
  (first | refine wX ?_ | exact wZ)
  refine call1 (IndexByte_c lowL c _) ?_
  (first | refine wX ?_ | exact wZ)
  rw [index_neg]
  cases h3 : lowL.contains c with
  | false =>
    rw [show okB o = false by simp only [okB, hhd, h3, Bool.and_false, Bool.false_and]]
    (first | refine wX ?_ | exact wZ)
  | true =>
  (first | refine wX ?_ | exact wZ)
  rw [show (⟨#[97, 98, 99, 100, 101, 102, 103, 104, 105, 106, 107, 108, 109, 110, 111, 112, 113, 114, 115, 116, 117, 118, 119, 120, 121, 122, 48, 49, 50, 51, 52, 53, 54, 55, 56, 57, 45]⟩ : ByteArray) = bs nameL from rfl]
  refine call1 (TrimN_c o.name hn _) ?_
  have htr : ((bs ((trimE nameB o.name).dropWhile nameB)).data.toList == (⟨#[]⟩ : ByteArray).data.toList) = o.name.all nameB := by rw [bs_list]; exact trim_nil (p := nameB) o.name
  (first | refine wX ?_ | exact wZ)
  rw [htr]
  cases h4 : o.name.all nameB with
  | false =>
    rw [show okB o = false by simp only [okB, h4, Bool.and_false, Bool.false_and]]
    (first | refine wX ?_ | exact wZ)
  | true =>
  (first | refine wX ?_ | exact wZ)
  rw [show (⟨#[45]⟩ : ByteArray) = bs [45] from rfl]
  refine call1 (HasSuffix_c o.name [45] (by omega) _) ?_
  cases h5 : ([45] : List UInt8).isSuffixOf o.name with
  | true =>
    rw [show okB o = false by simp only [okB, h5, Bool.not_true, Bool.and_false, Bool.false_and]]
    (first | refine wX ?_ | exact wZ)
  | false =>
  (first | refine wX ?_ | exact wZ)
  rw [show (⟨#[110, 111, 45]⟩ : ByteArray) = bs [110, 111, 45] from rfl]
  refine call1 (HasPrefix_c o.name [110, 111, 45] _) ?_
  cases h6 : ([110, 111, 45] : List UInt8).isPrefixOf o.name with
  | true =>
    rw [show okB o = false by simp only [okB, h6, Bool.not_true, Bool.and_false, Bool.false_and]]
    (first | refine wX ?_ | exact wZ)
  | false =>
  have hlet : decide (2 ≤ o.name.length) = true := by simp; omega
  have hlet2 : decide (o.name.length ≤ 20) = true := by simp; omega
  have hok : okB o = ((o.short == 0 || shortL.contains o.short) && decide (0 ≤ o.kind) && decide (o.kind ≤ 5) && (o.dflt == [] || o.kind == 1 || o.kind == 2)) := by
    simp only [okB, hlet, hlet2, hhd, h3, h4, h5, h6, Bool.not_false, Bool.true_and]
  rw [hok]
  have hsh : ((o.short.toNat : Int) == 0) = (o.short == 0) := by
    rw [Bool.eq_iff_iff, beq_iff_eq, beq_iff_eq]
    exact ⟨fun h => UInt8.toNat_inj.1 (by simpa using h), fun h => by rw [h]; rfl⟩
  have hd : ((bs o.dflt).data.toList == (⟨#[]⟩ : ByteArray).data.toList) = (o.dflt == []) := by rw [bs_list]
  (first | refine wX ?_ | exact wZ)
  rw [bne, hsh]
  cases h7 : o.short == 0 with
  | true =>
    rw [Bool.true_or, Bool.true_and]
    (first | refine wX ?_ | exact wZ)
    refine brd_dec (fun k0 => ?_) (fun k0 => ?_)
    · rw [show decide (0 ≤ o.kind) = true by simpa using k0, Bool.true_and]
      (first | refine wX ?_ | exact wZ)
      refine brd_dec (fun k1 => ?_) (fun k1 => ?_)
      · rw [show decide (o.kind ≤ 5) = true by simpa using k1, Bool.true_and]
        (first | refine wX ?_ | exact wZ)
        rw [hd]
        cases h9 : o.dflt == [] with
        | true =>
          rw [Bool.true_or, Bool.true_or]
          (first | refine wX ?_ | exact wZ)
        | false =>
          rw [Bool.false_or]
          (first | refine wX ?_ | exact wZ)
          cases h10 : o.kind == 1 with
          | true =>
            rw [Bool.true_or]
            (first | refine wX ?_ | exact wZ)
          | false =>
            rw [Bool.false_or]
            (first | refine wX ?_ | exact wZ)
      · rw [show decide (o.kind ≤ 5) = false by simpa using k1, Bool.false_and]
        (first | refine wX ?_ | exact wZ)
    · rw [show decide (0 ≤ o.kind) = false by simpa using k0, Bool.false_and, Bool.false_and]
      (first | refine wX ?_ | exact wZ)
  | false =>
    (first | refine wX ?_ | exact wZ)
    refine callQ (ToUpper_c _) ?_
    (first | refine wX ?_ | exact wZ)
    rw [bs_app]
    (first | refine wX ?_ | exact wZ)
    rw [show (⟨#[48, 49, 50, 51, 52, 53, 54, 55, 56, 57]⟩ : ByteArray) = bs numL from rfl, bs_app]
    (first | refine wX ?_ | exact wZ)
    refine callQ (IndexByte_c shortL o.short _) ?_
    (first | refine wX ?_ | exact wZ)
    rw [index_neg]
    rw [Bool.false_or]
    cases h8 : shortL.contains o.short with
    | false =>
      rw [Bool.false_and, Bool.false_and, Bool.false_and]
      (first | refine wX ?_ | exact wZ)
    | true =>
      rw [Bool.true_and]
      (first | refine wX ?_ | exact wZ)
      refine brd_dec (fun k0 => ?_) (fun k0 => ?_)
      · rw [show decide (0 ≤ o.kind) = true by simpa using k0, Bool.true_and]
        (first | refine wX ?_ | exact wZ)
        refine brd_dec (fun k1 => ?_) (fun k1 => ?_)
        · rw [show decide (o.kind ≤ 5) = true by simpa using k1, Bool.true_and]
          (first | refine wX ?_ | exact wZ)
          rw [hd]
          cases h9 : o.dflt == [] with
          | true =>
            rw [Bool.true_or, Bool.true_or]
            (first | refine wX ?_ | exact wZ)
          | false =>
            rw [Bool.false_or]
            (first | refine wX ?_ | exact wZ)
            cases h10 : o.kind == 1 with
            | true =>
              rw [Bool.true_or]
              (first | refine wX ?_ | exact wZ)
            | false =>
              rw [Bool.false_or]
              (first | refine wX ?_ | exact wZ)
        · rw [show decide (o.kind ≤ 5) = false by simpa using k1, Bool.false_and]
          (first | refine wX ?_ | exact wZ)
      · rw [show decide (0 ≤ o.kind) = false by simpa using k0, Bool.false_and, Bool.false_and]
        (first | refine wX ?_ | exact wZ)
end Go.Proofs.YteljlkkppaobeaaDoor

/-
  Contracts: whether options are valid (program).
-/
namespace Go.Proofs.YteljlkkppaobeaaDoor
open Go.AX Go.RowKit Go.Opts
set_option maxRecDepth 20000

theorem optsC_get (l : List Opt) (i j : Nat) (hj : j < 5) {t : Opt} (ht : l[i]? = some t) : (optsC l)[i * 5 + j]? = (optC t)[j]? := by
  unfold optsC
  rw [flat_get (g := optC) (m := 5) (fun _ => rfl) l i j hj, ht]
  rfl
theorem name_eq (a b : List UInt8) : ((bs a).data.toList == (bs b).data.toList) = (a == b) := by rw [bs_list, bs_list]
theorem u8_beq (a b : UInt8) : ((a.toNat : Int) == (b.toNat : Int)) = (a == b) := by
  rw [Bool.eq_iff_iff, beq_iff_eq, beq_iff_eq]
  exact ⟨fun h => UInt8.toNat_inj.1 (by omega), fun h => by rw [h]⟩
theorem u8_zero (a : UInt8) : ((a.toNat : Int) == 0) = (a == 0) := by
  rw [Bool.eq_iff_iff, beq_iff_eq, beq_iff_eq]
  exact ⟨fun h => UInt8.toNat_inj.1 (by simpa using h), fun h => by rw [h]; rfl⟩
theorem one_c (o p : Opt) (ob : Nat) : ∀ H, (∀ w, Facts H w → SlAt (some ⟨ob, 0, none⟩) 5 (optC o) w) → SpecH Tryd.prog 26 (pvs [optV p, .pointer (some ⟨ob, 0, none⟩)]) H (Ret (.bool (oneB o p)) H) := by
  refine factC hm Tryd.func26 (by kernel_rfl) rfl rfl ?_
  (first | refine wX ?_ | exact wZ)
  refine LdN.one (a := some ⟨ob, 0, none⟩) (q := 0) (.string (bs o.name)) rfl (fun w hw => hw.1) rfl ?_
  (first | refine wX ?_ | exact wZ)
  rw [name_eq]
  unfold oneB
  cases h1 : p.name == o.name with
  | true =>
    rw [Bool.true_or]
    (first | refine wX ?_ | exact wZ)
  | false =>
    rw [Bool.false_or]
    (first | refine wX ?_ | exact wZ)
    refine LdN.one (a := some ⟨ob, 0, none⟩) (q := 1) (.int .u8 (o.short.toNat : Int)) rfl (fun w hw => hw.1) rfl ?_
    (first | refine wX ?_ | exact wZ)
    rw [u8_beq]
    cases h2 : p.short == o.short with
    | false =>
      rw [Bool.false_and]
      (first | refine wX ?_ | exact wZ)
    | true =>
      rw [Bool.true_and]
      (first | refine wX ?_ | exact wZ)
      refine LdN.one (a := some ⟨ob, 0, none⟩) (q := 1) (.int .u8 (o.short.toNat : Int)) rfl (fun w hw => hw.1) rfl ?_
      (first | refine wX ?_ | exact wZ)
      rw [bne, u8_zero]
      cases h3 : o.short == 0 <;> simp [bne, h3]
/-- The first option of which a closure says yes. -/
def idx (f : Opt → Bool) : List Opt → Nat → Int
  | [], _ => -1
  | o :: l, i => if f o then (i : Int) else idx f l (i + 1)
theorem idx_spec (f : Opt → Bool) : ∀ (l : List Opt) (i : Nat), (idx f l i = -1 ∧ l.any f = false) ∨ ((i : Int) ≤ idx f l i ∧ idx f l i < i + l.length ∧ l.any f = true)
  | [], _ => .inl ⟨rfl, rfl⟩
  | o :: l, i => by
    unfold idx
    cases h : f o with
    | true => exact .inr ⟨by simp, by simp only [if_true, List.length_cons]; omega, by simp [h]⟩
    | false =>
      rcases idx_spec f l (i + 1) with ⟨h1, h2⟩ | ⟨h1, h2, h3⟩
      · exact .inl ⟨by simpa using h1, by simp [h, h2]⟩
      · refine .inr ⟨?_, ?_, by simp [h, h3]⟩
        · simp only [Bool.false_eq_true, if_false]; omega
        · simp only [Bool.false_eq_true, if_false, List.length_cons]; omega
theorem idx_drop (f : Opt → Bool) (l : List Opt) (i : Nat) {o : Opt} (h : l[i]? = some o) : idx f (l.drop i) i = if f o then (i : Int) else idx f (l.drop (i + 1)) (i + 1) := by
  obtain ⟨hlt, hx⟩ := List.getElem?_eq_some_iff.1 h
  rw [List.drop_eq_getElem_cons hlt, hx]
  rfl
/-- IndexFunc of options by any closure of which a contract says what it answers. -/
theorem IndexFunc_c (f : Opt → Bool) (g : Nat) (caps : Array Value) (F : World → Prop) (hf : ∀ p : Opt, ∀ H, (∀ w, Facts H w → F w) → SpecH Tryd.prog g (pvs [optV p] ++ pvs caps.toList) H (Ret (.bool (f p)) H)) (a : Option Addr) (cap : Nat) (l : List Opt) (n : Nat) (ha : a = none → l = []) (hn : n ≤ l.length) (hl : l.length ≤ 100000) : ∀ H, (∀ w, Facts H w → SlAt a (l.length * 5) (optsC l) w ∧ F w) →
    SpecH Tryd.prog 34 (pvs [.slice a n cap, .func (.func g) #[] caps]) H (Ret (.int .i64 (idx f (l.take n) 0)) H) := by
  refine factC hm Tryd.func34 (by kernel_rfl) rfl rfl ?_
  (first | refine wX ?_ | exact wZ)
  refine loopS Nat (fun i => i ≤ n ∧ idx f (l.take n) 0 = idx f ((l.take n).drop i) i) (fun i => mkS Tryd.f34.ntmps 0 [(0, .c (.v (.slice a n cap))), (1, .c (.v (.func (.func g) #[] caps))), (7, .c (.v (.int .i64 (n : Int)))), (8, .c (.v (.int .i64 (i : Int))))]) (fun i => n - i) rfl (fun _ => rfl) 0 ⟨Nat.zero_le _, rfl⟩ ?_ fun i ⟨hi, he⟩ => ?_
  · (repeat' (first | exact trivial | refine And.intro (by with_reducible rfl) ?_ | (with_reducible exact wkC_refl _) | (with_reducible exact wkCs_refl _) | refine And.intro ?_ ?_))
    all_goals rfl
  (first | refine wX ?_ | exact wZ)
  refine brd_dec (fun h1 => ?_) (fun h1 => ?_)
  · obtain ⟨o, ho⟩ : ∃ o, l[i]? = some o := ⟨_, List.getElem?_eq_getElem (by omega)⟩
    have hot : (l.take n)[i]? = some o := by rw [List.getElem?_take, if_pos (by omega), ho]
    have hd := idx_drop f (l.take n) i hot
    have hsa : a.isSome = true := by
      cases a with
      | none => rw [ha rfl] at ho; cases ho
      | some b => rfl
    (first | refine wX ?_ | exact wZ)
    refine Nd.mk ⟨hsa, by omega, by omega⟩ ?_
    (first | refine wX ?_ | exact wZ)
    refine LdN.agg (optC o) rfl (fun w hw => hw.1.1) rfl (fun j hj => by
      rw [Int.toNat_natCast]
      exact optsC_get l i j hj ho) ?_
    (first | refine wX ?_ | exact wZ)
    refine call1 (hf o _ (fun w hw => hw.1.2)) ?_
    cases hfo : f o with
    | true =>
      rw [hfo] at hd
      rw [he, hd]
      (first | refine wX ?_ | exact wZ)
      rfl
    | false =>
      rw [hfo] at hd
      (first | refine wX ?_ | exact wZ)
      refine ⟨i + 1, ⟨by omega, by rw [he, hd]; rfl⟩, by omega, ?_, by (repeat' (first | exact trivial | exact wkE_refl _ | refine And.intro ?_ ?_))⟩
      (repeat' (first | exact trivial | refine And.intro (by with_reducible rfl) ?_ | (with_reducible exact wkC_refl _) | (with_reducible exact wkCs_refl _) | refine And.intro ?_ ?_))
      all_goals first | rfl | exact av_int (by rw [wrap_i64 (by omega)]; omega)
  · have hin : i = n := by omega
    subst hin
    rw [he, List.drop_of_length_le (by simp; omega)]
    (first | refine wX ?_ | exact wZ)
    rfl
theorem ContainsFunc_c (f : Opt → Bool) (g : Nat) (caps : Array Value) (F : World → Prop) (hf : ∀ p : Opt, ∀ H, (∀ w, Facts H w → F w) → SpecH Tryd.prog g (pvs [optV p] ++ pvs caps.toList) H (Ret (.bool (f p)) H)) (a : Option Addr) (cap : Nat) (l : List Opt) (n : Nat) (ha : a = none → l = []) (hn : n ≤ l.length) (hl : l.length ≤ 100000) : ∀ H, (∀ w, Facts H w → SlAt a (l.length * 5) (optsC l) w ∧ F w) →
    SpecH Tryd.prog 25 (pvs [.slice a n cap, .func (.func g) #[] caps]) H (Ret (.bool ((l.take n).any f)) H) := by
  refine factC hm Tryd.func25 (by kernel_rfl) rfl rfl ?_
  (first | refine wX ?_ | exact wZ)
  refine call1 (IndexFunc_c f g caps F hf a cap l n ha hn hl _ (fun w hw => hw.1)) ?_
  (first | refine wX ?_ | exact wZ)
  rcases idx_spec f (l.take n) 0 with ⟨h1, h2⟩ | ⟨h1, h2, h3⟩
  · rw [h1, h2]
    rfl
  · rw [h3]
    exact out_bool (decide_eq_true (by omega))
end Go.Proofs.YteljlkkppaobeaaDoor

/-
  AX, twenty-eighth text: a struct of one's own at a known address: one cell is set (as the model's own functions without body set it).
-/
namespace Go.AX

end Go.AX

/-
  AX, twenty-ninth text: the rest of a slice.
-/
namespace Go.AX
end Go.AX

/-
  AX, twenty-fifth text: rows of bytes that are made.
-/
namespace Go.AX

end Go.AX

/-
  AX, thirtieth text: bytes of a string; own entries that nobody writes any more become facts.
-/
namespace Go.AX

theorem EffW.appTo {P : Program} {o : Oper} {s : List AV} {H : List Ent} {K : AV → List Ent → Prop} {Ty T : TypeId} {x y : Operand} {sz n cap b q i : Nat} {xs ys : List Value} {inf : TypeInfo} (zs : List Value) (sz' : Nat) (ho : o.op = .store Ty x y)
    (hx : opv s x = .c (.v (.pointer (some ⟨b, q, none⟩)))) (hi : nthE H i = some (.app T sz xs (some ⟨b, 0, none⟩) n cap)) (hy : avCells (opv s y) = some (vs ys)) (hone : oneCs (vs ys) = true) (hinf : P.info? Ty = some inf) (hlen : ys.length = inf.size)
    (hq : q + ys.length ≤ n * sz) (hz : xs.take q ++ ys ++ xs.drop (q + ys.length) = zs) (hs : sz = sz') (hk : setEK H i (.app T sz' zs (some ⟨b, 0, none⟩) n cap) fun H' => K (.c .any) H') : EffW P o s H K := by
  subst hz; subst hs
  exact EffW.app ho hx hi hy hone hinf hlen hq hk
theorem put_set {xs : List Value} {q : Nat} (v : Value) (h : q < xs.length) : xs.take q ++ [v] ++ xs.drop (q + [v].length) = xs.set q v := by
  rw [List.set_eq_take_append_cons_drop, if_pos h]
  simp
/-- The arguments in another spelling. -/
theorem SpecH.args {P : Program} {f : FuncId} {args args' : List AV} {H : List Ent} {K : Out → List Ent → Prop} (e : args = args') (h : SpecH P f args' H K) : SpecH P f args H K := e ▸ h
theorem plains_vs : ∀ xs : List Value, plains (vs xs) = some xs
  | [] => rfl
  | _ :: xs => by simp [vs, plains, plains_vs xs]
/-- []byte(s) -/
theorem EffW.bytesOf {P : Program} {o : Oper} {s : List AV} {H : List Ent} {K : AV → List Ent → Prop} {src dst e : TypeId} {x : Operand} (l : List UInt8) (ho : o.op = .convert src dst x) (hs : P.underlying src = some .string) (hd : P.underlying dst = some (.slice e)) (he : P.underlying e = some (.int .u8))
    (hx : opv s x = .c (.v (.string (bs l)))) (hl : l.length ≤ 140737488355328) (next : ∀ b cap : Nat, l.length ≤ cap → cap ≤ maxLen → K (.c (.v (.slice (some ⟨b, 0, none⟩) l.length cap))) (H ++ [.app e 1 (u8s l) (some ⟨b, 0, none⟩) l.length cap])) : EffW P o s H K := by
  intro ρ S w ac hsat hr
  have hxr := opv_rel hr x
  rw [hx] at hxr
  have hxe : ac.eval x = .string (bs l) := hxr
  have hrun := run_bytes_of_string (P := P) w src dst e (bs l) hs hd he
  rw [bs_size] at hrun
  have hge := grownCap_ge w l.length 0 e
  have hgm := grownCap_le_maxLen w l.length 0 e (by simp only [maxLen]; omega)
  generalize grownCap w l.length 0 e = cap at hrun hge hgm
  have hsz : (bytesRow (bs l) cap).size = cap := by
    have e1 : (bs l).data.size = l.length := by simp [bs]
    simp only [bytesRow, Array.size_append, Array.size_map, Array.size_replicate, bs_size, e1]
    omega
  have hrow : RowF e 1 l.length (u8s l) w.heap.size cap (w.drew.alloc (.cells (bytesRow (bs l) cap) e ((bytesRow (bs l) cap).size, (bytesRow (bs l) cap).size + 1))) := by
    refine ⟨_, _, ⟨heap_alloc_new w.drew _, .inr (Nat.le_refl _)⟩, by simp [u8s_len], hge, hgm, by rw [hsz, Nat.mul_one], ?_⟩
    rw [Nat.mul_one]
    unfold bytesRow
    rw [Array.toList_append, List.take_append_of_le_length (by simp [bs]), List.take_of_length_le (by simp [bs])]
    simp [bs, u8s]
  have hS := hsat.newApp (w' := w.drew.alloc (.cells (bytesRow (bs l) cap) e ((bytesRow (bs l) cap).size, (bytesRow (bs l) cap).size + 1))) rfl rfl rfl rfl hrow
  refine ⟨_, _, next w.heap.size cap hge hgm, _, _, _, _, ?_, .inl rfl, hS.1, hS.2, rfl⟩
  unfold execOp
  simp only [ho, hxe, Sem.run_bind, hrun, Result.andThen_ok, Sem.run_pure]

end Go.AX

/-
  Contract: Check (program).
-/
namespace Go.Proofs.YteljlkkppaobeaaDoor
open Go.AX Go.RowKit Go.Opts
set_option maxRecDepth 20000

/-- The options from one on are valid among those ahead. -/
def chkF (l : List Opt) (i : Nat) : Bool := match l[i]? with | some o => okB o && !(l.take i).any (oneB o) | none => true
theorem chk_def (l : List Opt) : chkB l = (decide (l.length ≤ 30) && (List.range l.length).all (chkF l)) := rfl
theorem Check_c (ab : Option Nat) (cap : Nat) (l : List Opt) (ha : ab = none → l = []) (hcap : l.length ≤ cap) (hl : l.length ≤ 100000) (hn : ∀ o ∈ l, o.name.length ≤ 1000000000) : ∀ H, (∀ w, Facts H w → SlAt (at0 ab) (l.length * 5) (optsC l) w) →
    SpecH Tryd.prog 17 (pvs [.slice (at0 ab) l.length cap]) H (Ret (.int .i64 (if chkB l then 0 else 1)) H) := by
  refine factC hm Tryd.func17 (by kernel_rfl) rfl rfl ?_
  (first | refine wX ?_ | exact wZ)
  refine brd_dec (fun h0 => ?_) (fun h0 => ?_)
  · rw [chk_def, show decide (l.length ≤ 30) = false by simp; omega]
    (first | refine wX ?_ | exact wZ)
    rfl
  rw [chk_def, show decide (l.length ≤ 30) = true by simp; omega, Bool.true_and]
  (first | refine wX ?_ | exact wZ)
  refine loopS Nat (fun i => i ≤ l.length ∧ (List.range i).all (chkF l) = true) (fun i => mkS Tryd.f17.ntmps 0 [(0, .c (.v (.slice (at0 ab) l.length cap))), (2, .c (.v (.int .i64 0))), (8, .c (.v (.slice (at0 ab) l.length cap))), (9, .c (.v (.int .i64 (l.length : Int)))), (10, .c (.v (.int .i64 (i : Int))))]) (fun i => l.length - i) rfl (fun _ => rfl) 0 ⟨Nat.zero_le _, rfl⟩ ?_ fun i ⟨hi, he⟩ => ?_
  · (repeat' (first | exact trivial | refine And.intro (by with_reducible rfl) ?_ | (with_reducible exact wkC_refl _) | (with_reducible exact wkCs_refl _) | refine And.intro ?_ ?_))
    all_goals rfl
  (first | refine wX ?_ | exact wZ)
  refine brd_dec (fun h1 => ?_) (fun h1 => ?_)
  · obtain ⟨o, ho⟩ : ∃ o, l[i]? = some o := ⟨_, List.getElem?_eq_getElem (by omega)⟩
    have hsa : (at0 ab).isSome = true := by
      cases ab with
      | none => rw [ha rfl] at ho; cases ho
      | some b => rfl
    have hall : ∀ b, chkF l i = b → (List.range l.length).all (chkF l) = true → b = true := fun b hb h => by
      rw [← hb]
      exact List.all_eq_true.1 h i (List.mem_range.2 (by omega))
    have hchk : chkF l i = (okB o && !(l.take i).any (oneB o)) := by unfold chkF; rw [ho]
    have hno : okB o = false ∨ (l.take i).any (oneB o) = true → (List.range l.length).all (chkF l) = false := fun h => by
      rw [Bool.eq_false_iff]
      intro h2
      have h3 := hall _ hchk h2
      rcases h with h | h <;> simp [h] at h3
    (first | refine wX ?_ | exact wZ)
    refine Nd.mk ⟨hsa, by omega, by omega⟩ ?_
    (first | refine wX ?_ | exact wZ)
    refine LdN.agg (optC o) rfl (fun w hw => hw.1) rfl (fun j hj => by
      rw [Int.toNat_natCast]
      exact optsC_get l i j hj ho) ?_
    ((conv => whnf); (repeat ((first | refine RwN.own ?_ | refine VrN.norm (wrap_i64 (by omega)) ?_ | refine VrN.keep ?_ | refine DrawN.calm (by decide +kernel) ?_ | refine Nd.mk (by decide +kernel) ?_ | refine Nd.mk (by omega) ?_ | (refine Nd.mk ?_ ?_; focus ((repeat' (first | exact trivial | exact wkE_refl _ | refine And.intro ?_ ?_)); done)) | refine RdN.intro _ rfl (by rfl) ?_); (conv => whnf))))
    refine BoxN.known _ rfl fun ob => ?_
    (first | refine wX ?_ | exact wZ)
    refine EffW.appTo (i := 1) (q := 0) (ys := optC o) (optC o) 5 rfl rfl rfl rfl rfl rfl rfl (Nat.le_of_ble_eq_true rfl) rfl rfl ?_
    (first | refine wX ?_ | exact wZ)
    refine LdN.agg (a := some ⟨ob, 0, none⟩) (q := 0) (optC o) rfl (fun w hw => hw.2.1) rfl (fun j hj => by rw [Nat.zero_add]) ?_
    (first | refine wX ?_ | exact wZ)
    refine call1 (isOption_c o (hn o (List.mem_of_getElem? ho)) _) ?_
    cases hok : okB o with
    | false =>
      rw [hno (.inl hok)]
      (first | refine wX ?_ | exact wZ)
      rfl
    | true =>
    (first | refine wX ?_ | exact wZ)
    refine ReadW.slc_h (ob := ab) rfl (by kernel_rfl) rfl rfl (by omega) ?_
    rw [Int.toNat_natCast]
    (first | refine wX ?_ | exact wZ)
    refine SpecH.args (args' := pvs [.slice (at0 ab) i cap, .func (.func 26) #[] #[.pointer (some ⟨ob, 0, none⟩)]]) (by simp [pvs, opvs, opv, nth, plainEv]; try rfl) ?_
    refine call1 (ContainsFunc_c (oneB o) 26 #[.pointer (some ⟨ob, 0, none⟩)] (SlAt (some ⟨ob, 0, none⟩) 5 (optC o)) (fun p H hH => one_c o p ob H hH) (at0 ab) cap l i (fun h => ha (by cases ab with | none => rfl | some b => cases h)) hi hl _ ?_) ?_
    · exact fun w hw => ⟨hw.1, hw.2.1⟩
    cases hany : (l.take i).any (oneB o) with
    | true =>
      rw [hno (.inr hany)]
      (first | refine wX ?_ | exact wZ)
      rfl
    | false =>
      (first | refine wX ?_ | exact wZ)
      refine ⟨i + 1, ⟨by omega, ?_⟩, by omega, ?_, by (repeat' (first | exact trivial | exact wkE_refl _ | refine And.intro ?_ ?_))⟩
      · rw [List.range_succ, List.all_append, he, Bool.true_and, List.all_cons, hchk, hok, hany]
        rfl
      · (repeat' (first | exact trivial | refine And.intro (by with_reducible rfl) ?_ | (with_reducible exact wkC_refl _) | (with_reducible exact wkCs_refl _) | refine And.intro ?_ ?_))
        all_goals first | rfl | exact av_int (by rw [wrap_i64 (by omega)]; omega)
  · have hin : i = l.length := by omega
    subst hin
    rw [he]
    (first | refine wX ?_ | exact wZ)
    rfl
end Go.Proofs.YteljlkkppaobeaaDoor

/-
  Plain: how words are read; words behind the two dashes are left.
-/
namespace Go.Opts

/-- What is known while words are read. -/
structure PS where
  at_ : Nat
  vals : Nat → List (List UInt8)
  given : List Int
  left : List (List UInt8)
def upd {α : Type} (f : Nat → α) (i : Nat) (x : α) : Nat → α := fun j => bif Nat.beq j i then x else f j
def trueL : List UInt8 := [116, 114, 117, 101]
def falseL : List UInt8 := [102, 97, 108, 115, 101]
def nextS (W : List (List UInt8)) (a : Nat) (any : Bool) : Option (List UInt8) :=
  match W[a]? with
  | none => none
  | some w => if !any && ([45] : List UInt8).isPrefixOf w then none else some w
def takeS (W : List (List UInt8)) (k : Int) (value : List UInt8) (has : Bool) (a : Nat) : Option (List UInt8 × Nat) :=
  if !has && (k == 1 || k == 2 || k == 4) then
    match nextS W a (!(k == 2)) with
    | some w => some (w, a + 1)
    | none => if k == 2 then some ([], a) else none
  else some (value, a)
def putS (k : Int) (no : Bool) (i : Nat) (v : List UInt8) (vals : Nat → List (List UInt8)) : Nat → List (List UInt8) :=
  if k == 3 then vals else if k == 4 then upd vals i (vals i ++ [v]) else if k == 0 || k == 5 then upd vals i [if no then falseL else trueL] else upd vals i [v]
def giveK (W : List (List UInt8)) (k : Int) (i : Nat) (no : Bool) (value : List UInt8) (has : Bool) (s : PS) : PS × Int :=
  if (k == 1 || k == 2) && decide (0 < s.given.getD i 0) then (s, 7)
  else if has && !(k == 1 || k == 2) && !(k == 4) then (s, 4)
  else match takeS W k value has s.at_ with
    | none => (s, 14)
    | some (v, a) => ({ at_ := a, vals := putS k no i v s.vals, given := s.given.set i (IntKind.i64.wrap (s.given.getD i 0 + 1)), left := s.left }, 0)
def kindAt (l : List Opt) (i : Nat) : Int := match l[i]? with | some o => o.kind | none => 0
def giveS (l : List Opt) (W : List (List UInt8)) (i : Nat) (no : Bool) (value : List UInt8) (has : Bool) (s : PS) : PS × Int := giveK W (kindAt l i) i no value has s
def longS (l : List Opt) (W : List (List UInt8)) (w : List UInt8) (s : PS) : PS × Int :=
  let c := Lib.cut (w.drop 2) [61]
  let f := findS l c.1
  if f.2.2 = 0 then giveS l W f.1 f.2.1 c.2.1 c.2.2 s else (s, f.2.2)
def shortI (c : UInt8) : List Opt → Nat → Int
  | [], _ => -1
  | o :: l, i => if o.short == c then (i : Int) else shortI c l (i + 1)
def takesB (k : Int) : Bool := k == 1 || k == 2 || k == 4
def shortS (l : List Opt) (W : List (List UInt8)) : List UInt8 → PS → PS × Int
  | [], s => (s, 0)
  | c :: r, s =>
    if shortI c l 0 < 0 ∨ c = 0 then (s, 6)
    else
      let i := (shortI c l 0).toNat
      match giveS l W i false r (takesB (kindAt l i) && r != []) s with
      | (s', e) => if e = 0 then (if takesB (kindAt l i) then (s', 0) else shortS l W r s') else (s', e)
/-- One word. -/
def stepS (l : List Opt) (W : List (List UInt8)) (stop : Bool) (w : List UInt8) (s : PS) : PS × Int :=
  let s1 : PS := { s with at_ := s.at_ + 1 }
  if w == [45, 45] then ({ s1 with left := s.left ++ W.drop (s.at_ + 1), at_ := W.length }, 0)
  else if ([45, 45] : List UInt8).isPrefixOf w then longS l W w s1
  else if decide (1 < w.length) && ([45] : List UInt8).isPrefixOf w then shortS l W (w.drop 1) s1
  else if stop then ({ s1 with left := s.left ++ W.drop s.at_, at_ := W.length }, 0)
  else ({ s1 with left := s.left ++ [w] }, 0)
def readS (l : List Opt) (W : List (List UInt8)) (stop : Bool) : Nat → PS → PS × Nat × Int
  | 0, s => (s, 0, 0)
  | n + 1, s => match W[s.at_]? with
    | none => (s, 0, 0)
    | some w => match stepS l W stop w s with
      | (s', e) => if e = 0 then readS l W stop n s' else (s', s.at_, e)
/-- What is done at the end, from an option on: what must be there, what is not said. -/
def finS (given : List Int) : Nat → List Opt → (Nat → List (List UInt8)) → (Nat → List (List UInt8)) × Option Nat
  | _, [], v => (v, none)
  | i, o :: l, v => if 0 < given.getD i 0 then finS given (i + 1) l v else if o.must then (v, some i) else if o.dflt != [] then finS given (i + 1) l (upd v i [o.dflt]) else finS given (i + 1) l v
def initS (l : List Opt) : PS := ⟨0, fun _ => [], List.replicate l.length 0, []⟩
def parseS (l : List Opt) (W : List (List UInt8)) (stop : Bool) : PS × Nat × Int :=
  if !chkB l || decide (200 < W.length) then (initS l, 0, 1)
  else match readS l W stop (W.length + 1) (initS l) with
    | (s, a, e) => if e ≠ 0 then (s, a, e)
      else match finS s.given 0 l s.vals with
        | (_, some i) => (s, i, 3)
        | (v, none) => ({ s with vals := v }, 0, 0)

/-! ### Words behind the two dashes -/
theorem take_ends {W X : List (List UInt8)} {k : Int} {value : List UInt8} {has : Bool} {a : Nat} {r : List UInt8 × Nat} (ha : a ≤ W.length) (h : takeS W k value has a = some r) : takeS (W ++ [45, 45] :: X) k value has a = some r ∧ r.2 ≤ W.length := by
  unfold takeS at h ⊢
  by_cases h1 : (!has && (k == 1 || k == 2 || k == 4)) = true
  · rw [if_pos h1] at h ⊢
    unfold nextS at h ⊢
    rcases Nat.lt_or_ge a W.length with h2 | h2
    · rw [List.getElem?_append_left h2]
      obtain ⟨w, hw⟩ : ∃ w, W[a]? = some w := ⟨_, List.getElem?_eq_getElem h2⟩
      rw [hw] at h ⊢
      refine ⟨h, ?_⟩
      simp only at h
      split at h
      · rename_i hx
        cases h
        show a + 1 ≤ W.length
        omega
      · split at h
        · cases h; exact ha
        · cases h
    · have hx : W[a]? = none := List.getElem?_eq_none h2
      have hax : a = W.length := by omega
      subst hax
      rw [hx] at h
      simp only at h
      split at h
      · rename_i h3
        rw [List.getElem?_append_right (Nat.le_refl _), Nat.sub_self]
        simp only [List.getElem?_cons_zero, h3]
        cases h
        exact ⟨rfl, Nat.le_refl _⟩
      · cases h
  · rw [if_neg h1] at h ⊢
    refine ⟨h, ?_⟩
    cases h
    exact ha
theorem give_ends {l : List Opt} {W X : List (List UInt8)} {i : Nat} {no : Bool} {value : List UInt8} {has : Bool} {s s' : PS} (ha : s.at_ ≤ W.length) (h : giveS l W i no value has s = (s', 0)) : giveS l (W ++ [45, 45] :: X) i no value has s = (s', 0) ∧ s'.at_ ≤ W.length := by
  unfold giveS giveK at h ⊢
  split at h
  · cases h
  split at h
  · cases h
  rename_i h1 h2
  rw [if_neg h1, if_neg h2]
  split at h
  · cases h
  · rename_i v a hv
    obtain ⟨h3, h4⟩ := take_ends (X := X) ha hv
    rw [h3]
    refine ⟨h, ?_⟩
    cases h
    exact h4
theorem short_ends {l : List Opt} {W X : List (List UInt8)} : ∀ {cs : List UInt8} {s s' : PS}, s.at_ ≤ W.length → shortS l W cs s = (s', 0) → shortS l (W ++ [45, 45] :: X) cs s = (s', 0) ∧ s'.at_ ≤ W.length
  | [], s, s', ha, h => by
    cases h
    exact ⟨rfl, ha⟩
  | c :: r, s, s', ha, h => by
    unfold shortS at h ⊢
    split at h
    · cases h
    rename_i h1
    rw [if_neg h1]
    simp only at h ⊢
    generalize hg : giveS l W (shortI c l 0).toNat false r (takesB (kindAt l (shortI c l 0).toNat) && r != []) s = g at h
    obtain ⟨s1, e⟩ := g
    simp only at h
    split at h
    · rename_i he
      subst he
      obtain ⟨h2, h3⟩ := give_ends (X := X) ha hg
      rw [h2]
      simp only [if_true]
      split at h
      · rename_i h4
        rw [if_pos h4]
        cases h
        exact ⟨rfl, h3⟩
      · rename_i h4
        rw [if_neg h4]
        exact short_ends h3 h
    · rename_i he
      cases h
      exact absurd rfl he
theorem long_ends {l : List Opt} {W X : List (List UInt8)} {w : List UInt8} {s s' : PS} (ha : s.at_ ≤ W.length) (h : longS l W w s = (s', 0)) : longS l (W ++ [45, 45] :: X) w s = (s', 0) ∧ s'.at_ ≤ W.length := by
  unfold longS at h ⊢
  simp only at h ⊢
  split at h
  · rename_i h1
    rw [if_pos h1]
    exact give_ends ha h
  · rename_i h1
    exact absurd (congrArg Prod.snd h) h1
/-- One word: the same, or it is the two dashes. -/
theorem step_ends {l : List Opt} {W X : List (List UInt8)} {w : List UInt8} {s s' : PS} (ha : s.at_ < W.length) (h : stepS l W false w s = (s', 0)) :
    (stepS l (W ++ [45, 45] :: X) false w s = (s', 0) ∧ s'.at_ ≤ W.length) ∨ (w = [45, 45] ∧ s' = { s with at_ := W.length, left := s.left ++ W.drop (s.at_ + 1) } ∧ stepS l (W ++ [45, 45] :: X) false w s = ({ s with at_ := (W ++ [45, 45] :: X).length, left := s.left ++ W.drop (s.at_ + 1) ++ [45, 45] :: X }, 0)) := by
  unfold stepS at h ⊢
  simp only at h ⊢
  split at h
  · rename_i h1
    right
    cases h
    refine ⟨eq_of_beq h1, rfl, ?_⟩
    rw [if_pos h1, List.drop_append_of_le_length (by omega), List.append_assoc]
  rename_i h1
  left
  rw [if_neg h1]
  split at h
  · rename_i h2
    rw [if_pos h2]
    exact long_ends (s := { s with at_ := s.at_ + 1 }) (by show s.at_ + 1 ≤ _; omega) h
  rename_i h2
  rw [if_neg h2]
  split at h
  · rename_i h3
    rw [if_pos h3]
    exact short_ends (s := { s with at_ := s.at_ + 1 }) (by show s.at_ + 1 ≤ _; omega) h
  rename_i h3
  rw [if_neg h3]
  simp only [Bool.false_eq_true, if_false] at h ⊢
  cases h
  exact ⟨rfl, by show s.at_ + 1 ≤ _; omega⟩
theorem give_at {l : List Opt} {W : List (List UInt8)} {i : Nat} {no : Bool} {value : List UInt8} {has : Bool} {s s' : PS} {e : Int} (h : giveS l W i no value has s = (s', e)) : s.at_ ≤ s'.at_ ∧ (s.at_ ≤ W.length → s'.at_ ≤ W.length) ∧ s'.left = s.left ∧ s'.given.length = s.given.length := by
  unfold giveS giveK at h
  split at h
  · cases h; exact ⟨Nat.le_refl _, fun x => x, rfl, rfl⟩
  split at h
  · cases h; exact ⟨Nat.le_refl _, fun x => x, rfl, rfl⟩
  split at h
  · cases h; exact ⟨Nat.le_refl _, fun x => x, rfl, rfl⟩
  · rename_i v a hv
    cases h
    refine ⟨?_, ?_, rfl, by simp⟩
    · unfold takeS at hv
      show s.at_ ≤ a
      split at hv
      · split at hv
        · cases hv; omega
        · split at hv
          · cases hv; exact Nat.le_refl _
          · cases hv
      · cases hv; exact Nat.le_refl _
    · intro hs
      show a ≤ W.length
      unfold takeS at hv
      split at hv
      · split at hv
        · rename_i w hw
          cases hv
          unfold nextS at hw
          split at hw
          · cases hw
          · rename_i w' hw'
            have := (List.getElem?_eq_some_iff.1 hw').1
            omega
        · split at hv
          · cases hv; exact hs
          · cases hv
      · cases hv; exact hs
theorem short_at {l : List Opt} {W : List (List UInt8)} : ∀ {cs : List UInt8} {s s' : PS} {e : Int}, shortS l W cs s = (s', e) → s.at_ ≤ s'.at_ ∧ (s.at_ ≤ W.length → s'.at_ ≤ W.length) ∧ s'.left = s.left ∧ s'.given.length = s.given.length
  | [], s, s', e, h => by cases h; exact ⟨Nat.le_refl _, fun x => x, rfl, rfl⟩
  | c :: r, s, s', e, h => by
    unfold shortS at h
    split at h
    · cases h; exact ⟨Nat.le_refl _, fun x => x, rfl, rfl⟩
    simp only at h
    generalize hg : giveS l W (shortI c l 0).toNat false r (takesB (kindAt l (shortI c l 0).toNat) && r != []) s = g at h
    obtain ⟨s1, e1⟩ := g
    have h1 := give_at hg
    simp only at h
    split at h
    · split at h
      · cases h; exact h1
      · have h2 := short_at h
        exact ⟨Nat.le_trans h1.1 h2.1, fun x => h2.2.1 (h1.2.1 x), h2.2.2.1.trans h1.2.2.1, h2.2.2.2.trans h1.2.2.2⟩
    · cases h; exact h1
theorem long_at {l : List Opt} {W : List (List UInt8)} {w : List UInt8} {s s' : PS} {e : Int} (h : longS l W w s = (s', e)) : s.at_ ≤ s'.at_ ∧ (s.at_ ≤ W.length → s'.at_ ≤ W.length) ∧ s'.left = s.left ∧ s'.given.length = s.given.length := by
  unfold longS at h
  simp only at h
  split at h
  · exact give_at h
  · cases h; exact ⟨Nat.le_refl _, fun x => x, rfl, rfl⟩
theorem step_at {l : List Opt} {W : List (List UInt8)} {stop : Bool} {w : List UInt8} {s s' : PS} {e : Int} (ha : s.at_ < W.length) (h : stepS l W stop w s = (s', e)) : s.at_ < s'.at_ ∧ s'.at_ ≤ W.length ∧ s'.given.length = s.given.length ∧ (s.left.length ≤ s.at_ → s'.left.length ≤ s'.at_) := by
  unfold stepS at h
  simp only at h
  split at h
  · cases h
    exact ⟨ha, Nat.le_refl _, rfl, fun x => by simp; omega⟩
  split at h
  · obtain ⟨h1, h2, h3, h4⟩ := long_at h
    have h1' : s.at_ + 1 ≤ s'.at_ := h1
    exact ⟨h1', h2 ha, h4, fun x => by rw [h3]; show s.left.length ≤ _; omega⟩
  split at h
  · obtain ⟨h1, h2, h3, h4⟩ := short_at h
    have h1' : s.at_ + 1 ≤ s'.at_ := h1
    exact ⟨h1', h2 ha, h4, fun x => by rw [h3]; show s.left.length ≤ _; omega⟩
  split at h
  · cases h
    exact ⟨ha, Nat.le_refl _, rfl, fun x => by simp; omega⟩
  · cases h
    exact ⟨Nat.lt_succ_self _, ha, rfl, fun x => by simp; omega⟩
/-- All words, with the two dashes and more behind them. -/
theorem read_ends {l : List Opt} {W X : List (List UInt8)} : ∀ {n : Nat} {s s' : PS} {a : Nat}, s.at_ ≤ W.length → W.length < n + s.at_ → readS l W false n s = (s', a, 0) →
    ∀ m, (W ++ [45, 45] :: X).length < m + s.at_ → a = 0 ∧ (readS l (W ++ [45, 45] :: X) false m s = ({ s' with at_ := (W ++ [45, 45] :: X).length, left := s'.left ++ X }, 0, 0) ∨ ([45, 45] ∈ W ∧ readS l (W ++ [45, 45] :: X) false m s = ({ s' with at_ := (W ++ [45, 45] :: X).length, left := s'.left ++ [45, 45] :: X }, 0, 0)))
  | 0, s, s', a, ha, hn, h, m, hm => by omega
  | n + 1, s, s', a, ha, hn, h, m, hm => by
    have hlen : (W ++ [45, 45] :: X).length = W.length + 1 + X.length := by simp; omega
    obtain ⟨m, rfl⟩ : ∃ k, m = k + 1 := ⟨m - 1, by omega⟩
    have stop : ∀ k (t : PS), t.at_ = (W ++ [45, 45] :: X).length → readS l (W ++ [45, 45] :: X) false k t = (t, 0, 0) := by
      intro k t ht
      cases k with
      | zero => rfl
      | succ k =>
        unfold readS
        rw [List.getElem?_eq_none (by omega)]
    unfold readS at h ⊢
    rcases Nat.lt_or_ge s.at_ W.length with h1 | h1
    · obtain ⟨w, hw⟩ : ∃ w, W[s.at_]? = some w := ⟨_, List.getElem?_eq_getElem h1⟩
      rw [List.getElem?_append_left h1]
      rw [hw] at h ⊢
      simp only at h ⊢
      generalize hg : stepS l W false w s = g at h
      obtain ⟨s1, e⟩ := g
      simp only at h
      split at h
      · rename_i he
        subst he
        have hst := step_at h1 hg
        rcases step_ends (X := X) h1 hg with ⟨h2, h3⟩ | ⟨h2, h3, h4⟩
        · rw [h2]
          simp only [if_true]
          exact read_ends h3 (by omega) h m (by omega)
        · rw [h4]
          simp only [if_true]
          rw [stop _ _ rfl]
          have hs1 : s1.at_ = W.length := by rw [h3]
          have h5 : readS l W false n s1 = (s1, 0, 0) := by
            cases n with
            | zero => rfl
            | succ k =>
              unfold readS
              rw [List.getElem?_eq_none (by omega)]
          rw [h5] at h
          cases h
          refine ⟨rfl, .inr ⟨?_, ?_⟩⟩
          · rw [← h2]; exact List.mem_of_getElem? hw
          · rw [h3]
      · rename_i he
        cases h
        exact absurd rfl he
    · have hx : s.at_ = W.length := by omega
      rw [List.getElem?_eq_none h1] at h
      simp only at h
      cases h
      refine ⟨rfl, .inl ?_⟩
      rw [hx, List.getElem?_append_right (Nat.le_refl _), Nat.sub_self]
      simp only [List.getElem?_cons_zero]
      have h2 : stepS l (W ++ [45, 45] :: X) false [45, 45] s = ({ s with at_ := (W ++ [45, 45] :: X).length, left := s.left ++ X }, 0) := by
        unfold stepS
        simp only [beq_self_eq_true, if_true]
        rw [hx, List.drop_append, List.drop_of_length_le (by omega)]
        simp
      rw [h2]
      simp only [if_true]
      rw [stop _ _ rfl]
/-- Parse of words with the two dashes and more behind them. -/
theorem parse_ends {l : List Opt} {W X : List (List UInt8)} {s : PS} {a : Nat} (hlen : W.length + 1 + X.length ≤ 200) (h : parseS l W false = (s, a, 0)) :
    ∃ s', parseS l (W ++ [45, 45] :: X) false = (s', 0, 0) ∧ s'.vals = s.vals ∧ s'.given = s.given ∧ (s'.left = s.left ++ X ∨ [45, 45] ∈ W ∧ s'.left = s.left ++ [45, 45] :: X) := by
  unfold parseS at h ⊢
  have hl : (W ++ [45, 45] :: X).length = W.length + 1 + X.length := by simp; omega
  split at h
  · cases h
  rename_i h1
  have h1' : ¬ (!chkB l || decide (200 < (W ++ [45, 45] :: X).length)) = true := by
    intro h2
    refine h1 ?_
    rw [hl, show decide (200 < W.length + 1 + X.length) = false by simp; omega, Bool.or_false] at h2
    rw [h2, Bool.true_or]
  rw [if_neg h1']
  generalize hg : readS l W false (W.length + 1) (initS l) = g at h
  obtain ⟨s1, a1, e1⟩ := g
  simp only at h
  split at h
  · rename_i he; cases h; exact absurd rfl he
  rename_i he
  have he' : e1 = 0 := Classical.not_not.1 he
  subst he'
  have h0 : (initS l).at_ = 0 := rfl
  generalize hf : finS s1.given 0 l s1.vals = f at h
  obtain ⟨v, fi⟩ := f
  cases fi with
  | some i => cases h
  | none =>
    cases h
    obtain ⟨_, h3 | ⟨hm, h3⟩⟩ := read_ends (X := X) (by rw [h0]; exact Nat.zero_le _) (by rw [h0]; omega) hg ((W ++ [45, 45] :: X).length + 1) (by rw [h0]; omega)
    · rw [h3]
      simp only [ne_eq, not_true_eq_false, if_false, hf]
      exact ⟨_, rfl, rfl, rfl, .inl rfl⟩
    · rw [h3]
      simp only [ne_eq, not_true_eq_false, if_false, hf]
      exact ⟨_, rfl, rfl, rfl, .inr ⟨hm, rfl⟩⟩
end Go.Opts

/-
  Plain: options that numbers make are valid; a full name, and each beginning that fits only one name, are the same option.
-/
namespace Go.Opts

def nameG : Nat → List UInt8
  | 0 => [118, 101, 114, 98, 111, 115, 101]
  | 1 => [111, 117, 116]
  | 2 => [118, 101, 114, 115, 105, 111, 110]
  | 3 => [111, 50]
  | 4 => [113, 117, 105, 101, 116]
  | 5 => [102, 105, 108, 101, 45, 110, 97, 109, 101]
  | 6 => [110, 49]
  | _ => [111, 117, 116, 45, 102, 105, 108, 101]
def shortG : Nat → UInt8
  | 0 => 118
  | 1 => 86
  | 2 => 111
  | 3 => 79
  | 4 => 113
  | 5 => 102
  | 6 => 49
  | _ => 110
def dfltG : List UInt8 := [100, 102, 108, 116]
def optG (i : Nat) (b : Bool) (k : Int) (d m : Bool) : Opt := ⟨nameG i, if b then shortG i else 0, k, if d then dfltG else [], m⟩
/-- The option that a number makes. -/
def grownG (i : Nat) (n : Int) : Opt :=
  let u := IntKind.u64.wrap n
  optG i (decide (0 < u / 48 % 3)) (u % 6) ((u % 6 == 1 || u % 6 == 2) && u / 144 % 2 == 1) (u / 6 % 8 == 1)
def grownA : List Int → Nat → List Opt
  | [], _ => []
  | n :: l, i => grownG i n :: grownA l (i + 1)
def grownS (l : List Int) : List Opt := grownA (l.take 8) 0
theorem grownA_len : ∀ (l : List Int) (i : Nat), (grownA l i).length = l.length
  | [], _ => rfl
  | n :: l, i => by unfold grownA; rw [List.length_cons, grownA_len l, List.length_cons]
theorem grownA_get : ∀ (l : List Int) (i j : Nat), (grownA l i)[j]? = (l[j]?).map (grownG (i + j))
  | [], _, _ => rfl
  | n :: l, i, 0 => rfl
  | n :: l, i, j + 1 => by
    unfold grownA
    rw [List.getElem?_cons_succ, List.getElem?_cons_succ, grownA_get l, show i + 1 + j = i + (j + 1) by omega]
theorem grown_len (l : List Int) : (grownS l).length = min 8 l.length := by unfold grownS; rw [grownA_len, List.length_take]
theorem grown_get {l : List Int} {j : Nat} {o : Opt} (h : (grownS l)[j]? = some o) : j < 8 ∧ ∃ n, l[j]? = some n ∧ o = grownG j n := by
  unfold grownS at h
  rw [grownA_get, Nat.zero_add, List.getElem?_take] at h
  split at h
  · rename_i h1
    refine ⟨h1, ?_⟩
    obtain ⟨n, hn, rfl⟩ := Option.map_eq_some_iff.1 h
    exact ⟨n, hn, rfl⟩
  · cases h
/-! ### What is found -/
def formsL : Nat → List Opt → List (Nat × Bool × List UInt8)
  | _, [] => []
  | i, o :: l => (i, false, o.name) :: (if o.kind == 5 then [(i, true, [110, 111, 45] ++ o.name)] else []) ++ formsL (i + 1) l
def foldF (name : List UInt8) : List (Nat × Bool × List UInt8) → Hit → Hit
  | [], h => h
  | f :: l, h => foldF name l (form1 f.1 f.2.1 f.2.2 name h)
theorem foldF_app (name : List UInt8) : ∀ (l m : List (Nat × Bool × List UInt8)) (h : Hit), foldF name (l ++ m) h = foldF name m (foldF name l h)
  | [], _, _ => rfl
  | f :: l, m, h => by show foldF name (l ++ m) _ = foldF name m (foldF name l _); rw [foldF_app name l m]
theorem hitS_fold (name : List UInt8) : ∀ (l : List Opt) (i : Nat) (h : Hit), hitS name i l h = foldF name (formsL i l) h
  | [], _, _ => rfl
  | o :: l, i, h => by
    unfold hitS formsL
    rw [foldF_app, hitS_fold name l]
    congr 1
    unfold forms1
    by_cases h5 : (o.kind == 5) = true
    · rw [if_pos h5, if_pos h5]; rfl
    · rw [if_neg h5, if_neg h5]; rfl
theorem forms_mem : ∀ (l : List Opt) (i : Nat) (f : Nat × Bool × List UInt8), f ∈ formsL i l → ∃ o, i ≤ f.1 ∧ l[f.1 - i]? = some o ∧ (f.2.1 = false ∧ f.2.2 = o.name ∨ f.2.1 = true ∧ f.2.2 = [110, 111, 45] ++ o.name)
  | [], _, _, h => by cases h
  | o :: l, i, f, h => by
    unfold formsL at h
    rcases List.mem_append.1 h with h | h
    · rcases List.mem_cons.1 h with h | h
      · subst h
        exact ⟨o, Nat.le_refl _, by simp, .inl ⟨rfl, rfl⟩⟩
      · split at h
        · rcases List.mem_singleton.1 h with rfl
          exact ⟨o, Nat.le_refl _, by simp, .inr ⟨rfl, rfl⟩⟩
        · cases h
    · obtain ⟨o', h1, h2, h3⟩ := forms_mem l (i + 1) f h
      refine ⟨o', by omega, ?_, h3⟩
      rw [show f.1 - i = (f.1 - (i + 1)) + 1 by omega, List.getElem?_cons_succ]
      exact h2
theorem fold_done (name : List UInt8) : ∀ (l : List (Nat × Bool × List UInt8)) (h : Hit), h.full.isSome = true → foldF name l h = h
  | [], _, _ => rfl
  | f :: l, h, hs => by
    unfold foldF
    have : form1 f.1 f.2.1 f.2.2 name h = h := by unfold form1; rw [if_pos hs]
    rw [this]
    exact fold_done name l h hs
/-- A full name. -/
theorem fold_full (name : List UInt8) : ∀ (l : List (Nat × Bool × List UInt8)) (h : Hit), h.full = none →
    (∀ p, (foldF name l h).full = some p → (p.1, p.2, name) ∈ l) ∧ ((∃ f ∈ l, f.2.2 = name) → (foldF name l h).full.isSome = true)
  | [], h, hn => ⟨fun p hp => (by rw [show foldF name [] h = h from rfl, hn] at hp; cases hp), fun ⟨f, hf, _⟩ => (by cases hf)⟩
  | f :: l, h, hn => by
    unfold foldF
    by_cases h1 : f.2.2 = name
    · have hs : form1 f.1 f.2.1 f.2.2 name h = { h with full := some (f.1, f.2.1) } := by
        unfold form1
        rw [hn]
        simp [h1]
      rw [hs, fold_done _ _ _ rfl]
      refine ⟨fun p hp => ?_, fun _ => rfl⟩
      cases hp
      rw [← h1]
      exact List.mem_cons_self ..
    · have hs : (form1 f.1 f.2.1 f.2.2 name h).full = none := by
        unfold form1
        rw [hn]
        simp only [Option.isSome_none, Bool.false_eq_true, if_false]
        rw [if_neg (by simpa using h1)]
        split <;> first | rfl | exact hn
      obtain ⟨ha, hb⟩ := fold_full name l _ hs
      refine ⟨fun p hp => List.mem_cons_of_mem _ (ha p hp), fun ⟨g, hg, hgn⟩ => hb ?_⟩
      rcases List.mem_cons.1 hg with rfl | hg
      · exact absurd hgn h1
      · exact ⟨g, hg, hgn⟩
theorem nameG_len : ∀ (i : Fin 8), 2 ≤ (nameG i.val).length ∧ (nameG i.val).length ≤ 9 := by decide
theorem grown_name {l : List Int} {j : Nat} {o : Opt} (h : (grownS l)[j]? = some o) : o.name = nameG j ∧ j < 8 := by
  obtain ⟨h8, n, _, rfl⟩ := grown_get h
  exact ⟨rfl, h8⟩
end Go.Opts
