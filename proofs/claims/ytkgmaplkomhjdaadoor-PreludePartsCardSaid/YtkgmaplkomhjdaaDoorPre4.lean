/-
  Lemmas (Ax14 Ax15 Ax16 Ax17 Ax13 Ax18 Ax19 Ax20 Ax34 Ax24 Ax21 Ax22 LB1 T1 Ax23 LB2 R0 P1 Ax26 Ax28 Ax29 Ax25 Ax30 Ax31 Ax32 Ax33 Ax35 Ax59 Ax64 Ax65 Ax66).
-/
import Derived.Below
import Derived.DataElems
import Derived.WalkKit
import Derived.ProofKit
import Derived.OpenShut
import Derived.ShutString
import Derived.ChangeOld
import Derived.Carry
import Derived.HandedShaped
import Derived.SliceStrings
import Derived.ChangeSlices
import Derived.SizedLaws
import Derived.MakeChecks
import Derived.LaidMore
import Derived.LaidLaws
import Derived.LaidHandle
import Derived.Lib.LaidTab
import Derived.SevenTiedAt
import Derived.Laws.IdiomStrings
import Derived.Shelf.Vars
import Derived.Lib.AppendStr
import Derived.Lib.UnsafeStr
import Derived.Lib.Builder
import Derived.Laws.Externs
import Derived.Test.YtkgmaplkomhjdaaDoorChecked
import Derived.Shelf.Strings.Trim
import Derived.Shelf.Strings.TrimSpace
import Derived.Shelf.Small.Utf8
import Derived.Shelf.Small.Strs
import Derived.Shelf.Small.Wraps
import Derived.Shelf.Utf8.RuneCount
import Derived.Shelf.Strings.Search1
import Derived.Shelf.Strings.Search2
import Derived.Shelf.Strings.Search3
import Derived.Shelf.Strings.Cut
import Derived.Shelf.Strings.Count
import Derived.Shelf.LaysM
import Derived.Shelf.Strings.Shaped
import Derived.Shelf.Strings.Prefix
import Derived.Shelf.Strings.Split
import Derived.Shelf.Strings.Fields
import Derived.Shelf.Strings.SplitShaped
import Derived.Shelf.Unicode.Latin
import Derived.Shelf.Unicode.Decode
import Derived.Shelf.Strings.Runes
import Derived.Shelf.Strings.RuneCount
import Derived.Shelf.Strings.IndexAny
import Derived.Shelf.Strings.AsciiSet
import Derived.Shelf.Strings.IndexAnyAll
import Derived.Shelf.Strings.Explode
import Derived.Shelf.Unicode.DecodeSlow
import Derived.Shelf.Unicode.DecodeAny
import Derived.Shelf.Unicode.Is16White
import Derived.Shelf.Unicode.IsSpaceAny
import Derived.Shelf.Unicode.DecodeLast
import Derived.Shelf.Unicode.Is16WhiteD
import Derived.Shelf.Unicode.Is16Any
import Derived.Shelf.Unicode.Is32Any
import Derived.Shelf.Unicode.ExclAny
import Derived.Test.YtkgmaplkomhjdaaDoorProg
import Derived.Lib.MakeNoZero
import Derived.Lib.CutLaws
import Derived.Lib.ReplaceLaws
import Derived.Test.YtkgmaplkomhjdaaDoorRows
import Derived.LaidOnce
import Derived.WideMake
import Derived.Laws.IdiomCopy
import Derived.Laws.MakeOwn
import Derived.Lib.AppendZerosOnto
import Derived.Scope
import Derived.RangeFuncNested
import Derived.RangeFuncLeaves
import Derived.RangeFuncRecord
import Derived.Test.YtkgmaplkomhjdaaDoorPre3
set_option linter.unusedVariables false
set_option linter.unusedSimpArgs false
namespace Go.AX
open Go.RowKit
theorem Imm.mono {S : Nat → Prop} {w : World} {F G : World → Prop} (h : Imm S w F) (hk : ∀ w, F w → G w) : Imm S w G := ⟨hk w h.1, fun w' hw => hk w' (h.2 w' hw)⟩
theorem Imm.grow {S S' : Nat → Prop} {w : World} {F : World → Prop} (h : Imm S w F) (hs : ∀ b, S b → S' b) : Imm S' w F := ⟨h.1, fun w' hw => h.2 w' fun b hb => hw b (hs b hb)⟩
theorem Imm.and {S : Nat → Prop} {w : World} {F G : World → Prop} (h : Imm S w F) (k : Imm S w G) : Imm S w fun w => F w ∧ G w := ⟨⟨h.1, k.1⟩, fun w' hw => ⟨h.2 w' hw, k.2 w' hw⟩⟩
theorem Imm.triv (S : Nat → Prop) (w : World) : Imm S w fun _ => True := ⟨trivial, fun _ _ => trivial⟩
theorem EntOk.grow {ρ : List Loc} {S S' : Nat → Prop} {w : World} {i : Nat} {e : Ent} (h : EntOk ρ S w i e) (hs : ∀ b, S b → S' b) : EntOk ρ S' w i e := by
 cases e with
 | fact F => exact Imm.grow h hs
 | fz => exact ⟨h.1, Imm.grow h.2 hs⟩
 | _ => exact h
theorem Facts_imm {ρ : List Loc} {S : Nat → Prop} {w : World} : ∀ {H : List Ent}, (∀ e ∈ H, ∃ i, EntOk ρ S w i e ∧ match e with | .app _ _ _ a _ _ => ∀ b, a.map Addr.block = some b → S b | .mp b _ _ => S b | .fam B _ => ∀ b, B b → S b | _ => True) → Imm S w (Facts H)
 | [], _ => Imm.triv S w
 | .fact F :: es, h => by
  obtain ⟨i, hi, _⟩ := h (.fact F) (by simp)
  exact Imm.and hi (Facts_imm fun e he => h e (by simp [he]))
 | .fz T sz n xs b cap :: es, h => by
  obtain ⟨i, hi, _⟩ := h (.fz T sz n xs b cap) (by simp)
  exact Imm.and hi.2 (Facts_imm fun e he => h e (by simp [he]))
 | .blk .. :: es, h => Facts_imm (H := es) fun e he => h e (by simp [he])
 | .row .. :: es, h => Facts_imm (H := es) fun e he => h e (by simp [he])
 | .app T sz xs a n cap :: es, h => by
  obtain ⟨i, hi, hS⟩ := h (.app T sz xs a n cap) (by simp)
  have h1 : Imm S w (SlAt a (n * sz) xs) := ⟨appSl hi, fun w' hw => by
   rcases hi with ⟨rfl, rfl, rfl, rfl⟩ | ⟨b, rfl, hr⟩
   ·rw [Nat.zero_mul]; exact SlAt.nil
   ·exact (hr.move (hw b (hS b rfl))).sl⟩
  exact Imm.and h1 (Facts_imm fun e he => h e (by simp [he]))
 | .mp b es c :: H, h => by
  obtain ⟨i, hi, hS⟩ := h (.mp b es c) (by simp)
  have h1 : Imm S w (fun w => w.heap[b]? = some (.map es c)) := ⟨hi, fun w' hw => (hw b hS).trans hi⟩
  exact Imm.and h1 (Facts_imm fun e he => h e (by simp [he]))
 | .fam B F :: H, h => by
  obtain ⟨i, hi, hS⟩ := h (.fam B F) (by simp)
  exact Imm.and ⟨hi.1.1, fun w' hw => hi.1.2 w' fun b hb => hw b (hS b hb)⟩ (Facts_imm fun e he => h e (by simp [he]))
 | .dead :: es, h => Facts_imm (H := es) fun e he => h e (by simp [he])
def appB (H : List Ent) (b : Nat) : Prop := (∃ T sz xs a n cap, Ent.app T sz xs a n cap ∈ H ∧ a.map Addr.block = some b) ∨ (∃ es c, Ent.mp b es c ∈ H) ∨ ∃ B F, Ent.fam B F ∈ H ∧ B b
theorem appB_mb {ρ : List Loc} {H : List Ent} {b : Nat} (h : appB H b) : mb ρ H b := by
 rcases h with ⟨T, sz, xs, a, n, cap, hm, hb⟩ | ⟨es, c, hm⟩ | ⟨B, F, hm, hb⟩
 ·obtain ⟨i, hi⟩ := List.getElem?_of_mem hm
  exact ⟨i, _, hi, hb⟩
 ·obtain ⟨i, hi⟩ := List.getElem?_of_mem hm
  exact ⟨i, _, hi, rfl⟩
 ·obtain ⟨i, hi⟩ := List.getElem?_of_mem hm
  exact ⟨i, _, hi, hb⟩
theorem Sat.imm {ρ : List Loc} {S : Nat → Prop} {H : List Ent} {w : World} (h : Sat ρ S H w) : Imm (fun b => S b ∨ appB H b) w (Facts H) :=
 Facts_imm (ρ := ρ) fun e he => by
  obtain ⟨i, hi⟩ := List.getElem?_of_mem he
  refine ⟨i, (h.ent i e hi).grow fun b hb => .inl hb, ?_⟩
  cases e with
  | app T sz xs a n cap => exact fun b hb => .inr (.inl ⟨T, sz, xs, a, n, cap, he, hb⟩)
  | mp b es c => exact .inr (.inr (.inl ⟨es, c, he⟩))
  | fam B F => exact fun b hb => .inr (.inr (.inr ⟨B, F, he, hb⟩))
  | _ => trivial
def FactsP : List Ent → World → Prop
 | [], _ => True
 | .fz T sz n xs b cap :: es, w => RowF T sz n xs b cap w ∧ FactsP es w
 | .fact F :: es, w => F w ∧ FactsP es w
 | _ :: es, w => FactsP es w
theorem FactsP_imm {ρ : List Loc} {S : Nat → Prop} {w : World} : ∀ {H : List Ent}, (∀ e ∈ H, ∃ i, EntOk ρ S w i e) → Imm S w (FactsP H)
 | [], _ => Imm.triv S w
 | .fact F :: es, h => by
  obtain ⟨i, hi⟩ := h (.fact F) (by simp)
  exact Imm.and hi (FactsP_imm fun e he => h e (by simp [he]))
 | .fz T sz n xs b cap :: es, h => by
  obtain ⟨i, hi⟩ := h (.fz T sz n xs b cap) (by simp)
  exact Imm.and hi.2 (FactsP_imm fun e he => h e (by simp [he]))
 | .blk .. :: es, h => FactsP_imm (H := es) fun e he => h e (by simp [he])
 | .row .. :: es, h => FactsP_imm (H := es) fun e he => h e (by simp [he])
 | .app .. :: es, h => FactsP_imm (H := es) fun e he => h e (by simp [he])
 | .mp .. :: es, h => FactsP_imm (H := es) fun e he => h e (by simp [he])
 | .fam .. :: es, h => FactsP_imm (H := es) fun e he => h e (by simp [he])
 | .dead :: es, h => FactsP_imm (H := es) fun e he => h e (by simp [he])
theorem Sat.immP {ρ : List Loc} {S : Nat → Prop} {H : List Ent} {w : World} (h : Sat ρ S H w) : Imm S w (FactsP H) :=
 FactsP_imm (ρ := ρ) fun e he => by
  obtain ⟨i, hi⟩ := List.getElem?_of_mem he
  exact ⟨i, h.ent i e hi⟩
structure SpecF (P : Program) (f : FuncId) (xs : List Value) (F : World → Prop) (R : Value → (World → Prop) → Prop) : Prop where
 ok : CallOk P f
 run : ∀ (S : Nat → Prop) (w : World), Imm S w F → (∀ b, S b → b < w.heap.size) → Calls P f xs.toArray w fun e w' =>
  ∃ v G S', e = .returned v ∧ R v G ∧ Imm S' w' G ∧ (∀ b, S' b → S b ∨ w.heap.size ≤ b) ∧ (∀ b, S' b → b < w'.heap.size) ∧ Below w.heap.size w w'
theorem below_ev {ρ : List Loc} {S S' : Nat → Prop} {H H' : List Ent} {w w' : World} (t : List Loc) (h : Below w.heap.size w w') (hS : ∀ b, S' b → S b ∨ w.heap.size ≤ b) (hm : ∀ b, mb (ρ ++ t) H' b → mb ρ H b) : Ev ρ S H w (ρ ++ t) S' H' w' :=
 ⟨⟨t, rfl⟩, h.os, h.tape, h.output, h.size, fun b hb _ => h.block b hb, fun b hb => (hS b hb).elim .inl fun h => .inr (.inr h), fun b hb => .inl (hm b hb)⟩
theorem Sat.below {ρ : List Loc} {S : Nat → Prop} {H : List Ent} {w w' : World} (hs : Sat ρ S H w) (h : Below w.heap.size w w') : Sat ρ S H w' :=
 ⟨hs.len, fun i e he => by
   have := (hs.ent i e he).move (w' := w') [] (fun b hb => h.block _ (hs.blk_lt he hb)) fun b hb => h.block b (hs.low b hb)
   simpa using this,
  hs.inj, hs.out, fun b hb => Nat.lt_of_lt_of_le (hs.low b hb) h.size⟩
theorem Sat.addFact {ρ : List Loc} {S S' : Nat → Prop} {H : List Ent} {w w' : World} {G : World → Prop} (hs : Sat ρ S H w) (h : Below w.heap.size w w') (hG : Imm S' w' G) (hS : ∀ b, S' b → S b ∨ w.heap.size ≤ b) (hl : ∀ b, S' b → b < w'.heap.size) :
  Sat (ρ ++ [⟨0, 0⟩]) (fun b => S b ∨ S' b) (H ++ [.fact G]) w' ∧ ∀ b, mb (ρ ++ [⟨0, 0⟩]) (H ++ [.fact G]) b → mb ρ H b := by
 have h1 := hs.below h
 have hcase : ∀ (i : Nat) (e : Ent), (H ++ [Ent.fact G])[i]? = some e → (i < H.length ∧ H[i]? = some e) ∨ e = .fact G := fun i e he => by
  by_cases hi : i < H.length
  ·rw [List.getElem?_append_left hi] at he; exact .inl ⟨hi, he⟩
  ·rw [List.getElem?_append_right (by omega)] at he
   have : i - H.length < 1 := by have := (List.getElem?_eq_some_iff.1 he).1; simpa using this
   have h0 : i - H.length = 0 := by omega
   rw [h0] at he
   simp at he
   exact .inr he.symm
 have hb2 : ∀ (i : Nat) (e : Ent) (b : Nat), (H ++ [Ent.fact G])[i]? = some e → entB (ρ ++ [⟨0, 0⟩]) i e b → H[i]? = some e ∧ entB ρ i e b := fun i e b he hb => by
  rcases hcase i e he with ⟨hi, he'⟩ | rfl
  ·rw [entB_pre _ (by rw [hs.len]; exact hi)] at hb
   exact ⟨he', hb⟩
  ·cases hb
 have hmb : ∀ b, mb (ρ ++ [⟨0, 0⟩]) (H ++ [.fact G]) b → mb ρ H b := by
  rintro b ⟨i, e, he, hb⟩
  exact ⟨i, e, hb2 i e b he hb⟩
 refine ⟨⟨by simp [hs.len], fun i e he => ?_, fun i j e f b he hf heb hfb => ?_, fun b hb hn => ?_, fun b hb => ?_⟩, hmb⟩
 ·rcases hcase i e he with ⟨hi, he'⟩ | rfl
  ·have := (hs.ent i e he').move (w' := w') [⟨0, 0⟩] (fun b hb => h.block _ (hs.blk_lt he' hb)) fun b hb => h.block b (hs.low b hb)
   exact this.grow fun b hb => .inl hb
  ·exact Imm.grow hG fun b hb => .inr hb
 ·have h1 := hb2 i e b he heb
  have h2 := hb2 j f b hf hfb
  exact hs.inj i j e f b h1.1 h2.1 h1.2 h2.2
 ·obtain ⟨i, e, he, heb⟩ := hmb b hb
  rcases hn with hn | hn
  ·exact hs.out _ ⟨i, e, he, heb⟩ hn
  ·rcases hS _ hn with h2 | h2
   ·exact hs.out _ ⟨i, e, he, heb⟩ h2
   ·have := hs.blk_lt he heb; omega
 ·rcases hb with hb | hb
  ·exact h1.low b hb
  ·exact hl b hb
theorem SpecF.call {P : Program} {f : FuncId} {xs : List Value} {F : World → Prop} {R : Value → (World → Prop) → Prop} {H : List Ent} {K : Out → List Ent → Prop} (h : SpecF P f xs F R) (hF : ∀ w, FactsP H w → F w)
  (hk : ∀ v G, R v G → snocK H (.fact G) 0 fun H' _ => K (.val (.c (.v v))) H') : SpecH P f (pvs xs) H K := by
 simp only [snocK_eq] at hk
 refine ⟨h.ok, fun ρ S w vs hs hr => ?_⟩
 obtain rfl := RelS_pvs hr
 refine (h.run S w (hs.immP.mono hF) hs.low).mono fun e w' ⟨v, G, S', he, hR, hG, hS, hlow, bel⟩ => ?_
 have hsat := hs.addFact bel hG hS hlow
 exact ⟨_, _, _, .val (.c (.v v)), hsat.1, below_ev [⟨0, 0⟩] bel (fun b hb => hb.elim .inl (hS b)) hsat.2, ⟨v, he, rfl⟩, hk v G hR⟩
theorem SpecF.call0 {P : Program} {f : FuncId} {xs : List Value} {F : World → Prop} {R : Value → (World → Prop) → Prop} {H : List Ent} {K : Out → List Ent → Prop} (h : SpecF P f xs F R) (hF : ∀ w, Facts H w → F w)
  (hk : ∀ v G, R v G → K (.val (.c (.v v))) H) : SpecH P f (pvs xs) H K := by
 refine ⟨h.ok, fun ρ S w vs hs hr => ?_⟩
 obtain rfl := RelS_pvs hr
 refine (h.run _ w (hs.imm.mono hF) (fun b hb => hb.elim (hs.low b) fun hb => by obtain ⟨i, e, he, heb⟩ := appB_mb (ρ := ρ) hb; exact hs.blk_lt he heb)).mono fun e w' ⟨v, G, S', he, hR, hG, hS, hlow, bel⟩ => ?_
 exact ⟨ρ, S, H, .val (.c (.v v)), hs.below bel, by simpa using below_ev (S := S) (S' := S) (ρ := ρ) (H := H) (H' := H) [] bel (fun b hb => .inl hb) (fun b hb => by simpa using hb), ⟨v, he, rfl⟩, hk v G hR⟩
def EntF (ρ : List Loc) (w : World) (i : Nat) : Ent → Prop
 | .blk T cs => ∃ l arr, ρ[i]? = some l ∧ w.heap[l.b]? = some (.cells arr T (0, 0)) ∧ RelL ρ cs arr.toList
 | .row T sz n cs => ∃ l arr, ρ[i]? = some l ∧ w.heap[l.b]? = some (.cells arr T (0, 0)) ∧ cs.length = n * sz ∧ n ≤ l.cap ∧ l.cap ≤ maxLen ∧ arr.size = l.cap * sz ∧ RelL ρ cs (arr.toList.take (n * sz))
 | .fact F => F w
 | .fz T sz n xs b cap => ρ[i]? = some ⟨b, cap⟩ ∧ RowF T sz n xs b cap w
 | .app T sz xs a n cap => (a = none ∧ n = 0 ∧ cap = 0 ∧ xs = []) ∨ ∃ b, a = some ⟨b, 0, none⟩ ∧ RowF T sz n xs b cap w
 | .mp b es c => w.heap[b]? = some (.map es c)
 | .fam _ F => F w
 | .dead => True
def All (ρ : List Loc) (H : List Ent) (w : World) : Prop := ∀ i e, H[i]? = some e → EntF ρ w i e
def Fin (R : Value → (World → Prop) → Prop) (out : Out) (H : List Ent) : Prop :=
 ∀ ρ v w0, All ρ H w0 → OutOk ρ out (.returned v) → ∃ G, R v G ∧ ∀ w, All ρ H w → G w
def notPan : Out → Prop
 | .pan _ => False
 | _ => True
theorem specF_of {P : Program} {f : FuncId} {xs : List Value} {F : World → Prop} {R : Value → (World → Prop) → Prop} (h : SpecH P f (pvs xs) [.fact F] fun out H' => notPan out ∧ Fin R out H') : SpecF P f xs F R := by
 refine ⟨h.ok, fun S w hF hlow => ?_⟩
 have nomb : ∀ b, ¬ mb [⟨0, 0⟩] [Ent.fact F] b := by
  rintro b ⟨i, e, he, ho⟩
  match i, he with
  | 0, he => simp at he; subst he; cases ho
 have hs : Sat [⟨0, 0⟩] S [.fact F] w := by
  refine ⟨rfl, fun i e he => ?_, fun i j e f b he hf heo => ?_, fun b hb => absurd hb (nomb b), hlow⟩
  ·match i, he with
   | 0, he => simp at he; subst he; exact hF
  ·match i, he with
   | 0, he => simp at he; subst he; cases heo
 refine (h.run _ S w xs hs (pvs_rel _ xs)).mono fun e w' ⟨ρ', S', H', out, hs', hev, hout, hn, hfin⟩ => ?_
 obtain ⟨v, rfl⟩ : ∃ v, e = .returned v := by
  cases out with
  | val av => obtain ⟨v, he, _⟩ := hout; exact ⟨v, he⟩
  | vals l => obtain ⟨v, he, _⟩ := hout; exact ⟨_, he⟩
  | pan c => exact hn.elim
 have hall : ∀ w'' : World, (∀ b, S' b ∨ mb ρ' H' b → w''.heap[b]? = w'.heap[b]?) → All ρ' H' w'' := fun w'' hw i e he => by
  have hk := hs'.ent i e he
  cases e with
  | blk T cs => obtain ⟨l, arr, hl, hb, hr⟩ := hk; exact ⟨l, arr, hl, by rw [hw l.b (.inr ⟨i, _, he, entB_own rfl hl⟩)]; exact hb, hr⟩
  | row T sz n cs => obtain ⟨l, arr, hl, hb, hr⟩ := hk; exact ⟨l, arr, hl, by rw [hw l.b (.inr ⟨i, _, he, entB_own rfl hl⟩)]; exact hb, hr⟩
  | fact F => exact hk.2 w'' fun b hb => hw b (.inl hb)
  | fz => exact ⟨hk.1, hk.2.2 w'' fun b hb => hw b (.inl hb)⟩
  | app T sz xs a n cap =>
   rcases hk with hk | ⟨b, rfl, hk⟩
   ·exact .inl hk
   ·exact .inr ⟨b, rfl, hk.move (hw b (.inr ⟨i, _, he, rfl⟩))⟩
  | mp b es c => exact (hw b (.inr ⟨i, _, he, rfl⟩)).trans hk
  | fam B F => exact hk.1.2 w'' fun b hb => hw b (.inr ⟨i, _, he, hb⟩)
  | dead => trivial
 obtain ⟨G, hR, hG⟩ := hfin ρ' v w' (hall w' fun _ _ => rfl) hout
 refine ⟨v, G, fun b => S' b ∨ mb ρ' H' b, rfl, hR, ⟨hG _ (hall w' fun _ _ => rfl), fun w'' hw => hG w'' (hall w'' hw)⟩, ?_, ?_, ⟨hev.os, hev.tape, hev.output, hev.size, fun b hb => hev.keep b hb (nomb b)⟩⟩
 ·rintro b (hb | hb)
  ·rcases hev.imm b hb with h | h | h
   ·exact .inl h
   ·exact absurd h (nomb b)
   ·exact .inr h
  ·rcases hev.own b hb with h | h
   ·exact absurd h (nomb b)
   ·exact .inr h
 ·rintro b (hb | hb)
  ·exact hs'.low b hb
  ·obtain ⟨i, e, he, heb⟩ := hb
   exact hs'.blk_lt he heb
theorem specF {P : Program} (hm : P.follows .mixedOrders = true) {f : FuncId} {fn : Func} {c : Code} (hf : P.funcs[f]? = some fn) (hn : (fn.name == "runtime.NumGoroutine") = false) (hb : fn.body = some c)
  {xs : List Value} (hl : Nat.ble (pvs xs).length fn.ntmps = true) {F : World → Prop} {R : Value → (World → Prop) → Prop} (h : initK fn.ntmps (pvs xs) fun s => exec P c s [.fact F] (endK P fn.results.toList fun out H' => notPan out ∧ Fin R out H')) : SpecF P f xs F R :=
 specF_of (spec_of_exec hm hf hn hb hl h)
theorem fin_v {R : Value → (World → Prop) → Prop} {x : Value} {H : List Ent} (h : R x fun _ => True) : notPan (.val (.c (.v x))) ∧ Fin R (.val (.c (.v x))) H :=
 ⟨trivial, fun _ v _ _ hv => by
  obtain ⟨_, e, hr⟩ := hv
  obtain rfl := Ending.returned.inj e
  have : v = x := hr
  subst this
  exact ⟨_, h, fun _ _ => trivial⟩⟩
theorem vs_only {ρ : List Loc} : ∀ {xs vs' : List Value}, RelL ρ (vs xs) vs' → vs' = xs
 | [], [], _ => rfl
 | x :: xs, v :: vs', h => by
  have h1 : v = x := h.1
  rw [h1, vs_only h.2]
 | [], _ :: _, h => h.elim
 | _ :: _, [], h => h.elim
theorem EntF.row {ρ : List Loc} {w : World} {i : Nat} {T : TypeId} {sz n : Nat} {xs : List Value} {l : Loc} (h : EntF ρ w i (.row T sz n (vs xs))) (hl : ρ[i]? = some l) : RowF T sz n xs l.b l.cap w := by
 obtain ⟨l', arr, hl', hb, h1, h2, h3, h4, hr⟩ := h
 obtain rfl := Option.some.inj (hl'.symm.trans hl)
 exact ⟨arr, (0, 0), ⟨hb, .inl rfl⟩, by rwa [vs_len] at h1, h2, h3, h4, vs_only hr⟩
theorem All.facts {ρ : List Loc} {H : List Ent} {w : World} (h : All ρ H w) : Facts H w := by
 refine Facts_of (ρ := ρ) (S := fun _ => True) fun e he => ?_
 obtain ⟨i, hi⟩ := List.getElem?_of_mem he
 have := h i e hi
 cases e with
 | fact F => exact this
 | fz => exact this.2
 | app T sz xs a n cap => exact appSl (ρ := ρ) (S := fun _ => True) (i := i) this
 | _ => trivial
theorem fin_p {R : Value → (World → Prop) → Prop} {x : Value} {H : List Ent} (G : World → Prop) (h : R x G) (hG : ∀ w, Facts H w → G w) : notPan (.val (.c (.v x))) ∧ Fin R (.val (.c (.v x))) H :=
 ⟨trivial, fun ρ v _ _ hv => by
  obtain ⟨_, e, hr⟩ := hv
  obtain rfl := Ending.returned.inj e
  have : v = x := hr
  subst this
  exact ⟨_, h, fun w hall => hG w hall.facts⟩⟩
def plainC (H : List Ent) : CV → Option Value
 | .v x => some x
 | .sl i m => match nthE H i with | some (.fz _ _ _ _ b cap) => some (.slice (some ⟨b, 0, none⟩) m cap) | _ => none
 | _ => none
def plainCs (H : List Ent) : List CV → Option (List Value)
 | [] => some []
 | c :: cs => match plainC H c, plainCs H cs with | some x, some xs => some (x :: xs) | _, _ => none
def plainA (H : List Ent) : AV → Option Value
 | .c c => plainC H c
 | .agg cs => match plainCs H cs with | some xs => some (.agg xs.toArray) | none => none
def plainAs (H : List Ent) : List AV → Option (List Value)
 | [] => some []
 | c :: cs => match plainA H c, plainAs H cs with | some x, some xs => some (x :: xs) | _, _ => none
theorem plainC_rel {ρ : List Loc} {S : Nat → Prop} {H : List Ent} {w : World} (hs : Sat ρ S H w) {c : CV} {x v : Value} (h : plainC H c = some x) (hr : c.rel ρ v) : v = x := by
 cases c with
 | any => cases h
 | v y => cases h; exact hr
 | lp => cases h
 | sl i m =>
  simp only [plainC] at h
  split at h
  ·rename_i T sz n xs b cap he
   cases h
   rw [nthE_eq] at he
   obtain ⟨l, hl, rfl⟩ := hr
   have hl2 := (hs.ent i _ he).1
   obtain rfl := Option.some.inj (hl.symm.trans hl2)
   rfl
  ·cases h
theorem plainCs_rel {ρ : List Loc} {S : Nat → Prop} {H : List Ent} {w : World} (hs : Sat ρ S H w) : ∀ {cs : List CV} {xs vs : List Value}, plainCs H cs = some xs → RelL ρ cs vs → vs = xs
 | [], xs, [], h, _ => by simp [plainCs] at h; exact h.symm
 | c :: cs, xs, v :: vs, h, hr => by
  simp only [plainCs] at h
  split at h
  ·rename_i x ys hx hy
   cases h
   rw [plainC_rel hs hx hr.1, plainCs_rel hs hy hr.2]
  ·cases h
 | [], _, _ :: _, _, hr => hr.elim
 | _ :: _, _, [], _, hr => hr.elim
theorem plainA_rel {ρ : List Loc} {S : Nat → Prop} {H : List Ent} {w : World} (hs : Sat ρ S H w) {a : AV} {x v : Value} (h : plainA H a = some x) (hr : a.rel ρ v) : v = x := by
 cases a with
 | c c => exact plainC_rel hs h hr
 | agg cs =>
  simp only [plainA] at h
  split at h
  ·rename_i xs hx
   cases h
   obtain ⟨ys, rfl, hy⟩ := hr
   rw [plainCs_rel hs hx hy]
  ·cases h
theorem plainAs_rel {ρ : List Loc} {S : Nat → Prop} {H : List Ent} {w : World} (hs : Sat ρ S H w) : ∀ {cs : List AV} {xs vs : List Value}, plainAs H cs = some xs → RelS ρ cs vs → vs = xs
 | [], xs, [], h, _ => by simp [plainAs] at h; exact h.symm
 | c :: cs, xs, v :: vs, h, hr => by
  simp only [plainAs] at h
  split at h
  ·rename_i x ys hx hy
   cases h
   rw [plainA_rel hs hx hr.1, plainAs_rel hs hy hr.2]
  ·cases h
 | [], _, _ :: _, _, hr => hr.elim
 | _ :: _, _, [], _, hr => hr.elim
theorem SpecH.plain {P : Program} {f : FuncId} {args : List AV} {H : List Ent} {K : Out → List Ent → Prop} {xs : List Value} (hx : plainAs H args = some xs) (h : SpecH P f (pvs xs) H K) : SpecH P f args H K :=
 ⟨h.ok, fun ρ S w vs hs hr => by
  obtain rfl := plainAs_rel hs hx hr
  exact h.run ρ S w vs hs (pvs_rel ρ vs)⟩
theorem loadVar_cell {P : Program} {T : TypeId} {w : World} {p : Addr} {x : Value} (hs : shapeT P T = some none) (hc : w.cell? p = some x) : (loadVar T p).run P w = .ok x w := by
 unfold shapeT at hs
 have key : ∀ d, P.underlying T = some d → isAggD d = false → (loadVar T p).run P w = .ok x w := fun d hd hf => by
  unfold loadVar
  rw [Sem.run_bind, run_isAgg hd, hf]
  simp [hc]
 cases hd : P.underlying T with
 | none => rw [hd] at hs; simp at hs
 | some d =>
  rw [hd] at hs
  cases d <;> first
   | exact key _ hd rfl
   | (simp only at hs; split at hs <;> simp at hs)
theorem loadVar_cells {P : Program} {T : TypeId} {n : Nat} {w : World} {p : Addr} {xs : List Value} (hs : shapeT P T = some (some n)) (hl : xs.length = n) (hc : ∀ j v, xs[j]? = some v → w.cell? (p.add j) = some v) : (loadVar T p).run P w = .ok (.agg xs.toArray) w := by
  unfold shapeT at hs
  have key : ∀ d i, P.underlying T = some d → P.info? T = some i → i.size = n → isAggD d = true → (loadVar T p).run P w = .ok (.agg xs.toArray) w := fun d i hd hi hn hf => by
    have hcells := run_loadCells_list (P := P) w p xs hc
    rw [hl] at hcells
    unfold loadVar
    rw [Sem.run_bind, run_isAgg hd, hf]
    simp [sizeOf, typeInfo, hi, hn, hcells]
  cases hd : P.underlying T with
  | none => rw [hd] at hs; simp at hs
  | some d =>
    rw [hd] at hs
    cases d <;> first
      | (simp at hs; done)
      | (simp only at hs
         split at hs
         · rename_i i hi
           simp at hs
           exact key _ i hd hi hs rfl
         · cases hs)
theorem SlAt.cell {a : Option Addr} {k : Nat} {xs : List Value} {w : World} (h : SlAt a k xs w) {q : Nat} {x : Value} (hx : xs[q]? = some x) : w.cell? ((a.getD default).add q) = some x := by
 have : q < k := by rw [← h.1]; exact (List.getElem?_eq_some_iff.1 hx).1
 rw [h.2.2 q this, hx]
theorem LdN.one {P : Program} {T : TypeId} {a : Option Addr} {q : Nat} {H : List Ent} {K : AV → Prop} {k : Nat} {xs : List Value} (x : Value) (hT : shapeT P T = some none) (hF : ∀ w, Facts H w → SlAt a k xs w) (hx : xs[q]? = some x)
  (next : forceV x fun x => K (.c (.v x))) : LdN P T (elemAddr a q) H K :=
 ⟨x, fun w hw => loadVar_cell hT ((hF w hw).cell hx), next⟩
theorem LdN.fld {P : Program} {T : TypeId} {a : Option Addr} {q fo : Nat} {H : List Ent} {K : AV → Prop} {k : Nat} {xs : List Value} (x : Value) (hT : shapeT P T = some none) (hF : ∀ w, Facts H w → SlAt a k xs w) (hx : xs[q + fo]? = some x)
  (next : forceV x fun x => K (.c (.v x))) : LdN P T ((elemAddr a q).add fo) H K :=
 ⟨x, fun w hw => loadVar_cell hT (by rw [elemAddr, Addr.add_add]; exact (hF w hw).cell hx), next⟩
theorem LdN.agg {P : Program} {T : TypeId} {a : Option Addr} {q n : Nat} {H : List Ent} {K : AV → Prop} {k : Nat} {xs : List Value} (ys : List Value) (hT : shapeT P T = some (some n)) (hF : ∀ w, Facts H w → SlAt a k xs w) (hl : ys.length = n)
  (hx : ∀ j, j < n → xs[q + j]? = ys[j]?) (next : K (.c (.v (.agg ys.toArray)))) : LdN P T (elemAddr a q) H K :=
 ⟨.agg ys.toArray, fun w hw => loadVar_cells hT hl fun j v hv => by
  have hj : j < n := by rw [← hl]; exact (List.getElem?_eq_some_iff.1 hv).1
  rw [elemAddr, Addr.add_add]
  exact (hF w hw).cell ((hx j hj).trans hv), next⟩
end Go.AX
namespace Go.AX
def rnI : List Nat → Nat → Nat → Nat
 | [], N, j => N + j
 | s :: _, _, 0 => s
 | _ :: σ, N, j + 1 => rnI σ N j
def rnC (σ : List Nat) (N : Nat) : CV → CV
 | .lp i o => .lp (rnI σ N i) o
 | .sl i n => .sl (rnI σ N i) n
 | c => c
def rnCs (σ : List Nat) (N : Nat) : List CV → List CV
 | [] => []
 | c :: cs => rnC σ N c :: rnCs σ N cs
def rnA (σ : List Nat) (N : Nat) : AV → AV
 | .c c => .c (rnC σ N c)
 | .agg cs => .agg (rnCs σ N cs)
def rnS (σ : List Nat) (N : Nat) : List AV → List AV
 | [] => []
 | a :: s => rnA σ N a :: rnS σ N s
def rnE (σ : List Nat) (N : Nat) : Ent → Ent
 | .blk T cs => .blk T (rnCs σ N cs)
 | .row T sz n cs => .row T sz n (rnCs σ N cs)
 | e => e
def rnO (σ : List Nat) (N : Nat) : Out → Out
 | .val a => .val (rnA σ N a)
 | .vals l => .vals (rnS σ N l)
 | .pan c => .pan c
def mrg (f : Ent → Ent) : List Nat → List Ent → List Ent → (List Ent → Prop) → Prop
 | [], [], H, K => K H
 | [], e :: es, H, K => snocK H (f e) 0 fun H' _ => mrg f [] es H' K
 | s :: σ, e :: es, H, K => setEK H s (f e) fun H' => mrg f σ es H' K
 | _ :: _, [], _, _ => False
def part (σ : List Nat) (N : Nat) (H : List Ent) : List Nat → List Ent → Prop
 | [], [] => True
 | s :: τ, e :: es => nthE H s = some (rnE σ N e) ∧ part σ N H τ es
 | _, _ => False
def ndB : List Nat → Bool
 | [] => true
 | s :: σ => !(σ.any (Nat.beq s)) && ndB σ
theorem ndB_nodup : ∀ {σ : List Nat}, ndB σ = true → σ.Nodup
 | [], _ => List.nodup_nil
 | s :: σ, h => by
  simp only [ndB, Bool.and_eq_true, Bool.not_eq_true', List.any_eq_false] at h
  exact List.nodup_cons.2 ⟨fun hm => h.1 s hm (by simp), ndB_nodup h.2⟩
theorem rnI_get : ∀ {σ : List Nat} {N j s : Nat}, σ[j]? = some s → rnI σ N j = s
 | _ :: _, _, 0, s, h => by simpa [rnI] using h
 | _ :: σ, N, j + 1, s, h => by simpa [rnI] using rnI_get (σ := σ) (N := N) (by simpa using h)
 | [], _, _, _, h => by simp at h
theorem rnI_new : ∀ (σ : List Nat) (N j : Nat), rnI σ N (σ.length + j) = N + j
 | [], N, j => by simp [rnI]
 | _ :: σ, N, j => by
  rw [show (List.length (_ :: σ)) + j = (σ.length + j) + 1 by simp; omega]
  simpa [rnI] using rnI_new σ N j
section
variable {σ : List Nat} {N : Nat} {ρ ρ' : List Loc}
theorem rnC_rel (h : ∀ j, ρ'[rnI σ N j]? = ρ[j]?) (c : CV) (v : Value) : (rnC σ N c).rel ρ' v ↔ c.rel ρ v := by
 cases c <;> simp only [rnC, CV.rel, h]
theorem rnCs_rel (h : ∀ j, ρ'[rnI σ N j]? = ρ[j]?) : ∀ (cs : List CV) (vs : List Value), RelL ρ' (rnCs σ N cs) vs ↔ RelL ρ cs vs
 | [], [] => Iff.rfl
 | [], _ :: _ => Iff.rfl
 | _ :: _, [] => Iff.rfl
 | c :: cs, v :: vs => by simp only [rnCs, RelL, rnC_rel h, rnCs_rel h cs vs]
theorem rnA_rel (h : ∀ j, ρ'[rnI σ N j]? = ρ[j]?) (a : AV) (v : Value) : (rnA σ N a).rel ρ' v ↔ a.rel ρ v := by
 cases a with
 | c c => exact rnC_rel h c v
 | agg cs => simp only [rnA, AV.rel, rnCs_rel h]
theorem rnS_rel (h : ∀ j, ρ'[rnI σ N j]? = ρ[j]?) : ∀ (cs : List AV) (vs : List Value), RelS ρ' (rnS σ N cs) vs ↔ RelS ρ cs vs
 | [], [] => Iff.rfl
 | [], _ :: _ => Iff.rfl
 | _ :: _, [] => Iff.rfl
 | c :: cs, v :: vs => by simp only [rnS, RelS, rnA_rel h, rnS_rel h cs vs]
theorem rnCs_len : ∀ cs : List CV, (rnCs σ N cs).length = cs.length
 | [] => rfl
 | _ :: cs => by simp [rnCs, rnCs_len cs]
theorem rnE_ok (h : ∀ j, ρ'[rnI σ N j]? = ρ[j]?) (S : Nat → Prop) (w : World) (j : Nat) (e : Ent) : EntOk ρ' S w (rnI σ N j) (rnE σ N e) ↔ EntOk ρ S w j e := by
 cases e <;> simp only [rnE, EntOk, rnCs_rel h, h, rnCs_len]
theorem rnE_blk (h : ∀ j, ρ'[rnI σ N j]? = ρ[j]?) (j : Nat) (e : Ent) : entB ρ' (rnI σ N j) (rnE σ N e) = entB ρ j e := by
 cases e <;> simp only [rnE, entB, h]
end
theorem part_get {σ : List Nat} {N : Nat} {H : List Ent} : ∀ {τ : List Nat} {es : List Ent}, part σ N H τ es → τ.length = es.length ∧ ∀ (j : Nat) (s : Nat) (e : Ent), τ[j]? = some s → es[j]? = some e → H[s]? = some (rnE σ N e)
 | [], [], _ => ⟨rfl, fun j s e h => by simp at h⟩
 | s :: τ, e :: es, h => by
  obtain ⟨h1, h2⟩ := part_get (τ := τ) (es := es) h.2
  refine ⟨by simp [h1], fun j s' e' hs he => ?_⟩
  cases j with
  | zero => simp at hs he; subst hs; subst he; rw [← nthE_eq]; exact h.1
  | succ j => exact h2 j s' e' (by simpa using hs) (by simpa using he)
 | [], _ :: _, h => h.elim
 | _ :: _, [], h => h.elim
theorem mrg_spec (f : Ent → Ent) : ∀ {σ : List Nat} {es H : List Ent} {K : List Ent → Prop}, σ.Nodup → mrg f σ es H K →
  ∃ H', K H' ∧ σ.length ≤ es.length ∧ H'.length = H.length + (es.length - σ.length) ∧ (∀ s ∈ σ, s < H.length) ∧
   (∀ (j : Nat) (e : Ent), es[j]? = some e → H'[rnI σ H.length j]? = some (f e)) ∧ ∀ i, i < H.length → i ∉ σ → H'[i]? = H[i]?
 | [], [], H, K, _, h => ⟨H, h, Nat.le_refl _, by simp, fun _ h => by simp at h, fun j e h => by simp at h, fun _ _ _ => rfl⟩
 | [], e :: es, H, K, _, h => by
  simp only [mrg] at h
  rw [snocK_eq] at h
  obtain ⟨H', hK, _, hl, _, hj, hi⟩ := mrg_spec f (σ := []) List.nodup_nil h
  refine ⟨H', hK, by simp, by simp at hl ⊢; omega, fun _ h => by simp at h, fun j e' he => ?_, fun i hi' _ => ?_⟩
  ·cases j with
   | zero =>
    simp at he; subst he
    simp only [rnI, Nat.add_zero]
    rw [hi H.length (by simp) (by simp)]; simp
   | succ j =>
    have := hj j e' (by simpa using he)
    simp only [rnI, List.length_append, List.length_cons, List.length_nil] at this ⊢
    rw [show H.length + (j + 1) = H.length + (0 + 1) + j by omega]; exact this
  ·rw [hi i (by simp; omega) (by simp), List.getElem?_append_left hi']
 | s :: σ, e :: es, H, K, hn, h => by
  simp only [mrg] at h
  obtain ⟨hs, h⟩ := setEK_spec h
  obtain ⟨hn1, hn2⟩ := List.nodup_cons.1 hn
  obtain ⟨H', hK, hlen, hl, hlt, hj, hi⟩ := mrg_spec f (σ := σ) hn2 h
  rw [List.length_set] at hl hlt hj hi
  refine ⟨H', hK, by simp; omega, by simp at hl ⊢; omega, fun t ht => ?_, fun j e' he => ?_, fun i hi' hni => ?_⟩
  ·cases ht with
   | head => exact hs
   | tail _ ht => exact hlt t ht
  ·cases j with
   | zero =>
    simp at he; subst he
    simp only [rnI]
    rw [hi s hs hn1]; simp [hs]
   | succ j => exact hj j e' (by simpa using he)
  ·simp only [List.mem_cons, not_or] at hni
   rw [hi i hi' hni.2, List.getElem?_set_ne (Ne.symm hni.1)]
 | _ :: _, [], _, _, _, h => h.elim
theorem SpecH.at {P : Program} {f : FuncId} {args0 : List AV} {H0 : List Ent} {K0 : Out → List Ent → Prop} (h : SpecH P f args0 H0 K0) (σ : List Nat) {args : List AV} {H : List Ent} {K : Out → List Ent → Prop}
  (hn : ndB σ = true) (hp : part σ H.length H σ H0) (ha : args = rnS σ H.length args0)
  (hk : ∀ out H', K0 out H' → mrg (rnE σ H.length) σ H' H fun G => K (rnO σ H.length out) G) : SpecH P f args H K := by
 subst ha
 refine ⟨h.ok, fun ρ S w vs hs hr => ?_⟩
 have nd := ndB_nodup hn
 obtain ⟨hlen, hget⟩ := part_get hp
 generalize hN : H.length = N at *
 have hρN : ρ.length = N := by rw [hs.len, hN]
 have hσlt : ∀ (j s : Nat), σ[j]? = some s → s < N := fun j s hj => by
  have hj2 : j < H0.length := by rw [← hlen]; exact (List.getElem?_eq_some_iff.1 hj).1
  have := hget j s _ hj (List.getElem?_eq_getElem hj2)
  rw [← hN]; exact (List.getElem?_eq_some_iff.1 this).1
 have hρ0 : ∃ ρ0 : List Loc, ρ0.length = σ.length ∧ ∀ (j s : Nat), σ[j]? = some s → ρ0[j]? = ρ[s]? := by
  refine ⟨σ.map fun s => ρ.getD s ⟨0, 0⟩, by simp, fun j s hj => ?_⟩
  have hs' := hσlt j s hj
  rw [List.getElem?_map, hj, Option.map_some, List.getD_eq_getElem?_getD, List.getElem?_eq_getElem (by omega)]
  rfl
 obtain ⟨ρ0, hρl, hρg⟩ := hρ0
 have hre : ∀ j, ρ[rnI σ N j]? = ρ0[j]? := fun j => by
  by_cases hj : j < σ.length
  ·have hj' := List.getElem?_eq_getElem hj
   rw [rnI_get hj', ← hρg j _ hj']
  ·obtain ⟨k, rfl⟩ : ∃ k, j = σ.length + k := ⟨j - σ.length, by omega⟩
   rw [rnI_new, List.getElem?_eq_none (by omega), List.getElem?_eq_none (by omega)]
 have hidx : ∀ (j : Nat) (e : Ent), H0[j]? = some e → ∃ s, σ[j]? = some s ∧ rnI σ N j = s ∧ H[s]? = some (rnE σ N e) := fun j e he => by
  have hj : j < σ.length := by rw [hlen]; exact (List.getElem?_eq_some_iff.1 he).1
  have hj' := List.getElem?_eq_getElem hj
  exact ⟨_, hj', rnI_get hj', hget j _ e hj' he⟩
 have hsat0 : Sat ρ0 S H0 w := by
  refine ⟨by omega, fun j e he => ?_, fun i j e f b he hf heb hfb => ?_, fun b hb => ?_, hs.low⟩
  ·obtain ⟨s, _, h2, h3⟩ := hidx j e he
   have := hs.ent s _ h3
   rw [← h2] at this
   exact (rnE_ok hre S w j e).1 this
  ·obtain ⟨s, a1, a2, a3⟩ := hidx i e he
   obtain ⟨t, b1, b2, b3⟩ := hidx j f hf
   have e1 : entB ρ s (rnE σ N e) b := by rw [← a2, rnE_blk hre]; exact heb
   have e2 : entB ρ t (rnE σ N f) b := by rw [← b2, rnE_blk hre]; exact hfb
   have := hs.inj s t _ _ b a3 b3 e1 e2
   subst this
   have hi' : i < σ.length := (List.getElem?_eq_some_iff.1 a1).1
   exact (List.getElem?_inj hi' nd).1 (a1.trans b1.symm)
  ·obtain ⟨j, e, he, heb⟩ := hb
   obtain ⟨s, _, h2, h3⟩ := hidx j e he
   exact hs.out b ⟨s, _, h3, by rw [← h2, rnE_blk hre]; exact heb⟩
 have hmb0 : ∀ b, mb ρ0 H0 b → ∃ s ∈ σ, ∃ e, H[s]? = some e ∧ entB ρ s e b := fun b ⟨j, e, he, heb⟩ => by
  obtain ⟨s, h1, h2, h3⟩ := hidx j e he
  exact ⟨s, List.mem_of_getElem? h1, _, h3, by rw [← h2, rnE_blk hre]; exact heb⟩
 refine (h.run ρ0 S w vs hsat0 ((rnS_rel hre _ _).1 hr)).mono fun e w' ⟨ρ0', S', H0', out, hs', hev, hout, hK⟩ => ?_
 obtain ⟨G, hG, hσl, hGl, _, hGj, hGi⟩ := mrg_spec (rnE σ N) nd (hk out H0' hK)
 rw [hN] at hGl hGj hGi
 obtain ⟨t, ht⟩ := hev.pre
 have hl' : H0'.length = σ.length + t.length := by rw [← hs'.len, ht, List.length_append, hρl]
 have hre' : ∀ j, (ρ ++ t)[rnI σ N j]? = ρ0'[j]? := fun j => by
  rw [ht]
  by_cases hj : j < σ.length
  ·have hj' := List.getElem?_eq_getElem hj
   have hlt := hσlt j _ hj'
   rw [rnI_get hj', List.getElem?_append_left (by omega), List.getElem?_append_left (by omega), ← hρg j _ hj']
  ·obtain ⟨k, rfl⟩ : ∃ k, j = σ.length + k := ⟨j - σ.length, by omega⟩
   rw [rnI_new, List.getElem?_append_right (by omega), List.getElem?_append_right (by omega), hρN, hρl]
   congr 1; omega
 have hcase : ∀ (i : Nat) (f : Ent), G[i]? = some f → (∃ j e, H0'[j]? = some e ∧ i = rnI σ N j ∧ f = rnE σ N e) ∨ (i < N ∧ i ∉ σ ∧ H[i]? = some f) := fun i f hf => by
  by_cases hi : i < N
  ·by_cases him : i ∈ σ
   ·obtain ⟨j, hj⟩ := List.getElem?_of_mem him
    have hjl : j < H0'.length := by have := (List.getElem?_eq_some_iff.1 hj).1; omega
    have he := List.getElem?_eq_getElem hjl
    have h1 := hGj j _ he
    rw [rnI_get hj] at h1
    exact .inl ⟨j, _, he, (rnI_get hj).symm, Option.some.inj (hf.symm.trans h1)⟩
   ·exact .inr ⟨hi, him, (hGi i hi him) ▸ hf⟩
  ·have hil : i < G.length := (List.getElem?_eq_some_iff.1 hf).1
   have hjl : σ.length + (i - N) < H0'.length := by omega
   have he := List.getElem?_eq_getElem hjl
   have h1 := hGj _ _ he
   have hi2 : rnI σ N (σ.length + (i - N)) = i := by rw [rnI_new]; omega
   rw [hi2] at h1
   exact .inl ⟨_, _, he, hi2.symm, Option.some.inj (hf.symm.trans h1)⟩
 have houter : ∀ (i : Nat) (f : Ent) (b : Nat), i < N → i ∉ σ → H[i]? = some f → entB (ρ ++ t) i f b → entB ρ i f b ∧ b < w.heap.size ∧ ¬ mb ρ0 H0 b := fun i f b hi hni hf hfb => by
  rw [entB_pre _ (by omega)] at hfb
  refine ⟨hfb, hs.blk_lt hf hfb, fun hm => ?_⟩
  obtain ⟨s, hsσ, e', he', heb⟩ := hmb0 b hm
  exact hni (hs.inj i s f e' b hf he' hfb heb ▸ hsσ)
 have hnS : ∀ b, S b → b < w.heap.size ∧ ¬ mb ρ0 H0 b := fun b hb => ⟨hs.low b hb, fun hm => hsat0.out b hm hb⟩
 have hmbG : ∀ b, mb (ρ ++ t) G b → mb ρ H b ∨ w.heap.size ≤ b := fun b ⟨i, f, hf, hfb⟩ => by
  rcases hcase i f hf with ⟨j, e, he, rfl, rfl⟩ | ⟨hi, hni, hf'⟩
  ·rw [rnE_blk hre'] at hfb
   rcases hev.own b ⟨j, e, he, hfb⟩ with h1 | h1
   ·obtain ⟨s, _, e', he', heb⟩ := hmb0 b h1
    exact .inl ⟨s, e', he', heb⟩
   ·exact .inr h1
  ·exact .inl ⟨i, f, hf', (houter i f b hi hni hf' hfb).1⟩
 refine ⟨ρ ++ t, fun b => S b ∨ S' b, G, rnO σ N out, ⟨?_, fun i f hf => ?_, fun i j f g b hf hg hfb hgb => ?_, fun b hb hSb => ?_, fun b hb => ?_⟩,
  ⟨⟨t, rfl⟩, hev.os, hev.tape, hev.output, hev.size, fun b hb hn => hev.keep b hb fun hm => ?_, fun b hb => ?_, hmbG⟩, ?_, hG⟩
 ·rw [List.length_append, hρN, hGl]; omega
 ·rcases hcase i f hf with ⟨j, e, he, rfl, rfl⟩ | ⟨hi, hni, hf'⟩
  ·exact ((rnE_ok hre' S' w' j e).2 (hs'.ent j e he)).grow fun b hb => .inr hb
  ·refine ((hs.ent i f hf').move t (fun b hb => ?_) fun b hb => ?_).grow fun b hb => .inl hb
   ·have := houter i f b hi hni hf' (by rw [entB_pre _ (by omega)]; exact hb)
    exact hev.keep b this.2.1 this.2.2
   ·exact hev.keep b (hnS b hb).1 (hnS b hb).2
 ·rcases hcase i f hf with ⟨i', e, he, rfl, rfl⟩ | ⟨hi, hni, hf'⟩ <;> rcases hcase j g hg with ⟨j', e', he', rfl, rfl⟩ | ⟨hj, hnj, hg'⟩
  ·rw [rnE_blk hre'] at hfb hgb
   rw [hs'.inj i' j' e e' b he he' hfb hgb]
  ·rw [rnE_blk hre'] at hfb
   have := houter j g b hj hnj hg' hgb
   rcases hev.own b ⟨i', e, he, hfb⟩ with h1 | h1
   ·exact absurd h1 this.2.2
   ·omega
  ·rw [rnE_blk hre'] at hgb
   have := houter i f b hi hni hf' hfb
   rcases hev.own b ⟨j', e', he', hgb⟩ with h1 | h1
   ·exact absurd h1 this.2.2
   ·omega
  ·exact hs.inj i j f g b hf' hg' (houter i f b hi hni hf' hfb).1 (houter j g b hj hnj hg' hgb).1
 ·obtain ⟨i, f, hf, hfb⟩ := hb
  rcases hcase i f hf with ⟨j, e, he, rfl, rfl⟩ | ⟨hi, hni, hf'⟩
  ·rw [rnE_blk hre'] at hfb
   rcases hSb with hSb | hSb
   ·rcases hev.own b ⟨j, e, he, hfb⟩ with h1 | h1
    ·exact (hnS b hSb).2 h1
    ·have := (hnS b hSb).1; omega
   ·exact hs'.out b ⟨j, e, he, hfb⟩ hSb
  ·have h1 := houter i f b hi hni hf' hfb
   rcases hSb with hSb | hSb
   ·exact hs.out b ⟨i, f, hf', h1.1⟩ hSb
   ·rcases hev.imm b hSb with h2 | h2 | h2
    ·exact hs.out b ⟨i, f, hf', h1.1⟩ h2
    ·exact h1.2.2 h2
    ·omega
 ·rcases hb with hb | hb
  ·exact Nat.lt_of_lt_of_le (hs.low b hb) hev.size
  ·exact hs'.low b hb
 ·obtain ⟨s, _, e', he', heb⟩ := hmb0 b hm
  exact hn ⟨s, e', he', heb⟩
 ·rcases hb with hb | hb
  ·exact .inl hb
  ·rcases hev.imm b hb with h1 | h1 | h1
   ·exact .inl h1
   ·obtain ⟨s, _, e', he', heb⟩ := hmb0 b h1
    exact .inr (.inl ⟨s, e', he', heb⟩)
   ·exact .inr (.inr h1)
 ·cases out with
  | val a => obtain ⟨v, he, hv⟩ := hout; exact ⟨v, he, (rnA_rel hre' a v).2 hv⟩
  | vals l => obtain ⟨xs, he, hv⟩ := hout; exact ⟨xs, he, (rnS_rel hre' l xs).2 hv⟩
  | pan c => exact hout
end Go.AX
namespace Go.AX
open Go.RowKit
theorem SpecH.rawP {P : Program} {f : FuncId} {xs : List Value} {H : List Ent} {K : Out → List Ent → Prop} {R : Value → Prop} (ok : CallOk P f)
  (h : ∀ w, Facts H w → Calls P f xs.toArray w fun e w' => ∃ r, e = .returned r ∧ R r ∧ Below w.heap.size w w') (hk : ∀ r, R r → K (.val (.c (.v r))) H) : SpecH P f (pvs xs) H K := by
 refine ⟨ok, fun ρ S w vs hs hr => ?_⟩
 obtain rfl := RelS_pvs hr
 refine (h w hs.facts).mono fun e w' ⟨r, he, hR, bel⟩ => ?_
 exact ⟨ρ, S, H, .val (.c (.v r)), hs.below bel, by simpa using below_ev (S := S) (S' := S) (ρ := ρ) (H := H) (H' := H) [] bel (fun b hb => .inl hb) (fun b hb => by simpa using hb), ⟨r, he, rfl⟩, hk r hR⟩
theorem callOk {P : Program} {f : FuncId} {fn : Func} (hf : P.funcs[f]? = some fn) (hn : (fn.name == "runtime.NumGoroutine") = false) (hb : fn.body.isSome = true) : CallOk P f := ⟨fn, hf, hn, hb⟩
theorem factC {P : Program} (hm : P.follows .mixedOrders = true) {f : FuncId} {fn : Func} {c : Code} (hf : P.funcs[f]? = some fn) (hn : (fn.name == "runtime.NumGoroutine") = false) (hb : fn.body = some c)
  {xs : List Value} (hl : Nat.ble (pvs xs).length fn.ntmps = true) {F : World → Prop} {r : Value} (h : initK fn.ntmps (pvs xs) fun s => exec P c s [.fact F] (endK P fn.results.toList fun out _ => out = .val (.c (.v r)))) (H : List Ent) (hF : ∀ w, Facts H w → F w) : SpecH P f (pvs xs) H (Ret r H) :=
 SpecF.call0 (R := fun v _ => v = r) (specF_of ((spec_of_exec hm hf hn hb hl h).mono fun out H' ho => by subst ho; exact fin_v rfl)) hF fun v G hv => by subst hv; exact ⟨rfl, rfl⟩
theorem brdF {b : Bool} {A B : Prop} (h : b = false) (hB : B) : brd b A B := by subst h; exact hB
theorem brdT {b : Bool} {A B : Prop} (h : b = true) (hA : A) : brd b A B := by subst h; exact hA
end Go.AX
namespace Go.AX
open Go.ChangeShapes Go.WideShapes Go.ChangeAt Go.RowKit
section
variable {H : Type} {enc : TypeId × Value → H} {P : Program}
theorem trodAll_len {w : World} {base : Nat} {sp : Nat → Bool} {held : Bool} : ∀ {ts : List TypeId} {vs : List Value} {ds : List (DataW H)} {ps : List MemPlace}, DataW.TrodAll enc P w base sp held ts vs ds ps → ds.length = ts.length ∧ vs.length = ts.length
 | [], [], [], _, _ => ⟨rfl, rfl⟩
 | t :: ts, v :: vs, d :: ds, _, ⟨_, _, _, h, _⟩ => by have := trodAll_len h; simp [this]
 | [], _ :: _, _, _, h => h.elim
 | [], [], _ :: _, _, h => h.elim
 | _ :: _, [], _, _, h => h.elim
 | _ :: _, _ :: _, [], _, h => h.elim
theorem trodAll_keep (hl : laidOutB P = true) {W W' : World} (hb : Below W.heap.size W W') : ∀ {ts : List TypeId} {vs : List Value} {ds : List (DataW H)} {ps : List MemPlace},
  (ts.all fun t => P.readableRec t && decide (t < P.types.size)) = true → DataW.TrodAll enc P W 0 (fun _ => true) true ts vs ds ps → DataW.TrodAll enc P W' 0 (fun b => decide (b < W.heap.size)) true ts vs ds ps
 | [], [], [], _, _, h => h
 | t :: ts, v :: vs, d :: ds, _, hp, ⟨p, q, h1, h2, e⟩ => by
  simp only [List.all_cons, Bool.and_eq_true, decide_eq_true_eq] at hp
  have lt : ∀ x ∈ p, x.block < W.heap.size := by obtain ⟨m, hm⟩ := h1; exact DataW.trod_lt m _ _ _ hm
  exact ⟨p, q, Below.trod hl hp.1.1 hp.1.2 h1 hb lt, trodAll_keep hl hb (by simpa using hp.2) h2, e⟩
 | [], _ :: _, _, _, _, h => h.elim
 | [], [], _ :: _, _, _, h => h.elim
 | _ :: _, [], _, _, _, h => h.elim
 | _ :: _, _ :: _, [], _, _, h => h.elim
def Walk (P : Program) (f : FuncId) (args : Array Value) (W : World) : Prop :=
 Calls P f args W fun e W' => e = .returned (.bool true) ∧ Below W.heap.size W W'
structure Known (enc : TypeId × Value → H) (P : Program) (fn : Func) (W : World) (base : Nat) (args : Array Value) (ds : List (DataW H)) (p : List MemPlace) : Prop where
 val : ∀ (j : Nat) t v, fn.params[j]? = some t → args[j]? = some v → Value.okWide P W .any base t v
 trod : DataW.TrodAll enc P W 0 (fun _ => true) true fn.params.toList args.toList ds p
 weights : (DataW.weightsEach P fn.params.toList ds).all (· ≤ reachBytes) = true
 shaped : W.ShapedOpen P
end
end Go.AX
namespace Go.AX
theorem arr2 {α : Type} {a : Array α} (h : a.toList.length = 2) : ∃ x y, a = #[x, y] := by
 match a, h with
 | ⟨[x, y]⟩, _ => exact ⟨x, y, rfl⟩
end Go.AX
namespace Go.AX
open Go.ChangeShapes Go.WideShapes Go.ChangeAt Go.RowKit
theorem cell?_keep {w w' : World} {a : Addr} {x : Value} (h : w.cell? a = some x) (hb : w'.heap[a.block]? = w.heap[a.block]?) : w'.cell? a = some x := by
 simp only [World.cell?] at h ⊢
 rw [hb]; exact h
theorem cell?_lt {w : World} {a : Addr} {x : Value} (h : w.cell? a = some x) : a.block < w.heap.size := by
 simp only [World.cell?] at h
 rcases hc : w.heap[a.block]? with _ | o
 ·rw [hc] at h; cases h
 ·exact (Array.getElem?_eq_some_iff.1 hc).1
theorem walkH {P : Program} {f : FuncId} {vs : List Value} {w : World} (H : List Ent) (hF : ∀ e ∈ H, ∃ F, e = .fact F ∧ Imm (fun b => b < w.heap.size) w F)
  (h : SpecH P f (pvs vs) H (Ret (.bool true) H)) : Walk P f vs.toArray w := by
 have hn : ∀ (ρ : List Loc) (i : Nat) (e : Ent) (b : Nat), H[i]? = some e → entB ρ i e b → False := fun ρ i e b he hb => by
  obtain ⟨F, rfl, _⟩ := hF e (List.mem_of_getElem? he)
  cases hb
 have hm : ∀ (ρ : List Loc) b, ¬ mb ρ H b := fun ρ b ⟨i, e, he, hb⟩ => hn ρ i e b he hb
 have hs : Sat (H.map fun _ => ⟨0, 0⟩) (fun b => b < w.heap.size) H w := by
  refine ⟨by simp, fun i e he => ?_, fun i j e f b he hf hb _ => (hn _ i e b he hb).elim, fun b hb => (hm _ b hb).elim, fun b hb => hb⟩
  obtain ⟨F, rfl, hi⟩ := hF e (List.mem_of_getElem? he)
  exact hi
 refine (h.run _ _ w vs hs (pvs_rel _ vs)).mono fun e w' ⟨ρ', S', H', out, hs', hev, hout, hx, hH⟩ => ?_
 subst hx
 obtain ⟨v, rfl, hv⟩ := hout
 have : v = .bool true := hv
 subst this
 exact ⟨rfl, hev.os, hev.tape, hev.output, hev.size, fun b hb => hev.keep b hb (hm _ b)⟩
section
variable {H : Type} {enc : TypeId × Value → H} {P : Program} {w : World}
theorem known_string {t : TypeId} {v : Value} {d : DataW H} {ps : List MemPlace} {ts : List TypeId} {ds : List (DataW H)} {j : Nat} (ht : P.underlying t = some .string)
  (hsz : (DataW.weightsEach P ts ds).all (· ≤ reachBytes) = true) (hj : ts[j]? = some t) (hd : ds[j]? = some d)
  {r : Reach} {b : Nat} (hv : Value.okWide P w r b t v) (h : DataW.Trod enc P w 0 (fun _ => true) true t v d ps) : ∃ s : ByteArray, v = .string s ∧ s.size ≤ 200000000000000 := by
 obtain ⟨s, rfl⟩ := okWide_string ht hv
 obtain ⟨fuel, hf⟩ := h
 obtain ⟨s, h1, h2, hw⟩ := DataW.trod_string ht hf
 simp only [Prod.mk.injEq] at h2
 rw [h2.1] at hd
 have hs := sized_string hsz hj hd
 have hr : reachBytes < 200000000000000 := by decide
 refine ⟨s, ?_, ?_⟩
 ·simpa [Value.cells] using h1
 ·have : s.size = s.data.toList.length := rfl
  omega
theorem trodAll_get {base : Nat} {sp : Nat → Bool} {held : Bool} : ∀ {ts : List TypeId} {vs : List Value} {ds : List (DataW H)} {ps : List MemPlace}, DataW.TrodAll enc P w base sp held ts vs ds ps →
  ∀ (j : Nat) t v, ts[j]? = some t → vs[j]? = some v → ∃ d p, ds[j]? = some d ∧ DataW.Trod enc P w base sp held t v d p
 | [], [], [], _, _, j, t, v, h, _ => by simp at h
 | t :: ts, v :: vs, d :: ds, _, ⟨p, _, h1, h, _⟩, 0, t', v', ht, hv => by
  simp only [List.getElem?_cons_zero, Option.some.injEq] at ht hv
  subst ht; subst hv
  exact ⟨d, p, rfl, h1⟩
 | t :: ts, v :: vs, d :: ds, _, ⟨_, _, _, h, _⟩, j + 1, t', v', ht, hv => by
  simp only [List.getElem?_cons_succ] at ht hv ⊢
  exact trodAll_get h j t' v' ht hv
 | [], _ :: _, _, _, h, _, _, _, _, _ => h.elim
 | [], [], _ :: _, _, h, _, _, _, _, _ => h.elim
 | _ :: _, [], _, _, h, _, _, _, _, _ => h.elim
 | _ :: _, _ :: _, [], _, h, _, _, _, _, _ => h.elim
variable {fn : Func} {base : Nat} {args : Array Value} {ds : List (DataW H)} {p : List MemPlace}
structure Known0 (enc : TypeId × Value → H) (P : Program) (fn : Func) (W : World) (base : Nat) (args : Array Value) (ds : List (DataW H)) (p : List MemPlace) : Prop where
 val : ∀ (j : Nat) t v, fn.params[j]? = some t → args[j]? = some v → Value.okWide P W .any base t v
 trod : DataW.TrodAll enc P W 0 (fun _ => true) true fn.params.toList args.toList ds p
 weights : (DataW.weightsEach P fn.params.toList ds).all (· ≤ reachBytes) = true
theorem Known.low (k : Known enc P fn w base args ds p) : Known0 enc P fn w base args ds p := ⟨k.val, k.trod, k.weights⟩
theorem Known0.int (k : Known0 enc P fn w base args ds p) (j : Nat) {t : TypeId} {v : Value} {i : IntKind} (hj : fn.params[j]? = some t) (hv : args[j]? = some v) (ht : P.underlying t = some (.int i)) : ∃ n, v = .int i n := okWide_int ht (k.val j t v hj hv)
theorem Known0.string (k : Known0 enc P fn w base args ds p) (j : Nat) {t : TypeId} {v : Value} (hj : fn.params[j]? = some t) (hv : args[j]? = some v) (ht : P.underlying t = some .string) :
  ∃ s : ByteArray, v = .string s ∧ s.size ≤ 200000000000000 := by
 obtain ⟨d, q, hd, h⟩ := trodAll_get k.trod j t v (by simpa using hj) (by simpa using hv)
 exact known_string ht k.weights (by simpa using hj) hd (k.val j t v hj hv) h
end
end Go.AX
namespace Go.AX
open Go.ChangeShapes Go.WideShapes Go.ChangeAt Go.RowKit
theorem laid_tail {P : Program} {x : String × DataW Unit} {r : List (String × DataW Unit)} {w : World} (h : laidMet P (x :: r) w) : laidMet P r w := by
 obtain ⟨ps, hv, hnd, hrows⟩ := h
 obtain ⟨n, d⟩ := x
 obtain ⟨g, t, cs, fuel, p, q, _, _, _, _, hq, rfl⟩ := hv
 exact ⟨q, hq, List.Nodup.sublist (List.sublist_append_right _ _) hnd, fun b off hm => hrows b off (List.mem_append_right _ hm)⟩
section
variable {H : Type} {enc : TypeId × Value → H}
theorem tab_imm {P : Program} {W : World} {name : String} {k : IntKind} {zs : List Int} (h : Lib.TabIs P W name k zs) : Imm (fun b => b < W.heap.size) W fun w => Lib.TabIs P w name k zs := by
 refine ⟨h, fun w' hw => ?_⟩
 unfold Lib.TabIs World.var? at *
 cases hg : P.globalNamed name with
 | none => simp [hg] at h
 | some g =>
  simp only [hg, Option.bind_some] at h ⊢
  have hlt : g < W.heap.size := by
   rcases Nat.lt_or_ge g W.heap.size with h' | h'
   ·exact h'
   ·rw [Array.getElem?_eq_none h'] at h; simp at h
  rw [hw g hlt]
  exact h
end
end Go.AX
namespace Go.AX
open Go.RowKit
theorem ReadW.val {P : Program} {o : Oper} {s : List AV} {H : List Ent} {K : AV → Prop} (x : Value) (hsel : ∀ cs b, o.op ≠ .select cs b) (hp : allPlain s o.op.operands.toList = true)
  (ok : ∀ w, Facts H w → (execOp (plainEv s) o).run P w = .ok (.value x) w) (hk : K (.c (.v x))) : ReadW P o s H K :=
 ⟨_, hk, fun ρ S w a hs hr => ⟨x, by rw [execOp_congr o hsel (ρ' := plainEv s) fun x hx => allPlain_eval hr _ hp x (Array.mem_toList_iff.2 hx)]; exact ok w hs.facts, rfl⟩⟩
theorem plainEv_v {s : List AV} {x : Operand} {v : Value} (h : opv s x = .c (.v v)) : plainEv s x = v := by simp [plainEv, h]
theorem run_op_slice {P : Program} {o : Oper} {ev : Operand → Value} {t : TypeId} {x : Operand} {lo hi mx : Option Operand} {r : Value} {w : World} (ho : o.op = .slice t x lo hi mx)
  (h : (Instr.sliceAt t (ev x) (lo.map ev) (hi.map ev) (mx.map ev)).run P w = .ok r w) : (execOp ev o).run P w = .ok (.value r) w := by
 unfold execOp; simp only [ho, Sem.run_bind, h, Result.andThen_ok, Sem.run_pure]
section
variable {P : Program} {o : Oper} {s : List AV} {H : List Ent} {K : AV → Prop} {t : TypeId} {x y z : Operand} {b : ByteArray} {k k' : IntKind} {i j : Int}
theorem ReadW.str_l (ho : o.op = .slice t x (some y) none none) (hu : P.underlying t = some .string) (hx : opv s x = .c (.v (.string b))) (hy : opv s y = .c (.v (.int k i)))
  (h : 0 ≤ i ∧ i ≤ b.size) (hk : K (.c (.v (.string (b.extract i.toNat b.size))))) : ReadW P o s H K :=
 ReadW.val _ (fun cs b e => by rw [ho] at e; cases e) (by rw [ho]; show allPlain s [x, y] = true; simp [allPlain, hx, hy])
  (fun w _ => run_op_slice ho (by simp only [Option.map, plainEv_v hx, plainEv_v hy]; rw [run_sliceAt_string w t _ _ _ _ hu, run_slice_string_l w t b hu k i h.1 h.2])) hk
theorem ReadW.str_h (ho : o.op = .slice t x none (some z) none) (hu : P.underlying t = some .string) (hx : opv s x = .c (.v (.string b))) (hz : opv s z = .c (.v (.int k j)))
  (h : 0 ≤ j ∧ j ≤ b.size) (hk : K (.c (.v (.string (b.extract 0 j.toNat))))) : ReadW P o s H K :=
 ReadW.val _ (fun cs b e => by rw [ho] at e; cases e) (by rw [ho]; show allPlain s [x, z] = true; simp [allPlain, hx, hz])
  (fun w _ => run_op_slice ho (by simp only [Option.map, plainEv_v hx, plainEv_v hz]; rw [run_sliceAt_string w t _ _ _ _ hu, run_slice_string_h w t b hu k j h.1 h.2])) hk
end
def u8s (l : List UInt8) : List Value := l.map fun b => .int .u8 (b.toNat : Int)
theorem ReadW.bytes {P : Program} {o : Oper} {s : List AV} {H : List Ent} {K : AV → Prop} {src dst e : TypeId} {x : Operand} {a : Option Addr} {cap n : Nat} (l : List UInt8) (hn : l.length = n) (ho : o.op = .convert src dst x) (hs : P.underlying src = some (.slice e))
  (he : P.underlying e = some (.int .u8)) (hd : P.underlying dst = some .string) (hx : opv s x = .c (.v (.slice a n cap))) (hF : ∀ w, Facts H w → SlAt a n (u8s l) w) (hk : K (.c (.v (.string ⟨l.toArray⟩)))) : ReadW P o s H K := by
 subst hn
 exact ReadW.val _ (fun cs b e => by rw [ho] at e; cases e) (by rw [ho]; show allPlain s [x] = true; simp [allPlain, hx])
  (fun w hw => by
   unfold execOp
   have hS := hF w hw
   have hrun : (convert src dst (.slice a l.length cap)).run P w = .ok (.string ⟨l.toArray⟩) w := by
    cases a with
    | some a =>
     refine run_convert_bytes_back w src dst e a cap l hs he hd ?_
     intro j hj
     have := hS.2.2 j hj
     simpa [u8s, hj] using this
    | none =>
     have hl : l = [] := by
      cases l with
      | nil => rfl
      | cons c l => exact absurd (hS.2.1 (by simp)) (by simp)
     subst hl
     have := run_convert_bytes_string w src dst e none 0 cap hs he hd
     simp [this, Conv.bytesToString]
     rfl
   simp only [ho, plainEv_v hx, Sem.run_bind, hrun, Result.andThen_ok, Sem.run_pure]) hk
theorem EffW.app {P : Program} {o : Oper} {s : List AV} {H : List Ent} {K : AV → List Ent → Prop} {Ty T : TypeId} {x y : Operand} {sz n cap b q i : Nat} {xs ys : List Value} {inf : TypeInfo} (ho : o.op = .store Ty x y)
  (hx : opv s x = .c (.v (.pointer (some ⟨b, q, none⟩)))) (hi : nthE H i = some (.app T sz xs (some ⟨b, 0, none⟩) n cap)) (hy : avCells (opv s y) = some (vs ys)) (hone : oneCs (vs ys) = true) (hinf : P.info? Ty = some inf) (hlen : ys.length = inf.size)
  (hq : q + ys.length ≤ n * sz) (hk : setEK H i (.app T sz (xs.take q ++ ys ++ xs.drop (q + ys.length)) (some ⟨b, 0, none⟩) n cap) fun H' => K (.c .any) H') : EffW P o s H K := by
 rw [nthE_eq] at hi
 obtain ⟨_, hk⟩ := setEK_spec hk
 refine Effs.w (fun ρ S w a hs hr => ?_) hk
 have hxr : a.eval x = .pointer (some ⟨b, q, none⟩) := by have := opv_rel hr x; rw [hx] at this; exact this
 have hyr := avCells_rel hy (opv_rel hr y)
 have hys : (a.eval y).cells.toList = ys := by
  have : ∀ (l : List Value) (m : List Value), RelL ρ (vs l) m → m = l := by
   intro l
   induction l with
   | nil => intro m h; cases m with
    | nil => rfl
    | cons _ _ => exact h.elim
   | cons v l ih => intro m h; cases m with
    | nil => exact h.elim
    | cons u m => rw [show u = v from h.1, ih m h.2]
  exact this _ _ hyr
 rcases hs.ent i _ hi with ⟨h0, _⟩ | ⟨b', hb', arr, fr, ⟨hb, hfr⟩, hxl, hnc, hcm, hasz, htk⟩
 ·cases h0
 cases hb'
 have hnl : n * sz ≤ arr.size := by rw [hasz]; exact Nat.mul_le_mul_right _ hnc
 have hsz : (a.eval y).cells.size = inf.size := by rw [← hlen, ← hys]; simp
 have hfit : q + (a.eval y).cells.toList.length ≤ arr.size := by rw [hys]; omega
 have hrun := run_storeVar (P := P) hb hfr hinf hsz hfit (oneCs_rel hone hyr)
 obtain ⟨f1, f2, f3, f4, f5⟩ := setRow_facts w b (arr.toList.take q ++ (a.eval y).cells.toList ++ arr.toList.drop (q + (a.eval y).cells.toList.length)).toArray
 have hE : EntOk ρ S (w.setRow b (arr.toList.take q ++ (a.eval y).cells.toList ++ arr.toList.drop (q + (a.eval y).cells.toList.length)).toArray) i (.app T sz (xs.take q ++ ys ++ xs.drop (q + ys.length)) (some ⟨b, 0, none⟩) n cap) := by
  have e0 : (arr.toList.take q ++ (a.eval y).cells.toList ++ arr.toList.drop (q + (a.eval y).cells.toList.length)).toArray.size = arr.size := by rw [hys]; simp; omega
  refine .inr ⟨b, rfl, _, fr, ⟨setRow_heap w b arr _ T _ hb, by rw [e0]; exact hfr⟩, ?_, hnc, hcm, ?_, ?_⟩
  ·simp; omega
  ·rw [hys]; simp; omega
  ·rw [hys]
   have e : (arr.toList.take q ++ ys ++ arr.toList.drop (q + ys.length)).toArray.toList.take (n * sz) = (arr.toList.take (n * sz)).take q ++ ys ++ (arr.toList.take (n * sz)).drop (q + ys.length) := by
    apply List.ext_getElem?
    intro j
    simp only [List.getElem?_take, List.getElem?_append, List.getElem?_drop, List.length_append, List.length_take, Array.length_toList]
    by_cases h1 : j < q
    ·have : min q arr.size = q := by omega
     have h2 : min q (min (n * sz) arr.size) = q := by omega
     simp [this, h2, h1, show j < q + ys.length by omega, show j < n * sz by omega]
    ·have : min q arr.size = q := by omega
     have h2 : min q (min (n * sz) arr.size) = q := by omega
     by_cases h3 : j < q + ys.length
     ·simp [this, h2, h1, h3, show j < n * sz by omega]
     ·simp only [this, h2, h1, h3, if_false]
      by_cases h4 : j < n * sz
      ·simp [h4, show q + ys.length + (j - (q + ys.length)) = j by omega]
      ·simp [h4]; omega
   rw [e, htk]
 have hS := hs.setG (e' := .app T sz (xs.take q ++ ys ++ xs.drop (q + ys.length)) (some ⟨b, 0, none⟩) n cap) hi rfl (Nat.le_of_eq f1.symm) (fun k _ hne => f2 k hne) f3 f4 f5 (fun c hc => .inl (Option.some.inj hc).symm) hE
 refine ⟨.skip, undef, ρ, _, ?_, .inr ⟨rfl, rfl⟩, hS.1, hS.2, trivial⟩
 unfold execOp
 simp only [ho, hxr, Instr.storeAt, Instr.sureAddr, Sem.run_bind, Sem.run_pure, Result.andThen_ok, hrun]
end Go.AX
namespace Go.AX
structure WQ (q : Prop) : Prop where
 out : q
theorem wX {p q : Prop} (h : q) (e : WQ q → p := by intro hq; (((conv => whnf); (repeat ((first | refine BoxN.own ?_ | refine RwN.own ?_ | refine VrN.norm (wrap_i64 (by omega)) ?_ | refine VrN.keep ?_ | refine DrawN.calm (by decide +kernel) ?_ | refine Nd.mk (by decide +kernel) ?_ | refine Nd.mk (by omega) ?_ | (refine Nd.mk ?_ ?_; focus ((repeat' (first | exact trivial | exact wkE_refl _ | refine And.intro ?_ ?_)); done)) | refine RdN.intro _ rfl (by rfl) ?_); (conv => whnf))))); exact hq.out) : p := e ⟨h⟩
theorem wZ {p : Prop} (e : p := by ((conv => whnf); (repeat ((first | refine BoxN.own ?_ | refine RwN.own ?_ | refine VrN.norm (wrap_i64 (by omega)) ?_ | refine VrN.keep ?_ | refine DrawN.calm (by decide +kernel) ?_ | refine Nd.mk (by decide +kernel) ?_ | refine Nd.mk (by omega) ?_ | (refine Nd.mk ?_ ?_; focus ((repeat' (first | exact trivial | exact wkE_refl _ | refine And.intro ?_ ?_)); done)) | refine RdN.intro _ rfl (by rfl) ?_); (conv => whnf))))) : p := e
theorem wXB {p q : Prop} (h : q) (e : WQ q → p := by intro hq; (((conv => whnf); (repeat ((first | refine RwN.own ?_ | refine VrN.norm (wrap_i64 (by omega)) ?_ | refine VrN.keep ?_ | refine DrawN.calm (by decide +kernel) ?_ | refine Nd.mk (by decide +kernel) ?_ | refine Nd.mk (by omega) ?_ | (refine Nd.mk ?_ ?_; focus ((repeat' (first | exact trivial | exact wkE_refl _ | refine And.intro ?_ ?_)); done)) | refine RdN.intro _ rfl (by rfl) ?_); (conv => whnf))))); exact hq.out) : p := e ⟨h⟩
theorem wZB {p : Prop} (e : p := by ((conv => whnf); (repeat ((first | refine RwN.own ?_ | refine VrN.norm (wrap_i64 (by omega)) ?_ | refine VrN.keep ?_ | refine DrawN.calm (by decide +kernel) ?_ | refine Nd.mk (by decide +kernel) ?_ | refine Nd.mk (by omega) ?_ | (refine Nd.mk ?_ ?_; focus ((repeat' (first | exact trivial | exact wkE_refl _ | refine And.intro ?_ ?_)); done)) | refine RdN.intro _ rfl (by rfl) ?_); (conv => whnf))))) : p := e
theorem wXD {p q : Prop} (h : q) (e : WQ q → p := by intro hq; (((conv => whnf); (repeat ((first | refine BoxN.own ?_ | refine RwN.own ?_ | refine VrN.norm (wrap_i64 (by omega)) ?_ | refine VrN.keep ?_ | refine Nd.mk (by decide +kernel) ?_ | refine Nd.mk (by omega) ?_ | (refine Nd.mk ?_ ?_; focus ((repeat' (first | exact trivial | exact wkE_refl _ | refine And.intro ?_ ?_)); done)) | refine RdN.intro _ rfl (by rfl) ?_); (conv => whnf))))); exact hq.out) : p := e ⟨h⟩
theorem wZD {p : Prop} (e : p := by ((conv => whnf); (repeat ((first | refine BoxN.own ?_ | refine RwN.own ?_ | refine VrN.norm (wrap_i64 (by omega)) ?_ | refine VrN.keep ?_ | refine Nd.mk (by decide +kernel) ?_ | refine Nd.mk (by omega) ?_ | (refine Nd.mk ?_ ?_; focus ((repeat' (first | exact trivial | exact wkE_refl _ | refine And.intro ?_ ?_)); done)) | refine RdN.intro _ rfl (by rfl) ?_); (conv => whnf))))) : p := e
theorem wXE {p q : Prop} (h : q) (e : WQ q → p := by intro hq; (((conv => whnf); (repeat ((first | refine LdN.one (a := some ⟨_, 0, none⟩) (q := 0) (xs := [_, _, _, _, _]) _ rfl (fun w hw => hw.2.1) rfl ?_ | refine LdN.one (a := some ⟨_, 0, none⟩) (q := 1) (xs := [_, _, _, _, _]) _ rfl (fun w hw => hw.2.1) rfl ?_ | refine LdN.one (a := some ⟨_, 0, none⟩) (q := 2) (xs := [_, _, _, _, _]) _ rfl (fun w hw => hw.2.1) rfl ?_ | refine LdN.one (a := some ⟨_, 0, none⟩) (q := 3) (xs := [_, _, _, _, _]) _ rfl (fun w hw => hw.2.1) rfl ?_ | refine LdN.one (a := some ⟨_, 0, none⟩) (q := 4) (xs := [_, _, _, _, _]) _ rfl (fun w hw => hw.2.1) rfl ?_ | refine RwN.own ?_ | refine VrN.norm (wrap_i64 (by omega)) ?_ | refine VrN.keep ?_ | refine DrawN.calm (by decide +kernel) ?_ | refine Nd.mk (by decide +kernel) ?_ | refine Nd.mk (by omega) ?_ | (refine Nd.mk ?_ ?_; focus ((repeat' (first | exact trivial | exact wkE_refl _ | refine And.intro ?_ ?_)); done)) | refine RdN.intro _ rfl (by rfl) ?_); (conv => whnf))))); exact hq.out) : p := e ⟨h⟩
theorem wZE {p : Prop} (e : p := by ((conv => whnf); (repeat ((first | refine LdN.one (a := some ⟨_, 0, none⟩) (q := 0) (xs := [_, _, _, _, _]) _ rfl (fun w hw => hw.2.1) rfl ?_ | refine LdN.one (a := some ⟨_, 0, none⟩) (q := 1) (xs := [_, _, _, _, _]) _ rfl (fun w hw => hw.2.1) rfl ?_ | refine LdN.one (a := some ⟨_, 0, none⟩) (q := 2) (xs := [_, _, _, _, _]) _ rfl (fun w hw => hw.2.1) rfl ?_ | refine LdN.one (a := some ⟨_, 0, none⟩) (q := 3) (xs := [_, _, _, _, _]) _ rfl (fun w hw => hw.2.1) rfl ?_ | refine LdN.one (a := some ⟨_, 0, none⟩) (q := 4) (xs := [_, _, _, _, _]) _ rfl (fun w hw => hw.2.1) rfl ?_ | refine RwN.own ?_ | refine VrN.norm (wrap_i64 (by omega)) ?_ | refine VrN.keep ?_ | refine DrawN.calm (by decide +kernel) ?_ | refine Nd.mk (by decide +kernel) ?_ | refine Nd.mk (by omega) ?_ | (refine Nd.mk ?_ ?_; focus ((repeat' (first | exact trivial | exact wkE_refl _ | refine And.intro ?_ ?_)); done)) | refine RdN.intro _ rfl (by rfl) ?_); (conv => whnf))))) : p := e
theorem wXF {p q : Prop} (h : q) (e : WQ q → p := by intro hq; (((conv => whnf); (repeat ((first | refine LdN.one (a := some ⟨_, 0, none⟩) (q := 0) (xs := [_, _, _, _, _]) _ rfl (fun w hw => hw.2.2.2.1) rfl ?_ | refine LdN.one (a := some ⟨_, 0, none⟩) (q := 1) (xs := [_, _, _, _, _]) _ rfl (fun w hw => hw.2.2.2.1) rfl ?_ | refine LdN.one (a := some ⟨_, 0, none⟩) (q := 2) (xs := [_, _, _, _, _]) _ rfl (fun w hw => hw.2.2.2.1) rfl ?_ | refine LdN.one (a := some ⟨_, 0, none⟩) (q := 3) (xs := [_, _, _, _, _]) _ rfl (fun w hw => hw.2.2.2.1) rfl ?_ | refine LdN.one (a := some ⟨_, 0, none⟩) (q := 4) (xs := [_, _, _, _, _]) _ rfl (fun w hw => hw.2.2.2.1) rfl ?_ | refine RwN.own ?_ | refine VrN.norm (wrap_i64 (by omega)) ?_ | refine VrN.keep ?_ | refine Nd.mk (by decide +kernel) ?_ | refine Nd.mk (by omega) ?_ | (refine Nd.mk ?_ ?_; focus ((repeat' (first | exact trivial | exact wkE_refl _ | refine And.intro ?_ ?_)); done)) | refine RdN.intro _ rfl (by rfl) ?_); (conv => whnf))))); exact hq.out) : p := e ⟨h⟩
theorem wZF {p : Prop} (e : p := by ((conv => whnf); (repeat ((first | refine LdN.one (a := some ⟨_, 0, none⟩) (q := 0) (xs := [_, _, _, _, _]) _ rfl (fun w hw => hw.2.2.2.1) rfl ?_ | refine LdN.one (a := some ⟨_, 0, none⟩) (q := 1) (xs := [_, _, _, _, _]) _ rfl (fun w hw => hw.2.2.2.1) rfl ?_ | refine LdN.one (a := some ⟨_, 0, none⟩) (q := 2) (xs := [_, _, _, _, _]) _ rfl (fun w hw => hw.2.2.2.1) rfl ?_ | refine LdN.one (a := some ⟨_, 0, none⟩) (q := 3) (xs := [_, _, _, _, _]) _ rfl (fun w hw => hw.2.2.2.1) rfl ?_ | refine LdN.one (a := some ⟨_, 0, none⟩) (q := 4) (xs := [_, _, _, _, _]) _ rfl (fun w hw => hw.2.2.2.1) rfl ?_ | refine RwN.own ?_ | refine VrN.norm (wrap_i64 (by omega)) ?_ | refine VrN.keep ?_ | refine Nd.mk (by decide +kernel) ?_ | refine Nd.mk (by omega) ?_ | (refine Nd.mk ?_ ?_; focus ((repeat' (first | exact trivial | exact wkE_refl _ | refine And.intro ?_ ?_)); done)) | refine RdN.intro _ rfl (by rfl) ?_); (conv => whnf))))) : p := e
theorem wXR {p q : Prop} (h : q) (e : WQ q → p := by intro hq; (((conv => whnf); (repeat ((first | refine BoxN.own ?_ | refine VrN.norm (wrap_i64 (by omega)) ?_ | refine VrN.keep ?_ | refine DrawN.calm (by decide +kernel) ?_ | refine Nd.mk (by decide +kernel) ?_ | refine Nd.mk (by omega) ?_ | (refine Nd.mk ?_ ?_; focus ((repeat' (first | exact trivial | exact wkE_refl _ | refine And.intro ?_ ?_)); done)) | refine RdN.intro _ rfl (by rfl) ?_); (conv => whnf))))); exact hq.out) : p := e ⟨h⟩
theorem wZR {p : Prop} (e : p := by ((conv => whnf); (repeat ((first | refine BoxN.own ?_ | refine VrN.norm (wrap_i64 (by omega)) ?_ | refine VrN.keep ?_ | refine DrawN.calm (by decide +kernel) ?_ | refine Nd.mk (by decide +kernel) ?_ | refine Nd.mk (by omega) ?_ | (refine Nd.mk ?_ ?_; focus ((repeat' (first | exact trivial | exact wkE_refl _ | refine And.intro ?_ ?_)); done)) | refine RdN.intro _ rfl (by rfl) ?_); (conv => whnf))))) : p := e
theorem wXK {p q : Prop} (h : q) (e : WQ q → p := by intro hq; (((conv => whnf); (repeat ((first | refine VrN.norm (wrap_i64 (by omega)) ?_ | refine VrN.keep ?_ | refine DrawN.calm (by decide +kernel) ?_ | refine Nd.mk (by decide +kernel) ?_ | refine Nd.mk (by omega) ?_ | (refine Nd.mk ?_ ?_; focus ((repeat' (first | exact trivial | exact wkE_refl _ | refine And.intro ?_ ?_)); done)) | refine RdN.intro _ rfl (by rfl) ?_); (conv => whnf))))); exact hq.out) : p := e ⟨h⟩
theorem wZK {p : Prop} (e : p := by ((conv => whnf); (repeat ((first | refine VrN.norm (wrap_i64 (by omega)) ?_ | refine VrN.keep ?_ | refine DrawN.calm (by decide +kernel) ?_ | refine Nd.mk (by decide +kernel) ?_ | refine Nd.mk (by omega) ?_ | (refine Nd.mk ?_ ?_; focus ((repeat' (first | exact trivial | exact wkE_refl _ | refine And.intro ?_ ?_)); done)) | refine RdN.intro _ rfl (by rfl) ?_); (conv => whnf))))) : p := e
theorem wXS {p q : Prop} (h : q) (e : WQ q → p := by intro hq; (((conv => whnf); (repeat ((first | refine SeqN.plain ?_ | refine BoxN.own ?_ | refine RwN.own ?_ | refine VrN.norm (wrap_i64 (by omega)) ?_ | refine VrN.keep ?_ | refine DrawN.calm (by decide +kernel) ?_ | refine Nd.mk (by decide +kernel) ?_ | refine Nd.mk (by omega) ?_ | (refine Nd.mk ?_ ?_; focus ((repeat' (first | exact trivial | exact wkE_refl _ | refine And.intro ?_ ?_)); done)) | refine RdN.intro _ rfl (by rfl) ?_); (conv => whnf))))); exact hq.out) : p := e ⟨h⟩
theorem wZS {p : Prop} (e : p := by ((conv => whnf); (repeat ((first | refine SeqN.plain ?_ | refine BoxN.own ?_ | refine RwN.own ?_ | refine VrN.norm (wrap_i64 (by omega)) ?_ | refine VrN.keep ?_ | refine DrawN.calm (by decide +kernel) ?_ | refine Nd.mk (by decide +kernel) ?_ | refine Nd.mk (by omega) ?_ | (refine Nd.mk ?_ ?_; focus ((repeat' (first | exact trivial | exact wkE_refl _ | refine And.intro ?_ ?_)); done)) | refine RdN.intro _ rfl (by rfl) ?_); (conv => whnf))))) : p := e
theorem wXP {p q : Prop} (h : q) (e : WQ q → p := by intro hq; (((conv => whnf); (repeat ((first | refine Nd.mk (fun w hw => hw.1.1) ?_ | refine Nd.mk (fun w hw => hw.1) ?_ | refine Nd.mk (fun w hw => hw.2.1) ?_ | refine Nd.mk (fun w hw => hw.2.2.1) ?_ | refine Nd.mk (fun w hw => hw.2.2.2.1) ?_ | refine Nd.mk (fun w hw => hw.2.2.2.2.1) ?_ | refine Nd.mk (fun w hw => hw.2.2.2.2.2.1) ?_ | refine Nd.mk (fun w hw => hw.2.2.2.2.2.2.1) ?_ | refine Nd.mk (fun w hw => hw.2.2.2.2.2.2.2.1) ?_ | refine Nd.mk (fun w hw => hw.2.2.2.2.2.2.2.2.1) ?_ | refine Nd.mk (fun w hw => hw.2.2.2.2.2.2.2.2.2.1) ?_ | refine Nd.mk (fun w hw => ⟨hw.1, hw.2.1⟩) ?_ | refine Nd.mk (fun w hw => hw.1.cell rfl) ?_ | refine VrN.norm (wrap_i64 (by omega)) ?_ | refine VrN.keep ?_ | refine Nd.mk (by decide +kernel) ?_ | refine Nd.mk (by omega) ?_ | refine RdN.intro _ rfl (by rfl) ?_); (conv => whnf))))); exact hq.out) : p := e ⟨h⟩
theorem wZP {p : Prop} (e : p := by ((conv => whnf); (repeat ((first | refine Nd.mk (fun w hw => hw.1.1) ?_ | refine Nd.mk (fun w hw => hw.1) ?_ | refine Nd.mk (fun w hw => hw.2.1) ?_ | refine Nd.mk (fun w hw => hw.2.2.1) ?_ | refine Nd.mk (fun w hw => hw.2.2.2.1) ?_ | refine Nd.mk (fun w hw => hw.2.2.2.2.1) ?_ | refine Nd.mk (fun w hw => hw.2.2.2.2.2.1) ?_ | refine Nd.mk (fun w hw => hw.2.2.2.2.2.2.1) ?_ | refine Nd.mk (fun w hw => hw.2.2.2.2.2.2.2.1) ?_ | refine Nd.mk (fun w hw => hw.2.2.2.2.2.2.2.2.1) ?_ | refine Nd.mk (fun w hw => hw.2.2.2.2.2.2.2.2.2.1) ?_ | refine Nd.mk (fun w hw => ⟨hw.1, hw.2.1⟩) ?_ | refine Nd.mk (fun w hw => hw.1.cell rfl) ?_ | refine VrN.norm (wrap_i64 (by omega)) ?_ | refine VrN.keep ?_ | refine Nd.mk (by decide +kernel) ?_ | refine Nd.mk (by omega) ?_ | refine RdN.intro _ rfl (by rfl) ?_); (conv => whnf))))) : p := e
theorem wXO {p q : Prop} (h : q) (e : WQ q → p := by intro hq; (((conv => whnf); (repeat ((first | refine Nd.mk (fun w hw => hw.1.1) ?_ | refine Nd.mk (fun w hw => hw.1) ?_ | refine Nd.mk (fun w hw => hw.2.1) ?_ | refine Nd.mk (fun w hw => hw.2.2.1) ?_ | refine Nd.mk (fun w hw => hw.2.2.2.1) ?_ | refine Nd.mk (fun w hw => hw.2.2.2.2.1) ?_ | refine Nd.mk (fun w hw => hw.2.2.2.2.2.1) ?_ | refine Nd.mk (fun w hw => hw.2.2.2.2.2.2.1) ?_ | refine Nd.mk (fun w hw => hw.2.2.2.2.2.2.2.1) ?_ | refine Nd.mk (fun w hw => hw.2.2.2.2.2.2.2.2.1) ?_ | refine Nd.mk (fun w hw => hw.2.2.2.2.2.2.2.2.2.1) ?_ | refine Nd.mk (fun w hw => ⟨hw.1, hw.2.1⟩) ?_ | refine Nd.mk (fun w hw => hw.1.cell rfl) ?_ | refine ReadC.nil rfl rfl ?_ | refine RwN.own ?_ | refine VrN.norm (wrap_i64 (by omega)) ?_ | refine VrN.keep ?_ | refine Nd.mk (by decide +kernel) ?_ | refine Nd.mk (by omega) ?_ | refine RdN.intro _ rfl (by rfl) ?_); (conv => whnf))))); exact hq.out) : p := e ⟨h⟩
theorem wZO {p : Prop} (e : p := by ((conv => whnf); (repeat ((first | refine Nd.mk (fun w hw => hw.1.1) ?_ | refine Nd.mk (fun w hw => hw.1) ?_ | refine Nd.mk (fun w hw => hw.2.1) ?_ | refine Nd.mk (fun w hw => hw.2.2.1) ?_ | refine Nd.mk (fun w hw => hw.2.2.2.1) ?_ | refine Nd.mk (fun w hw => hw.2.2.2.2.1) ?_ | refine Nd.mk (fun w hw => hw.2.2.2.2.2.1) ?_ | refine Nd.mk (fun w hw => hw.2.2.2.2.2.2.1) ?_ | refine Nd.mk (fun w hw => hw.2.2.2.2.2.2.2.1) ?_ | refine Nd.mk (fun w hw => hw.2.2.2.2.2.2.2.2.1) ?_ | refine Nd.mk (fun w hw => hw.2.2.2.2.2.2.2.2.2.1) ?_ | refine Nd.mk (fun w hw => ⟨hw.1, hw.2.1⟩) ?_ | refine Nd.mk (fun w hw => hw.1.cell rfl) ?_ | refine ReadC.nil rfl rfl ?_ | refine RwN.own ?_ | refine VrN.norm (wrap_i64 (by omega)) ?_ | refine VrN.keep ?_ | refine Nd.mk (by decide +kernel) ?_ | refine Nd.mk (by omega) ?_ | refine RdN.intro _ rfl (by rfl) ?_); (conv => whnf))))) : p := e
theorem wKK {p : Prop} (e : p := by ((repeat' (first | exact trivial | refine And.intro (by with_reducible rfl) ?_ | (with_reducible exact wkC_refl _) | (with_reducible exact wkCs_refl _) | refine And.intro ?_ ?_))); all_goals (first | rfl | exact av_int (by first | omega | (rw [wrap_i64 (by omega)]; omega)))) : p := e
theorem wHH {p : Prop} (e : p := by (repeat' (first | exact trivial | exact wkE_refl _ | refine And.intro ?_ ?_))) : p := e
end Go.AX
namespace Go.AX
open Go.ChangeShapes Go.WideShapes Go.ChangeAt Go.RowKit
section
variable {H : Type} {enc : TypeId × Value → H}
theorem handed_and_shaped {a : Assume} {C : Checked} {os : Os} {f : FuncId} {fn : Func} {s : ChangeSpec} {conds : List PathCond} {apart fresh handsOn again : Bool} {X : World → Array Value → Prop}
  (hX : ∀ (w w' : World) (args : Array Value), w.heap = w'.heap → X w args → X w' args)
  (own : ownKnob C.prog.godebug = none) (started : os.Started) (noInit : C.prog.inits.idxOf? f = none) (hfn : C.prog.funcs[f]? = some fn)
  (witness : ∃ (w : World) (tape : Tape) (i : Input), w.os = os ∧ (w.forCall tape i).Shaped C.prog ∧ i.vars = [] ∧ Input.okWide C.prog (w.forCall tape i) .any w.heap.size f i ∧
   ((s.pre enc C.prog fn conds apart (w.forCall tape i).memory i.args ∧ X (w.forCall tape i).memory i.args) ∧ sizedMet enc C.prog fn (OpenSpec.ofChange s) apart (w.forCall tape i).memory i.args) ∧ a.holds C.prog (lone (Frame.enter C.prog f i.args .normal) [] (w.forCall tape i)))
  (contract : ∀ (W : World) (base : Nat) (args : Array Value) (ds gs : List (DataW H)) (before : List MemPlace),
   (∀ (j : Nat) t v, fn.params[j]? = some t → args[j]? = some v → Value.okWide C.prog W .any base t v) →
   DataW.Whole enc C.prog fn.params.toList s.vars apart W args.toList ds gs before →
   conds.all (PathCond.test C.prog ⟨fn.params.toList, ds, s.plain.varTypes C.prog, gs⟩) = true →
   (DataW.weightsEach C.prog (fn.params.toList ++ s.plain.varTypes C.prog) (ds ++ gs)).all (· ≤ reachBytes) = true → X W args → W.ShapedOpen C.prog →
   Calls C.prog f args W fun e W' => ∃ v, e = .returned v ∧ s.post enc C.prog fn apart fresh handsOn again W args v W') :
  ReturnsInHanded a C os f .any (fun w args => (s.pre enc C.prog fn conds apart w args ∧ X w args) ∧ sizedMet enc C.prog fn (OpenSpec.ofChange s) apart w args) (s.post enc C.prog fn apart fresh handsOn again) := by
 refine returnsInHanded_of_calls own started noInit witness ?_
 intro w tape i _ hsh _ hok hpre _
 obtain ⟨_, _, _, fn', hfn', _, _, _, _, hval⟩ := hok
 have e : fn' = fn := Option.some.inj (hfn'.symm.trans hfn)
 subst e
 obtain ⟨⟨⟨ds, gs, before, hw, hc⟩, hx⟩, hz⟩ := hpre
 have hw' := DataW.Whole.of_heap (w' := w.forCall tape i) (by rfl) hw
 refine (contract (w.forCall tape i) w.heap.size i.args ds gs before hval hw' hc (hz.weights hw) (hX _ _ _ (by rfl) hx) hsh).mono fun e W' ⟨v, he, hp⟩ => ?_
 subst he
 exact ChangeSpec.post_blind hp
theorem liftS {C : Checked} {os : Os} {f : FuncId} {fn : Func} {s : ChangeSpec} {conds : List PathCond} {laid : List (String × DataW Unit)} (own : ownKnob C.prog.godebug = none) (started : os.Started) (noInit : C.prog.inits.idxOf? f = none)
  (hfn : C.prog.funcs[f]? = some fn)
  (witness : ∃ (w : World) (tape : Tape) (i : Input), w.os = os ∧ (w.forCall tape i).Shaped C.prog ∧ i.vars = [] ∧ Input.okWide C.prog (w.forCall tape i) .any w.heap.size f i ∧
   ((s.pre enc C.prog fn conds false (w.forCall tape i).memory i.args ∧ laidMetH C.prog laid (w.forCall tape i).memory) ∧ sizedMet enc C.prog fn (OpenSpec.ofChange s) false (w.forCall tape i).memory i.args) ∧ ({} : Assume).holds C.prog (lone (Frame.enter C.prog f i.args .normal) [] (w.forCall tape i)))
  (hlaid : laidOutB C.prog = true) (hvars : s.vars = []) {t : TypeId} (hres : fn.resultTypes = #[t]) (hbool : C.prog.underlying t = some .bool)
  (hpar : (fn.params.toList.all fun t => C.prog.readableRec t && decide (t < C.prog.types.size)) = true)
  (hspec : ∀ ds : List (DataW H), ds.length = fn.params.toList.length → s.fn H ds = { results := [.lit (.bool true)], args := ds })
  (walk : ∀ (W : World) (base : Nat) (args : Array Value) (ds : List (DataW H)) (p : List MemPlace), Known enc C.prog fn W base args ds p → laidMetH C.prog laid W → Walk C.prog f args W) :
  ReturnsInHanded {} C os f .any (fun w args => (s.pre enc C.prog fn conds false w args ∧ laidMetH C.prog laid w) ∧ sizedMet enc C.prog fn (OpenSpec.ofChange s) false w args) (s.post enc C.prog fn false true false false) := by
 refine handed_and_shaped (X := fun w _ => laidMetH C.prog laid w) (fun _ _ _ hh h => h.of_heap hh) own started noInit hfn witness ?_
 intro W base args ds gs before hval hW _ hwt hL hsh
 have hW' := hW
 obtain ⟨p, q, hA, hV, rfl, hfz, hnd⟩ := hW
 rw [hvars] at hV
 obtain ⟨rfl, rfl⟩ := trodVars_none hV
 have hvt : s.plain.varTypes C.prog = [] := by simp [DataSpec.varTypes, ChangeSpec.plain, hvars]
 rw [hvt, List.append_nil, List.append_nil] at hwt
 refine (walk W base args ds p ⟨hval, hA, hwt, hsh⟩ hL).mono fun e W' ⟨he, bel⟩ => ?_
 subst he
 have hs := hspec ds (trodAll_len hA).1
 refine ⟨_, rfl, ds, [], p ++ [], [], p, [], hW', ?_, ?_, ?_, bel.frame _, fun h => by cases h⟩
 ·rw [List.append_nil, hs, hres]
  exact trodAll_mk1 (shut_bool hbool _)
 ·rw [List.append_nil, hs]
  exact trodAll_keep hlaid bel hpar hA
 ·rw [List.append_nil, hs, hvars]
  rfl
end
end Go.AX
namespace Go.AX
def at0 (ob : Option Nat) : Option Addr := ob.map fun b => ⟨b, 0, none⟩
theorem Sat.setNil0 {ρ : List Loc} {S : Nat → Prop} {H : List Ent} {w : World} {i : Nat} {e : Ent} (h : Sat ρ S H w) (hi : H[i]? = some e) : Sat ρ S (H.set i .dead) w ∧ Ev ρ S H w ρ S (H.set i .dead) w := by
 have hget : ∀ (j : Nat) (f : Ent), (H.set i .dead)[j]? = some f → f = .dead ∨ H[j]? = some f := fun j f hf => by
  by_cases hj : i = j
  ·subst hj
   rw [List.getElem?_set_self (List.getElem?_eq_some_iff.1 hi).1] at hf
   exact .inl (Option.some.inj hf).symm
  ·rw [List.getElem?_set_ne hj] at hf
   exact .inr hf
 have hb : ∀ (j : Nat) (f : Ent) (b : Nat), (H.set i .dead)[j]? = some f → entB ρ j f b → H[j]? = some f := fun j f b hf hfb => by
  rcases hget j f hf with rfl | h1
  ·cases hfb
  ·exact h1
 have hmb : ∀ b, mb ρ (H.set i .dead) b → mb ρ H b := fun b ⟨j, f, hf, hfb⟩ => ⟨j, f, hb j f b hf hfb, hfb⟩
 exact ⟨⟨by simp [h.len], fun j f hf => by
   rcases hget j f hf with rfl | h1
   ·trivial
   ·exact h.ent j f h1,
  fun j k f g b hf hg hfb hgb => h.inj j k f g b (hb j f b hf hfb) (hb k g b hg hgb) hfb hgb, fun b hbb => h.out b (hmb b hbb), h.low⟩,
  ⟨⟨[], by simp⟩, rfl, rfl, rfl, Nat.le_refl _, fun _ _ _ => rfl, fun _ h => .inl h, fun b hbb => .inl (hmb b hbb)⟩⟩
def byteB (P : Program) (e : TypeId) : Bool := match P.info? e with
 | some i => (match i.zero with | some (.int .u8 n) => n == 0 | _ => false) && (Nat.beq i.size 1 && Nat.beq i.bytes 1)
 | none => false
def slcB (P : Program) (T : TypeId) : Bool := match P.underlying T with | some (.slice e) => (P.info? e).isSome | _ => false
theorem slcB_spec {P : Program} {T : TypeId} (h : slcB P T = true) : ∃ e i, P.underlying T = some (.slice e) ∧ P.info? e = some i := by
 unfold slcB at h
 split at h
 ·rename_i e he
  exact ⟨e, _, he, (Option.some_get h).symm⟩
 ·cases h
end Go.AX
namespace Go.AX
def bs (l : List UInt8) : ByteArray := ⟨l.toArray⟩
theorem bs_app (a b : List UInt8) : bs a ++ bs b = bs (a ++ b) := by
 apply ByteArray.ext
 simp [bs]
theorem bs_size (a : List UInt8) : (bs a).size = a.length := by simp [bs, ByteArray.size]
theorem bs_list (a : List UInt8) : (bs a).data.toList = a := by simp [bs]
theorem bs_ext (l : List UInt8) (i j : Nat) : (bs l).extract i j = bs ((l.take j).drop i) := by
 apply ByteArray.ext
 apply Array.ext'
 rw [ByteArray.data_extract]
 simp [bs, List.drop_take]
theorem bs_drop (l : List UInt8) (i : Nat) : (bs l).extract i l.length = bs (l.drop i) := by rw [bs_ext, List.take_length]
theorem bs_take (l : List UInt8) (j : Nat) : (bs l).extract 0 j = bs (l.take j) := by rw [bs_ext, List.drop_zero]
theorem ReadW.sl_l {P : Program} {o : Oper} {s : List AV} {H : List Ent} {K : AV → Prop} {t : TypeId} {x y : Operand} {b : List UInt8} {k : IntKind} {i : Int} (n : Nat) (ho : o.op = .slice t x (some y) none none) (hu : P.underlying t = some .string) (hx : opv s x = .c (.v (.string (bs b)))) (hy : opv s y = .c (.v (.int k i)))
  (h : i = (n : Int) ∧ n ≤ b.length) (hk : K (.c (.v (.string (bs (b.drop n)))))) : ReadW P o s H K :=
 ReadW.str_l ho hu hx hy ⟨by omega, by rw [bs_size]; omega⟩ (by rw [bs_size, show i.toNat = n by omega, bs_drop]; exact hk)
theorem ReadW.sl_h {P : Program} {o : Oper} {s : List AV} {H : List Ent} {K : AV → Prop} {t : TypeId} {x y : Operand} {b : List UInt8} {k : IntKind} {i : Int} (n : Nat) (ho : o.op = .slice t x none (some y) none) (hu : P.underlying t = some .string) (hx : opv s x = .c (.v (.string (bs b)))) (hy : opv s y = .c (.v (.int k i)))
  (h : i = (n : Int) ∧ n ≤ b.length) (hk : K (.c (.v (.string (bs (b.take n)))))) : ReadW P o s H K :=
 ReadW.str_h ho hu hx hy ⟨by omega, by rw [bs_size]; omega⟩ (by rw [show i.toNat = n by omega, bs_take]; exact hk)
def RetG {ι : Type} (inv : ι → Prop) (val : ι → Value) (G : ι → List Ent) : Out → List Ent → Prop := fun out H' => ∃ i, inv i ∧ out = .val (.c (.v (val i))) ∧ H' = G i
theorem SpecH.wkG {P : Program} {f : FuncId} {args : List AV} {H : List Ent} {ι : Type} {inv : ι → Prop} {val : ι → Value} {G : ι → List Ent} (hok : ∀ i, inv i → okH (G i).length (G i)) (hl : ∀ i, inv i → H.length ≤ (G i).length)
  (h : SpecH P f args H fun out H' => ∃ i, inv i ∧ out = .val (.c (.v (val i))) ∧ wkH H' (G i)) : SpecH P f args H (RetG inv val G) := by
 refine ⟨h.ok, fun ρ S w vs hs hr => (h.run ρ S w vs hs hr).mono fun e w' ⟨ρ', S', H', out, hs', hev, hout, i, hi, hx, hw⟩ => ?_⟩
 subst hx
 obtain ⟨h1, h2⟩ := hs'.weak hw (hok i hi)
 refine ⟨ρ'.take (G i).length, S', G i, .val (.c (.v (val i))), h1, ⟨?_, hev.os, hev.tape, hev.output, hev.size, hev.keep, hev.imm, fun b hb => hev.own b (h2 b hb)⟩, hout, i, hi, rfl, rfl⟩
 obtain ⟨t, ht⟩ := hev.pre
 refine ⟨t.take ((G i).length - ρ.length), ?_⟩
 rw [ht, List.take_append, List.take_of_length_le (by rw [hs.len]; exact hl i hi)]
theorem ownC {P : Program} (hm : P.follows .mixedOrders = true) {f : FuncId} {fn : Func} {c : Code} (hf : P.funcs[f]? = some fn) (hn : (fn.name == "runtime.NumGoroutine") = false) (hb : fn.body = some c)
  {args : List AV} {H : List Ent} (hl : Nat.ble args.length fn.ntmps = true) {ι : Type} {inv : ι → Prop} {val : ι → Value} {G : ι → List Ent} (hok : ∀ i, inv i → okH (G i).length (G i)) (hl2 : ∀ i, inv i → H.length ≤ (G i).length)
  (h : initK fn.ntmps args fun s => exec P c s H (endK P fn.results.toList fun out H' => ∃ i, inv i ∧ out = .val (.c (.v (val i))) ∧ wkH H' (G i))) : SpecH P f args H (RetG inv val G) :=
 SpecH.wkG hok hl2 (spec_of_exec hm hf hn hb hl h)
theorem callG {P : Program} {f : FuncId} {args0 : List AV} {H0 : List Ent} {ι : Type} {inv : ι → Prop} {val : ι → Value} {G : ι → List Ent} (h : SpecH P f args0 H0 (RetG inv val G)) (σ : List Nat) {args : List AV} {H : List Ent} {K : Out → List Ent → Prop}
  (hn : ndB σ = true) (hp : part σ H.length H σ H0) (ha : args = rnS σ H.length args0) (hk : ∀ i, inv i → mrg (rnE σ H.length) σ (G i) H fun G' => K (.val (.c (.v (val i)))) G') : SpecH P f args H K :=
 h.at σ hn hp ha fun out H' ⟨i, hi, ho, hH⟩ => by subst ho; subst hH; exact hk i hi
theorem wkH_nil (H : List Ent) : wkH H [] := by cases H <;> trivial
end Go.AX
namespace Go.Proofs.YtkgmaplkomhjdaaDoor
open Go.AX Go.RowKit
set_option maxRecDepth 20000
theorem hm : Tryd.prog.follows .mixedOrders = true := by kernel_rfl
structure BSt where
 ob : Option Nat
 cap : Nat
def BSt.ok (n : Nat) (i : BSt) : Prop := (i.ob = none → n = 0 ∧ i.cap = 0) ∧ n ≤ i.cap ∧ (i.cap = 0 → i.ob = none)
end Go.Proofs.YtkgmaplkomhjdaaDoor
namespace Go.Proofs
open Go.Shelf
def Tryd.lays161_ren : Go.Shelf.Ren := ⟨fun | 161 => 23 | 231 => 39 | 227 => 40 | 233 => 41 | 235 => 42 | 228 => 53 | 197 => 51 | 151 => 54 | 260 => 66 | 152 => 55 | 137 => 31 | 119 => 70 | 224 => 68 | 225 => 67 | 217 => 47 | 266 => 61 | n => n, fun | 9 => 9 | 4 => 4 | 3 => 3 | 5 => 5 | 117 => 61 | 116 => 60 | 0 => 0 | 124 => 64 | 105 => 72 | 21 => 21 | 119 => 57 | 46 => 24 | 139 => 99 | 138 => 98 | n => n, fun | 3 => 3 | 4 => 4 | n => n⟩
theorem Tryd.lays161 : Go.Proofs.Lays.n161 Tryd.prog Tryd.lays161_ren := {
 mixed := by kernel_rfl
 f119 := Tryd.func70.trans (congrArg some (by kernel_rfl))
 f137 := Tryd.func31.trans (congrArg some (by kernel_rfl))
 f151 := Tryd.func54.trans (congrArg some (by kernel_rfl))
 f152 := Tryd.func55.trans (congrArg some (by kernel_rfl))
 f161 := Tryd.func23.trans (congrArg some (by kernel_rfl))
 f197 := Tryd.func51.trans (congrArg some (by kernel_rfl))
 f217 := Tryd.func47.trans (congrArg some (by kernel_rfl))
 f224 := Tryd.func68.trans (congrArg some (by kernel_rfl))
 f225 := Tryd.func67.trans (congrArg some (by kernel_rfl))
 f227 := Tryd.func40.trans (congrArg some (by kernel_rfl))
 f228 := Tryd.func53.trans (congrArg some (by kernel_rfl))
 f231 := Tryd.func39.trans (congrArg some (by kernel_rfl))
 f233 := Tryd.func41.trans (congrArg some (by kernel_rfl))
 f235 := Tryd.func42.trans (congrArg some (by kernel_rfl))
 f260 := Tryd.func66.trans (congrArg some (by kernel_rfl))
 f266 := Tryd.func61.trans (congrArg some (by kernel_rfl))
 t0 := Tryd.underlying0
 a0 := Tryd.isAgg0
 z0 := Tryd.sizeOf0
 v0 := Tryd.zeroValue0
 t3 := Tryd.underlying3
 a3 := Tryd.isAgg3
 z3 := Tryd.sizeOf3
 v3 := Tryd.zeroValue3
 t4 := Tryd.underlying4
 a4 := Tryd.isAgg4
 z4 := Tryd.sizeOf4
 v4 := Tryd.zeroValue4
 t5 := Tryd.underlying5
 a5 := Tryd.isAgg5
 z5 := Tryd.sizeOf5
 v5 := Tryd.zeroValue5
 t9 := Tryd.underlying9
 a9 := Tryd.isAgg9
 z9 := Tryd.sizeOf9
 v9 := Tryd.zeroValue9
 t21 := Tryd.underlying21
 a21 := Tryd.isAgg21
 z21 := Tryd.sizeOf21
 v21 := Tryd.zeroValue21
 t46 := Tryd.underlying24
 a46 := Tryd.isAgg24
 z46 := Tryd.sizeOf24
 v46 := Tryd.zeroValue24
 t105 := Tryd.underlying72
 a105 := Tryd.isAgg72
 z105 := Tryd.sizeOf72
 v105 := Tryd.zeroValue72
 t116 := Tryd.underlying60
 a116 := Tryd.isAgg60
 z116 := Tryd.sizeOf60
 t117 := Tryd.underlying61
 a117 := Tryd.isAgg61
 z117 := Tryd.sizeOf61
 v117 := Tryd.zeroValue61
 t119 := Tryd.underlying57
 a119 := Tryd.isAgg57
 z119 := Tryd.sizeOf57
 t124 := Tryd.underlying64
 a124 := Tryd.isAgg64
 z124 := Tryd.sizeOf64
 v124 := Tryd.zeroValue64
 t138 := Tryd.underlying98
 a138 := Tryd.isAgg98
 z138 := Tryd.sizeOf98
 v138 := Tryd.zeroValue98
 t139 := Tryd.underlying99
 a139 := Tryd.isAgg99
 z139 := Tryd.sizeOf99
 v139 := Tryd.zeroValue99
 g3 := by kernel_rfl
 g4 := by kernel_rfl }
open Go.RowKit in
theorem Tryd.strings_TrimLeft_one (s : ByteArray) (c : UInt8) (hc : c.toNat < 128) (w : World) :
  Calls Tryd.prog 23 #[.string s, .string ⟨#[c]⟩] w fun e w' => e = .returned (.string ⟨(Lib.trimLeftB s.data.toList c).toArray⟩) ∧ w' = w := Any.strings_TrimLeft_one Tryd.lays161 s c hc w
def Tryd.lays163_ren : Go.Shelf.Ren := ⟨fun | 163 => 19 | 237 => 33 | 199 => 34 | 238 => 35 | 272 => 48 | 261 => 49 | 273 => 50 | 197 => 51 | 315 => 62 | 311 => 63 | 312 => 64 | 271 => 65 | 260 => 66 | 120 => 71 | n => n, fun | 9 => 9 | 37 => 54 | 3 => 3 | 0 => 0 | 5 => 5 | 4 => 4 | 40 => 56 | 119 => 57 | 21 => 21 | 51 => 68 | 141 => 70 | 105 => 72 | 196 => 86 | 193 => 83 | 198 => 89 | 49 => 87 | 194 => 84 | 201 => 92 | 226 => 95 | 46 => 24 | 227 => 96 | 139 => 99 | 138 => 98 | n => n, fun | 0 => 0 | 6 => 1 | 3 => 3 | 4 => 4 | n => n⟩
theorem Tryd.lays163 : Go.Proofs.Lays.n163 Tryd.prog Tryd.lays163_ren := {
 mixed := by kernel_rfl
 f120 := Tryd.func71.trans (congrArg some (by kernel_rfl))
 f163 := Tryd.func19.trans (congrArg some (by kernel_rfl))
 f197 := Tryd.func51.trans (congrArg some (by kernel_rfl))
 f199 := Tryd.func34.trans (congrArg some (by kernel_rfl))
 f237 := Tryd.func33.trans (congrArg some (by kernel_rfl))
 f238 := Tryd.func35.trans (congrArg some (by kernel_rfl))
 f260 := Tryd.func66.trans (congrArg some (by kernel_rfl))
 f261 := Tryd.func49.trans (congrArg some (by kernel_rfl))
 f271 := Tryd.func65.trans (congrArg some (by kernel_rfl))
 f272 := Tryd.func48.trans (congrArg some (by kernel_rfl))
 f273 := Tryd.func50.trans (congrArg some (by kernel_rfl))
 f311 := Tryd.func63.trans (congrArg some (by kernel_rfl))
 f312 := Tryd.func64.trans (congrArg some (by kernel_rfl))
 f315 := Tryd.func62.trans (congrArg some (by kernel_rfl))
 t0 := Tryd.underlying0
 a0 := Tryd.isAgg0
 z0 := Tryd.sizeOf0
 v0 := Tryd.zeroValue0
 t3 := Tryd.underlying3
 a3 := Tryd.isAgg3
 z3 := Tryd.sizeOf3
 v3 := Tryd.zeroValue3
 t4 := Tryd.underlying4
 a4 := Tryd.isAgg4
 z4 := Tryd.sizeOf4
 v4 := Tryd.zeroValue4
 t5 := Tryd.underlying5
 a5 := Tryd.isAgg5
 z5 := Tryd.sizeOf5
 v5 := Tryd.zeroValue5
 t9 := Tryd.underlying9
 a9 := Tryd.isAgg9
 z9 := Tryd.sizeOf9
 v9 := Tryd.zeroValue9
 t21 := Tryd.underlying21
 a21 := Tryd.isAgg21
 z21 := Tryd.sizeOf21
 v21 := Tryd.zeroValue21
 t37 := Tryd.underlying54
 a37 := Tryd.isAgg54
 z37 := Tryd.sizeOf54
 v37 := Tryd.zeroValue54
 t40 := Tryd.underlying56
 a40 := Tryd.isAgg56
 z40 := Tryd.sizeOf56
 v40 := Tryd.zeroValue56
 t46 := Tryd.underlying24
 a46 := Tryd.isAgg24
 z46 := Tryd.sizeOf24
 v46 := Tryd.zeroValue24
 t49 := Tryd.underlying87
 a49 := Tryd.isAgg87
 z49 := Tryd.sizeOf87
 v49 := Tryd.zeroValue87
 t51 := Tryd.underlying68
 a51 := Tryd.isAgg68
 z51 := Tryd.sizeOf68
 v51 := Tryd.zeroValue68
 t105 := Tryd.underlying72
 a105 := Tryd.isAgg72
 z105 := Tryd.sizeOf72
 v105 := Tryd.zeroValue72
 t119 := Tryd.underlying57
 a119 := Tryd.isAgg57
 z119 := Tryd.sizeOf57
 t138 := Tryd.underlying98
 a138 := Tryd.isAgg98
 z138 := Tryd.sizeOf98
 v138 := Tryd.zeroValue98
 t139 := Tryd.underlying99
 a139 := Tryd.isAgg99
 z139 := Tryd.sizeOf99
 v139 := Tryd.zeroValue99
 t141 := Tryd.underlying70
 a141 := Tryd.isAgg70
 z141 := Tryd.sizeOf70
 v141 := Tryd.zeroValue70
 t193 := Tryd.underlying83
 a193 := Tryd.isAgg83
 z193 := Tryd.sizeOf83
 v193 := Tryd.zeroValue83
 t194 := Tryd.underlying84
 a194 := Tryd.isAgg84
 z194 := Tryd.sizeOf84
 v194 := Tryd.zeroValue84
 t196 := Tryd.underlying86
 a196 := Tryd.isAgg86
 z196 := Tryd.sizeOf86
 v196 := Tryd.zeroValue86
 t198 := Tryd.underlying89
 a198 := Tryd.isAgg89
 z198 := Tryd.sizeOf89
 v198 := Tryd.zeroValue89
 t201 := Tryd.underlying92
 a201 := Tryd.isAgg92
 z201 := Tryd.sizeOf92
 v201 := Tryd.zeroValue92
 t226 := Tryd.underlying95
 a226 := Tryd.isAgg95
 z226 := Tryd.sizeOf95
 v226 := Tryd.zeroValue95
 t227 := Tryd.underlying96
 a227 := Tryd.isAgg96
 z227 := Tryd.sizeOf96
 v227 := Tryd.zeroValue96
 g0 := by kernel_rfl
 g3 := by kernel_rfl
 g4 := by kernel_rfl
 g6 := by kernel_rfl }
theorem Tryd.Space_Extra_163 : Space.Extra Tryd.prog Tryd.lays163_ren := {
 gNamed := by kernel_rfl }
open Go.RowKit in
theorem Tryd.strings_TrimSpace (s : ByteArray) (w : World) (hs : s.size ≤ 9223372036854775807) (hascii : ∀ (j : Nat) b, s.data.toList[j]? = some b → b.toNat < 128) (htab : Lib.TabIs Tryd.prog w "strings.asciiSpace" .u8 Lib.asciiSpaceTab) :
  Calls Tryd.prog 19 #[.string s] w fun e w' => e = .returned (.string ⟨(Lib.trimSpace s.data.toList).toArray⟩) ∧ w' = Lib.bytesWorld w 5 s := Any.strings_TrimSpace Tryd.lays163 Tryd.Space_Extra_163 s w hs hascii htab
def Tryd.lays137_ren : Go.Shelf.Ren := ⟨fun | 137 => 31 | 217 => 47 | 266 => 61 | n => n, fun | 9 => 9 | 5 => 5 | 3 => 3 | n => n, fun | n => n⟩
theorem Tryd.lays137 : Go.Proofs.Lays.n137 Tryd.prog Tryd.lays137_ren := {
 mixed := by kernel_rfl
 f137 := Tryd.func31.trans (congrArg some (by kernel_rfl))
 f217 := Tryd.func47.trans (congrArg some (by kernel_rfl))
 f266 := Tryd.func61.trans (congrArg some (by kernel_rfl))
 t3 := Tryd.underlying3
 a3 := Tryd.isAgg3
 z3 := Tryd.sizeOf3
 v3 := Tryd.zeroValue3
 t5 := Tryd.underlying5
 a5 := Tryd.isAgg5
 z5 := Tryd.sizeOf5
 v5 := Tryd.zeroValue5
 t9 := Tryd.underlying9
 a9 := Tryd.isAgg9
 z9 := Tryd.sizeOf9
 v9 := Tryd.zeroValue9 }
open Go.RowKit in
theorem Tryd.strings_IndexByte (s : ByteArray) (c : Int) (w : World) :
  Calls Tryd.prog 31 #[.string s, .int .u8 c] w fun e w' => e = .returned (.int .i64 (Lib.indexByte s.data.toList c.toNat.toUInt8)) ∧ w' = w := Any.strings_IndexByte Tryd.lays137 s c w
def Tryd.lays103_ren : Go.Shelf.Ren := ⟨fun | 103 => 18 | 210 => 32 | 206 => 38 | n => n, fun | 9 => 9 | 4 => 4 | 24 => 42 | 3 => 3 | n => n, fun | n => n⟩
theorem Tryd.lays103 : Go.Proofs.Lays.n103 Tryd.prog Tryd.lays103_ren := {
 mixed := by kernel_rfl
 f103 := Tryd.func18.trans (congrArg some (by kernel_rfl))
 f206 := Tryd.func38.trans (congrArg some (by kernel_rfl))
 f210 := Tryd.func32.trans (congrArg some (by kernel_rfl))
 t3 := Tryd.underlying3
 a3 := Tryd.isAgg3
 z3 := Tryd.sizeOf3
 v3 := Tryd.zeroValue3
 t4 := Tryd.underlying4
 a4 := Tryd.isAgg4
 z4 := Tryd.sizeOf4
 v4 := Tryd.zeroValue4
 t9 := Tryd.underlying9
 a9 := Tryd.isAgg9
 z9 := Tryd.sizeOf9
 v9 := Tryd.zeroValue9
 t24 := Tryd.underlying42
 a24 := Tryd.isAgg42
 z24 := Tryd.sizeOf42
 v24 := Tryd.zeroValue42 }
open Go.RowKit in
theorem Tryd.strings_CutPrefix (s p : ByteArray) (w : World) :
  Calls Tryd.prog 18 #[.string s, .string p] w fun e w' => e = .returned (.tuple #[.string ⟨(Lib.trimPrefix s.data.toList p.data.toList).toArray⟩, .bool (Lib.hasPrefix s.data.toList p.data.toList)]) ∧ w' = w := Any.strings_CutPrefix Tryd.lays103 s p w
def Tryd.lays145_ren : Go.Shelf.Ren := ⟨fun | 145 => 21 | 220 => 37 | 219 => 52 | 217 => 47 | 225 => 67 | 224 => 68 | 267 => 69 | 266 => 61 | 314 => 72 | n => n, fun | 9 => 9 | 4 => 4 | 59 => 45 | 3 => 3 | 5 => 5 | 46 => 24 | 146 => 100 | 51 => 68 | n => n, fun | 1 => 2 | n => n⟩
theorem Tryd.lays145 : Go.Proofs.Lays.n145 Tryd.prog Tryd.lays145_ren := {
 mixed := by kernel_rfl
 f145 := Tryd.func21.trans (congrArg some (by kernel_rfl))
 f217 := Tryd.func47.trans (congrArg some (by kernel_rfl))
 f219 := Tryd.func52.trans (congrArg some (by kernel_rfl))
 f220 := Tryd.func37.trans (congrArg some (by kernel_rfl))
 f224 := Tryd.func68.trans (congrArg some (by kernel_rfl))
 f225 := Tryd.func67.trans (congrArg some (by kernel_rfl))
 f266 := Tryd.func61.trans (congrArg some (by kernel_rfl))
 f267 := Tryd.func69.trans (congrArg some (by kernel_rfl))
 f314 := Tryd.func72.trans (congrArg some (by kernel_rfl))
 t3 := Tryd.underlying3
 a3 := Tryd.isAgg3
 z3 := Tryd.sizeOf3
 v3 := Tryd.zeroValue3
 t4 := Tryd.underlying4
 a4 := Tryd.isAgg4
 z4 := Tryd.sizeOf4
 v4 := Tryd.zeroValue4
 t5 := Tryd.underlying5
 a5 := Tryd.isAgg5
 z5 := Tryd.sizeOf5
 v5 := Tryd.zeroValue5
 t9 := Tryd.underlying9
 a9 := Tryd.isAgg9
 z9 := Tryd.sizeOf9
 v9 := Tryd.zeroValue9
 t46 := Tryd.underlying24
 a46 := Tryd.isAgg24
 z46 := Tryd.sizeOf24
 v46 := Tryd.zeroValue24
 t51 := Tryd.underlying68
 a51 := Tryd.isAgg68
 z51 := Tryd.sizeOf68
 v51 := Tryd.zeroValue68
 t59 := Tryd.underlying45
 a59 := Tryd.isAgg45
 z59 := Tryd.sizeOf45
 v59 := Tryd.zeroValue45
 t146 := Tryd.underlying100
 a146 := Tryd.isAgg100
 z146 := Tryd.sizeOf100
 v146 := Tryd.zeroValue100
 g1 := by kernel_rfl }
open Go.RowKit Go.Lib in
theorem Tryd.strings_Cut (s sep : ByteArray) (m : Int) (w : World) (hs : s.size < 4294967281) (hm : w.cell? ⟨2, 0, none⟩ = some (.int .i64 m)) :
  Calls Tryd.prog 21 #[.string s, .string sep] w fun e w' => e = .returned (.tuple #[.string ⟨(Lib.cut s.data.toList sep.data.toList).1.toArray⟩, .string ⟨(Lib.cut s.data.toList sep.data.toList).2.1.toArray⟩, .bool (Lib.cut s.data.toList sep.data.toList).2.2]) ∧ ∃ n, w' = w.drewN n := Any.strings_Cut Tryd.lays145 s sep m w hs hm
def Tryd.lays138_ren : Go.Shelf.Ren := ⟨fun | 138 => 44 | 195 => 57 | 218 => 58 | 143 => 59 | 219 => 52 | 217 => 47 | 225 => 67 | 224 => 68 | 267 => 69 | 266 => 61 | 314 => 72 | n => n, fun | 9 => 9 | 3 => 3 | 4 => 4 | 5 => 5 | 0 => 0 | 46 => 24 | 146 => 100 | 51 => 68 | n => n, fun | 1 => 2 | n => n⟩
theorem Tryd.lays138 : Go.Proofs.Lays.n138 Tryd.prog Tryd.lays138_ren := {
 mixed := by kernel_rfl
 f138 := Tryd.func44.trans (congrArg some (by kernel_rfl))
 f143 := Tryd.func59.trans (congrArg some (by kernel_rfl))
 f195 := Tryd.func57.trans (congrArg some (by kernel_rfl))
 f217 := Tryd.func47.trans (congrArg some (by kernel_rfl))
 f218 := Tryd.func58.trans (congrArg some (by kernel_rfl))
 f219 := Tryd.func52.trans (congrArg some (by kernel_rfl))
 f224 := Tryd.func68.trans (congrArg some (by kernel_rfl))
 f225 := Tryd.func67.trans (congrArg some (by kernel_rfl))
 f266 := Tryd.func61.trans (congrArg some (by kernel_rfl))
 f267 := Tryd.func69.trans (congrArg some (by kernel_rfl))
 f314 := Tryd.func72.trans (congrArg some (by kernel_rfl))
 t0 := Tryd.underlying0
 a0 := Tryd.isAgg0
 z0 := Tryd.sizeOf0
 v0 := Tryd.zeroValue0
 t3 := Tryd.underlying3
 a3 := Tryd.isAgg3
 z3 := Tryd.sizeOf3
 v3 := Tryd.zeroValue3
 t4 := Tryd.underlying4
 a4 := Tryd.isAgg4
 z4 := Tryd.sizeOf4
 v4 := Tryd.zeroValue4
 t5 := Tryd.underlying5
 a5 := Tryd.isAgg5
 z5 := Tryd.sizeOf5
 v5 := Tryd.zeroValue5
 t9 := Tryd.underlying9
 a9 := Tryd.isAgg9
 z9 := Tryd.sizeOf9
 v9 := Tryd.zeroValue9
 t46 := Tryd.underlying24
 a46 := Tryd.isAgg24
 z46 := Tryd.sizeOf24
 v46 := Tryd.zeroValue24
 t51 := Tryd.underlying68
 a51 := Tryd.isAgg68
 z51 := Tryd.sizeOf68
 v51 := Tryd.zeroValue68
 t146 := Tryd.underlying100
 a146 := Tryd.isAgg100
 z146 := Tryd.sizeOf100
 v146 := Tryd.zeroValue100
 g1 := by kernel_rfl }
open Go.RowKit Go.Lib in
theorem Tryd.strings_Count_one (s : ByteArray) (c : UInt8) (w : World) :
  Calls Tryd.prog 44 #[.string s, .string ⟨#[c]⟩] w fun e w' => e = .returned (.int .i64 (Lib.countByte s.data.toList c)) ∧ w' = w := Any.strings_Count_one Tryd.lays138 s c w
def Tryd.lays99_ren : Go.Shelf.Ren := ⟨fun | 99 => 22 | 206 => 38 | n => n, fun | 9 => 9 | 4 => 4 | 3 => 3 | n => n, fun | n => n⟩
theorem Tryd.lays99 : Go.Proofs.Lays.n99 Tryd.prog Tryd.lays99_ren := {
 mixed := by kernel_rfl
 f99 := Tryd.func22.trans (congrArg some (by kernel_rfl))
 f206 := Tryd.func38.trans (congrArg some (by kernel_rfl))
 t3 := Tryd.underlying3
 a3 := Tryd.isAgg3
 z3 := Tryd.sizeOf3
 v3 := Tryd.zeroValue3
 t4 := Tryd.underlying4
 a4 := Tryd.isAgg4
 z4 := Tryd.sizeOf4
 v4 := Tryd.zeroValue4
 t9 := Tryd.underlying9
 a9 := Tryd.isAgg9
 z9 := Tryd.sizeOf9
 v9 := Tryd.zeroValue9 }
open Go.RowKit Go.Lib in
theorem Tryd.strings_HasPrefix (s p : ByteArray) (w : World) :
  Calls Tryd.prog 22 #[.string s, .string p] w fun e w' => e = .returned (.bool (Lib.hasPrefix s.data.toList p.data.toList)) ∧ w' = w := Any.strings_HasPrefix Tryd.lays99 s p w
def Tryd.lays101_ren : Go.Shelf.Ren := ⟨fun | 101 => 20 | 208 => 36 | 206 => 38 | n => n, fun | 9 => 9 | 4 => 4 | 3 => 3 | n => n, fun | n => n⟩
theorem Tryd.lays101 : Go.Proofs.Lays.n101 Tryd.prog Tryd.lays101_ren := {
 mixed := by kernel_rfl
 f101 := Tryd.func20.trans (congrArg some (by kernel_rfl))
 f206 := Tryd.func38.trans (congrArg some (by kernel_rfl))
 f208 := Tryd.func36.trans (congrArg some (by kernel_rfl))
 t3 := Tryd.underlying3
 a3 := Tryd.isAgg3
 z3 := Tryd.sizeOf3
 v3 := Tryd.zeroValue3
 t4 := Tryd.underlying4
 a4 := Tryd.isAgg4
 z4 := Tryd.sizeOf4
 v4 := Tryd.zeroValue4
 t9 := Tryd.underlying9
 a9 := Tryd.isAgg9
 z9 := Tryd.sizeOf9
 v9 := Tryd.zeroValue9 }
open Go.RowKit Go.Lib in
theorem Tryd.strings_TrimPrefix (s p : ByteArray) (w : World) :
  Calls Tryd.prog 20 #[.string s, .string p] w fun e w' => e = .returned (.string ⟨(Lib.trimPrefix s.data.toList p.data.toList).toArray⟩) ∧ w' = w := Any.strings_TrimPrefix Tryd.lays101 s p w
def Tryd.lays221_ren : Go.Shelf.Ren := ⟨fun | 221 => 45 | 268 => 60 | 138 => 44 | 143 => 59 | 195 => 57 | 197 => 51 | 218 => 58 | 219 => 52 | 260 => 66 | 217 => 47 | 225 => 67 | 224 => 68 | 267 => 69 | 266 => 61 | 314 => 72 | n => n, fun | 9 => 9 | 3 => 3 | 31 => 22 | 4 => 4 | 0 => 0 | 105 => 72 | 21 => 21 | 5 => 5 | 46 => 24 | 119 => 57 | 139 => 99 | 138 => 98 | 146 => 100 | 51 => 68 | n => n, fun | 1 => 2 | 3 => 3 | 4 => 4 | n => n⟩
theorem Tryd.lays221 : Go.Proofs.Lays.n221 Tryd.prog Tryd.lays221_ren := {
 mixed := by kernel_rfl
 f138 := Tryd.func44.trans (congrArg some (by kernel_rfl))
 f143 := Tryd.func59.trans (congrArg some (by kernel_rfl))
 f195 := Tryd.func57.trans (congrArg some (by kernel_rfl))
 f197 := Tryd.func51.trans (congrArg some (by kernel_rfl))
 f217 := Tryd.func47.trans (congrArg some (by kernel_rfl))
 f218 := Tryd.func58.trans (congrArg some (by kernel_rfl))
 f219 := Tryd.func52.trans (congrArg some (by kernel_rfl))
 f221 := Tryd.func45.trans (congrArg some (by kernel_rfl))
 f224 := Tryd.func68.trans (congrArg some (by kernel_rfl))
 f225 := Tryd.func67.trans (congrArg some (by kernel_rfl))
 f260 := Tryd.func66.trans (congrArg some (by kernel_rfl))
 f266 := Tryd.func61.trans (congrArg some (by kernel_rfl))
 f267 := Tryd.func69.trans (congrArg some (by kernel_rfl))
 f268 := Tryd.func60.trans (congrArg some (by kernel_rfl))
 f314 := Tryd.func72.trans (congrArg some (by kernel_rfl))
 t0 := Tryd.underlying0
 a0 := Tryd.isAgg0
 z0 := Tryd.sizeOf0
 v0 := Tryd.zeroValue0
 t3 := Tryd.underlying3
 a3 := Tryd.isAgg3
 z3 := Tryd.sizeOf3
 v3 := Tryd.zeroValue3
 t4 := Tryd.underlying4
 a4 := Tryd.isAgg4
 z4 := Tryd.sizeOf4
 v4 := Tryd.zeroValue4
 t5 := Tryd.underlying5
 a5 := Tryd.isAgg5
 z5 := Tryd.sizeOf5
 v5 := Tryd.zeroValue5
 t9 := Tryd.underlying9
 a9 := Tryd.isAgg9
 z9 := Tryd.sizeOf9
 v9 := Tryd.zeroValue9
 t21 := Tryd.underlying21
 a21 := Tryd.isAgg21
 z21 := Tryd.sizeOf21
 v21 := Tryd.zeroValue21
 t31 := Tryd.underlying22
 a31 := Tryd.isAgg22
 z31 := Tryd.sizeOf22
 v31 := Tryd.zeroValue22
 t46 := Tryd.underlying24
 a46 := Tryd.isAgg24
 z46 := Tryd.sizeOf24
 v46 := Tryd.zeroValue24
 t51 := Tryd.underlying68
 a51 := Tryd.isAgg68
 z51 := Tryd.sizeOf68
 v51 := Tryd.zeroValue68
 t105 := Tryd.underlying72
 a105 := Tryd.isAgg72
 z105 := Tryd.sizeOf72
 v105 := Tryd.zeroValue72
 t119 := Tryd.underlying57
 a119 := Tryd.isAgg57
 z119 := Tryd.sizeOf57
 t138 := Tryd.underlying98
 a138 := Tryd.isAgg98
 z138 := Tryd.sizeOf98
 v138 := Tryd.zeroValue98
 t139 := Tryd.underlying99
 a139 := Tryd.isAgg99
 z139 := Tryd.sizeOf99
 v139 := Tryd.zeroValue99
 t146 := Tryd.underlying100
 a146 := Tryd.isAgg100
 z146 := Tryd.sizeOf100
 v146 := Tryd.zeroValue100
 g1 := by kernel_rfl
 g3 := by kernel_rfl
 g4 := by kernel_rfl }
open Go.RowKit Go.Lib in
theorem Tryd.strings_genSplit (s sep : ByteArray) (sv : Nat) (n : Int) (N : Nat) (m : Int) (w : World) (hs : s.size < 4294967281) (hm : w.cell? ⟨2, 0, none⟩ = some (.int .i64 m)) (h1 : 1 ≤ sep.size) (hsv : sv ≤ sep.size) (hn0 : n ≠ 0) (hn63 : n ≤ 9223372036854775807) (hN : (N : Int) = min (if n < 0 then (Lib.countB s sep : Int) + 1 else n) ((s.size : Int) + 1)) :
  Calls Tryd.prog 45 #[.string s, .string sep, .int .i64 sv, .int .i64 n] w fun e w' =>
   e = .returned (.slice (some ⟨w.heap.size, 0, none⟩) (Lib.splitB sep sv (N - 1) s).length N) ∧ w' = w.alloc (.cells (Lib.cellsOf (Lib.splitB sep sv (N - 1) s) N) 9) := Any.strings_genSplit Tryd.lays221 (by kernel_rfl) s sep sv n N m w hs hm h1 hsv hn0 hn63 hN
def Tryd.lays157_ren : Go.Shelf.Ren := ⟨fun | 157 => 29 | 229 => 46 | 199 => 34 | 261 => 49 | 311 => 63 | 312 => 64 | n => n, fun | 9 => 9 | 31 => 22 | 3 => 3 | 5 => 5 | 4 => 4 | 119 => 57 | 0 => 0 | 40 => 56 | 152 => 80 | 21 => 21 | 154 => 82 | 51 => 68 | 141 => 70 | 196 => 86 | 193 => 83 | 198 => 89 | 49 => 87 | 194 => 84 | 201 => 92 | 226 => 95 | 46 => 24 | 227 => 96 | n => n, fun | 0 => 0 | 6 => 1 | n => n⟩
theorem Tryd.lays157 : Go.Proofs.Lays.n157 Tryd.prog Tryd.lays157_ren := {
 mixed := by kernel_rfl
 f157 := Tryd.func29.trans (congrArg some (by kernel_rfl))
 f199 := Tryd.func34.trans (congrArg some (by kernel_rfl))
 f229 := Tryd.func46.trans (congrArg some (by kernel_rfl))
 f261 := Tryd.func49.trans (congrArg some (by kernel_rfl))
 f311 := Tryd.func63.trans (congrArg some (by kernel_rfl))
 f312 := Tryd.func64.trans (congrArg some (by kernel_rfl))
 t0 := Tryd.underlying0
 a0 := Tryd.isAgg0
 z0 := Tryd.sizeOf0
 v0 := Tryd.zeroValue0
 t3 := Tryd.underlying3
 a3 := Tryd.isAgg3
 z3 := Tryd.sizeOf3
 v3 := Tryd.zeroValue3
 t4 := Tryd.underlying4
 a4 := Tryd.isAgg4
 z4 := Tryd.sizeOf4
 v4 := Tryd.zeroValue4
 t5 := Tryd.underlying5
 a5 := Tryd.isAgg5
 z5 := Tryd.sizeOf5
 v5 := Tryd.zeroValue5
 t9 := Tryd.underlying9
 a9 := Tryd.isAgg9
 z9 := Tryd.sizeOf9
 v9 := Tryd.zeroValue9
 t21 := Tryd.underlying21
 a21 := Tryd.isAgg21
 z21 := Tryd.sizeOf21
 v21 := Tryd.zeroValue21
 t31 := Tryd.underlying22
 a31 := Tryd.isAgg22
 z31 := Tryd.sizeOf22
 v31 := Tryd.zeroValue22
 t40 := Tryd.underlying56
 a40 := Tryd.isAgg56
 z40 := Tryd.sizeOf56
 v40 := Tryd.zeroValue56
 t46 := Tryd.underlying24
 a46 := Tryd.isAgg24
 z46 := Tryd.sizeOf24
 v46 := Tryd.zeroValue24
 t49 := Tryd.underlying87
 a49 := Tryd.isAgg87
 z49 := Tryd.sizeOf87
 v49 := Tryd.zeroValue87
 t51 := Tryd.underlying68
 a51 := Tryd.isAgg68
 z51 := Tryd.sizeOf68
 v51 := Tryd.zeroValue68
 t119 := Tryd.underlying57
 a119 := Tryd.isAgg57
 z119 := Tryd.sizeOf57
 t141 := Tryd.underlying70
 a141 := Tryd.isAgg70
 z141 := Tryd.sizeOf70
 v141 := Tryd.zeroValue70
 t152 := Tryd.underlying80
 a152 := Tryd.isAgg80
 z152 := Tryd.sizeOf80
 v152 := Tryd.zeroValue80
 t154 := Tryd.underlying82
 a154 := Tryd.isAgg82
 z154 := Tryd.sizeOf82
 v154 := Tryd.zeroValue82
 t193 := Tryd.underlying83
 a193 := Tryd.isAgg83
 z193 := Tryd.sizeOf83
 v193 := Tryd.zeroValue83
 t194 := Tryd.underlying84
 a194 := Tryd.isAgg84
 z194 := Tryd.sizeOf84
 v194 := Tryd.zeroValue84
 t196 := Tryd.underlying86
 a196 := Tryd.isAgg86
 z196 := Tryd.sizeOf86
 v196 := Tryd.zeroValue86
 t198 := Tryd.underlying89
 a198 := Tryd.isAgg89
 z198 := Tryd.sizeOf89
 v198 := Tryd.zeroValue89
 t201 := Tryd.underlying92
 a201 := Tryd.isAgg92
 z201 := Tryd.sizeOf92
 v201 := Tryd.zeroValue92
 t226 := Tryd.underlying95
 a226 := Tryd.isAgg95
 z226 := Tryd.sizeOf95
 v226 := Tryd.zeroValue95
 t227 := Tryd.underlying96
 a227 := Tryd.isAgg96
 z227 := Tryd.sizeOf96
 v227 := Tryd.zeroValue96
 g0 := by kernel_rfl
 g6 := by kernel_rfl }
open Go.RowKit Go.Lib in
theorem Tryd.strings_Fields (s : ByteArray) (w : World) (hs : s.size < 4294967281) (hascii : ∀ (j : Nat) b, s.data.toList[j]? = some b → b.toNat < 128) (htab : Lib.TabIs Tryd.prog w "strings.asciiSpace" .u8 Lib.asciiSpaceTab) :
  Calls Tryd.prog 29 #[.string s] w fun e w' =>
   e = .returned (.slice (some ⟨w.heap.size, 0, none⟩) (Lib.fields s.data.toList).length (Lib.fields s.data.toList).length) ∧ w' = w.alloc (.cells ((Lib.fields s.data.toList).map fun l => Value.string ⟨l.toArray⟩).toArray 9) := Any.strings_Fields Tryd.lays157 (by kernel_rfl) (by kernel_rfl) s w hs hascii htab
def Tryd.lays153_ren : Go.Shelf.Ren := ⟨fun | 153 => 43 | 152 => 55 | 226 => 56 | 227 => 40 | 228 => 53 | 137 => 31 | 119 => 70 | 224 => 68 | 225 => 67 | 217 => 47 | 266 => 61 | n => n, fun | 9 => 9 | 3 => 3 | 4 => 4 | 5 => 5 | 21 => 21 | 117 => 61 | 116 => 60 | 0 => 0 | 46 => 24 | 124 => 64 | n => n, fun | n => n⟩
theorem Tryd.lays153 : Go.Proofs.Lays.n153 Tryd.prog Tryd.lays153_ren := {
 mixed := by kernel_rfl
 f119 := Tryd.func70.trans (congrArg some (by kernel_rfl))
 f137 := Tryd.func31.trans (congrArg some (by kernel_rfl))
 f152 := Tryd.func55.trans (congrArg some (by kernel_rfl))
 f153 := Tryd.func43.trans (congrArg some (by kernel_rfl))
 f217 := Tryd.func47.trans (congrArg some (by kernel_rfl))
 f224 := Tryd.func68.trans (congrArg some (by kernel_rfl))
 f225 := Tryd.func67.trans (congrArg some (by kernel_rfl))
 f226 := Tryd.func56.trans (congrArg some (by kernel_rfl))
 f227 := Tryd.func40.trans (congrArg some (by kernel_rfl))
 f228 := Tryd.func53.trans (congrArg some (by kernel_rfl))
 f266 := Tryd.func61.trans (congrArg some (by kernel_rfl))
 t0 := Tryd.underlying0
 a0 := Tryd.isAgg0
 z0 := Tryd.sizeOf0
 v0 := Tryd.zeroValue0
 t3 := Tryd.underlying3
 a3 := Tryd.isAgg3
 z3 := Tryd.sizeOf3
 v3 := Tryd.zeroValue3
 t4 := Tryd.underlying4
 a4 := Tryd.isAgg4
 z4 := Tryd.sizeOf4
 v4 := Tryd.zeroValue4
 t5 := Tryd.underlying5
 a5 := Tryd.isAgg5
 z5 := Tryd.sizeOf5
 v5 := Tryd.zeroValue5
 t9 := Tryd.underlying9
 a9 := Tryd.isAgg9
 z9 := Tryd.sizeOf9
 v9 := Tryd.zeroValue9
 t21 := Tryd.underlying21
 a21 := Tryd.isAgg21
 z21 := Tryd.sizeOf21
 v21 := Tryd.zeroValue21
 t46 := Tryd.underlying24
 a46 := Tryd.isAgg24
 z46 := Tryd.sizeOf24
 v46 := Tryd.zeroValue24
 t116 := Tryd.underlying60
 a116 := Tryd.isAgg60
 z116 := Tryd.sizeOf60
 t117 := Tryd.underlying61
 a117 := Tryd.isAgg61
 z117 := Tryd.sizeOf61
 v117 := Tryd.zeroValue61
 t124 := Tryd.underlying64
 a124 := Tryd.isAgg64
 z124 := Tryd.sizeOf64
 v124 := Tryd.zeroValue64 }
open Go.RowKit Go.Lib in
theorem Tryd.strings_IndexAny_laid (s chars : ByteArray) (w : World) (hs : s.size < 4294967281) (hcs : chars.size < 4294967281) (has : ∀ (j : Nat) b, s.data.toList[j]? = some b → b.toNat < 128) (hac : ∀ (j : Nat) b, chars.data.toList[j]? = some b → b.toNat < 128) :
  Calls Tryd.prog 43 #[.string s, .string chars] w fun e w' => e = .returned (.int .i64 (Lib.indexAny s.data.toList chars.data.toList)) ∧ Below w.heap.size w w' := Any.strings_IndexAny_laid Tryd.lays153 (by kernel_rfl) s chars w hs hcs has hac
end Go.Proofs
namespace Go.AX
end Go.AX
namespace Go.Proofs.YtkgmaplkomhjdaaDoor
open Go.AX Go.RowKit
set_option maxRecDepth 20000
def MaxF (w : World) : Prop := ∃ m, w.cell? ⟨2, 0, none⟩ = some (.int .i64 m)
theorem HasPrefix_c (s p : List UInt8) : ∀ H, SpecH Tryd.prog 22 (pvs [.string (bs s), .string (bs p)]) H (Ret (.bool (p.isPrefixOf s)) H) := fun H =>
 SpecH.rawP (R := fun r => r = .bool (p.isPrefixOf s)) (callOk Tryd.func22 (by kernel_rfl) rfl)
  (fun w _ => (Tryd.strings_HasPrefix (bs s) (bs p) w).mono fun e w' ⟨he, hw⟩ => ⟨_, he, by rw [bs_list, bs_list]; rfl, by subst hw; exact Below.refl _ _⟩) fun r hr => by subst hr; exact ⟨rfl, rfl⟩
theorem IndexByte_c (s : List UInt8) (c : UInt8) : ∀ H, SpecH Tryd.prog 31 (pvs [.string (bs s), .int .u8 (c.toNat : Int)]) H (Ret (.int .i64 (Lib.indexByte s c)) H) := fun H =>
 SpecH.rawP (R := fun r => r = .int .i64 (Lib.indexByte s c)) (callOk Tryd.func31 (by kernel_rfl) rfl)
  (fun w _ => (Tryd.strings_IndexByte (bs s) (c.toNat : Int) w).mono fun e w' ⟨he, hw⟩ => ⟨_, he, by rw [bs_list]; simp, by subst hw; exact Below.refl _ _⟩) fun r hr => by subst hr; exact ⟨rfl, rfl⟩
theorem Count1_c (s : List UInt8) (c : UInt8) : ∀ H, SpecH Tryd.prog 44 (pvs [.string (bs s), .string (bs [c])]) H (Ret (.int .i64 (s.count c : Nat)) H) := fun H =>
 SpecH.rawP (R := fun r => r = .int .i64 (s.count c : Nat)) (callOk Tryd.func44 (by kernel_rfl) rfl)
  (fun w _ => (Tryd.strings_Count_one (bs s) c w).mono fun e w' ⟨he, hw⟩ => ⟨_, he, by rw [bs_list]; rfl, by subst hw; exact Below.refl _ _⟩) fun r hr => by subst hr; exact ⟨rfl, rfl⟩
theorem Cut_c (s p : List UInt8) (hs : s.length < 4294967281) : ∀ H, (∀ w, Facts H w → MaxF w) → SpecH Tryd.prog 21 (pvs [.string (bs s), .string (bs p)]) H (Ret (.tuple #[.string (bs (Lib.cut s p).1), .string (bs (Lib.cut s p).2.1), .bool (Lib.cut s p).2.2]) H) := fun H hF =>
 SpecH.rawP (R := fun r => r = .tuple #[.string (bs (Lib.cut s p).1), .string (bs (Lib.cut s p).2.1), .bool (Lib.cut s p).2.2]) (callOk Tryd.func21 (by kernel_rfl) rfl)
  (fun w hw => by
   obtain ⟨m, hm⟩ := hF w hw
   exact (Tryd.strings_Cut (bs s) (bs p) m w (by rw [bs_size]; exact hs) hm).mono fun e w' ⟨he, hw⟩ => ⟨_, he, by rw [bs_list, bs_list]; rfl, by obtain ⟨n, rfl⟩ := hw; exact ⟨rfl, rfl, rfl, Nat.le_refl _, fun _ _ => rfl⟩⟩) fun r hr => by subst hr; exact ⟨rfl, rfl⟩
end Go.Proofs.YtkgmaplkomhjdaaDoor
namespace Go.Proofs.YtkgmaplkomhjdaaDoor
open Go.ChangeShapes Go.WideShapes Go.ChangeAt Go.RowKit Go.AX
set_option maxRecDepth 100000
theorem own0 : ownKnob Tryd.prog.godebug = none := by kernel_rfl
theorem laidOut : laidOutB Tryd.prog = true := by kernel_rfl
theorem max_of {W : World} (h : W.ShapedOpen Tryd.prog) : MaxF W :=
 cell_of_shapedOpen_int (g := 2) (t := 3) (zero := #[.int .i64 0]) h (of_decide_eq_true (by kernel_rfl)) (by kernel_rfl) (by kernel_rfl) (by kernel_rfl) (by kernel_rfl) (by kernel_rfl)
theorem max_imm {W : World} (h : MaxF W) : Imm (fun b => b < W.heap.size) W MaxF := by
 refine ⟨h, fun w' hw => ?_⟩
 obtain ⟨m, hm⟩ := h
 exact ⟨m, cell?_keep hm (hw _ (cell?_lt hm))⟩
end Go.Proofs.YtkgmaplkomhjdaaDoor
namespace Go.Pre
def lnA : List UInt8 → List UInt8 → List (List UInt8)
 | acc, [] => if acc = [] then [] else [acc]
 | acc, c :: x => if c = 10 then (acc ++ [c]) :: lnA [] x else lnA (acc ++ [c]) x
def lnL (x : List UInt8) : List (List UInt8) := lnA [] x
theorem lnA_flat : ∀ (x acc : List UInt8), (lnA acc x).flatten = acc ++ x
 | [], acc => by
  unfold lnA
  split
  ·rename_i h; rw [h]; rfl
  ·simp
 | c :: x, acc => by
  unfold lnA
  split
  ·rw [List.flatten_cons, lnA_flat x []]; simp
  ·rw [lnA_flat x (acc ++ [c])]; simp
theorem lnL_flat (x : List UInt8) : (lnL x).flatten = x := lnA_flat x []
theorem lnA_no : ∀ (x acc : List UInt8), Lib.indexByte x 10 = -1 → lnA acc x = if acc ++ x = [] then [] else [acc ++ x]
 | [], acc, _ => by simp [lnA]
 | c :: x, acc, h => by
  unfold Lib.indexByte at h
  by_cases hc : c = 10
  ·subst hc; simp at h
  ·have hb : (c == 10) = false := by simpa using hc
   rw [hb] at h
   have h1 : Lib.indexByte x 10 = -1 := by
    by_cases h2 : Lib.indexByte x 10 = -1
    ·exact h2
    ·have h3 : (Lib.indexByte x 10 == -1) = false := by simpa using h2
     rw [h3] at h
     simp at h
     have := Lib.indexByte_ge x 10
     omega
   unfold lnA
   rw [if_neg hc, lnA_no x (acc ++ [c]) h1]
   simp
theorem lnA_at : ∀ (x acc : List UInt8) (n : Nat), Lib.indexByte x 10 = (n : Int) → n < x.length ∧ lnA acc x = (acc ++ x.take (n + 1)) :: lnA [] (x.drop (n + 1))
 | [], acc, n, h => by simp [Lib.indexByte] at h
 | c :: x, acc, n, h => by
  unfold Lib.indexByte at h
  by_cases hc : c = 10
  ·subst hc
   simp at h
   obtain rfl : n = 0 := by omega
   exact ⟨by simp, by simp [lnA]⟩
  ·have hb : (c == 10) = false := by simpa using hc
   rw [hb] at h
   by_cases h2 : Lib.indexByte x 10 = -1
   ·rw [h2] at h
    simp at h
   ·have h3 : (Lib.indexByte x 10 == -1) = false := by simpa using h2
    rw [h3] at h
    simp at h
    cases n with
    | zero =>
     have := Lib.indexByte_ge x 10
     omega
    | succ n =>
     obtain ⟨h4, h5⟩ := lnA_at x (acc ++ [c]) n (by omega)
     refine ⟨by simp; omega, ?_⟩
     rw [lnA, if_neg hc, h5]
     simp
structure LnAt (x : List UInt8) (i : Nat) (y : List UInt8) : Prop where
 left : lnL y = (lnL x).drop i
 le : i ≤ (lnL x).length
theorem LnAt.zero (x : List UInt8) : LnAt x 0 x := ⟨rfl, Nat.zero_le _⟩
theorem LnAt.done {x : List UInt8} {i : Nat} (h : LnAt x i []) : i = (lnL x).length := by
 have h1 : (lnL x).drop i = [] := h.left.symm
 have := congrArg List.length h1
 simp at this
 have := h.le
 omega
theorem LnAt.more {x y : List UInt8} {i : Nat} (h : LnAt x i y) {z r : List UInt8} (e : lnL y = z :: lnL r) : (lnL x)[i]? = some z ∧ LnAt x (i + 1) r ∧ i < (lnL x).length := by
 have h1 : (lnL x).drop i = z :: lnL r := h.left.symm.trans e
 have h2 : (lnL x)[i]? = some z := by
  have := congrArg (fun l => l[0]?) h1
  simpa using this
 have h3 := (List.getElem?_eq_some_iff.1 h2).1
 refine ⟨h2, ⟨?_, h3⟩, h3⟩
 have := congrArg (List.drop 1) h1
 rw [List.drop_drop] at this
 simpa [Nat.add_comm] using this.symm
theorem ln_last {y : List UInt8} (hy : y ≠ []) (h : Lib.indexByte y 10 = -1) : lnL y = y :: lnL [] := by
 rw [lnL, lnA_no y [] h]
 simp [hy, lnL, lnA]
theorem ln_next {y : List UInt8} {n : Nat} (h : Lib.indexByte y 10 = (n : Int)) : n < y.length ∧ lnL y = y.take (n + 1) :: lnL (y.drop (n + 1)) := by
 obtain ⟨h1, h2⟩ := lnA_at y [] n h
 exact ⟨h1, by rw [lnL, h2]; rfl⟩
theorem ix_cases (y : List UInt8) : Lib.indexByte y 10 = -1 ∨ ∃ n : Nat, Lib.indexByte y 10 = (n : Int) := by
 have := Lib.indexByte_ge y 10
 by_cases h : Lib.indexByte y 10 = -1
 ·exact .inl h
 ·exact .inr ⟨(Lib.indexByte y 10).toNat, by omega⟩
end Go.Pre
namespace Go.AX
end Go.AX
namespace Go.AX
end Go.AX
namespace Go.AX
end Go.AX
namespace Go.AX
end Go.AX
namespace Go.AX
theorem EffW.appTo {P : Program} {o : Oper} {s : List AV} {H : List Ent} {K : AV → List Ent → Prop} {Ty T : TypeId} {x y : Operand} {sz n cap b q i : Nat} {xs ys : List Value} {inf : TypeInfo} (zs : List Value) (sz' : Nat) (ho : o.op = .store Ty x y)
  (hx : opv s x = .c (.v (.pointer (some ⟨b, q, none⟩)))) (hi : nthE H i = some (.app T sz xs (some ⟨b, 0, none⟩) n cap)) (hy : avCells (opv s y) = some (vs ys)) (hone : oneCs (vs ys) = true) (hinf : P.info? Ty = some inf) (hlen : ys.length = inf.size)
  (hq : q + ys.length ≤ n * sz) (hz : xs.take q ++ ys ++ xs.drop (q + ys.length) = zs) (hs : sz = sz') (hk : setEK H i (.app T sz' zs (some ⟨b, 0, none⟩) n cap) fun H' => K (.c .any) H') : EffW P o s H K := by
 subst hz; subst hs
 exact EffW.app ho hx hi hy hone hinf hlen hq hk
theorem SpecH.args {P : Program} {f : FuncId} {args args' : List AV} {H : List Ent} {K : Out → List Ent → Prop} (e : args = args') (h : SpecH P f args' H K) : SpecH P f args H K := e ▸ h
end Go.AX
namespace Go.AX
theorem BlindW.val {P : Program} {o : Oper} {s : List AV} {K : AV → Prop} (x : Value) (hp : allPlain s o.op.operands.toList = true) (hrun : ∀ w, (execOp (plainEv s) o).run P w = .ok (.value x) w) (h : K (.c (.v x))) : ∃ x, BlindW P o s K x := ⟨x, hp, hrun, h⟩
end Go.AX
namespace Go.AX
end Go.AX
namespace Go.AX
theorem ReadC.load {P : Program} {C : World → Prop} {o : Oper} {s : List AV} {K : AV → Prop} {T : TypeId} {x : Operand} {p : Addr} (v : Value) (ho : o.op = .load T x) (hx : opv s x = .c (.v (.pointer (some p)))) (hF : ∀ w, C w → (loadVar T p).run P w = .ok v w) (hk : K (.c (.v v))) : ∃ x, ReadC P C o s K x :=
 ⟨v, fun cs b e => (by rw [ho] at e; cases e), by rw [ho]; show allPlain s [x] = true; simp [allPlain, hx], fun w hw => by
  have hx2 : plainEv s x = .pointer (some p) := by unfold plainEv; rw [hx]
  unfold execOp
  simp [ho, hx2, Instr.loadAt, Instr.sureAddr, hF w hw], hk⟩
theorem ReadC.one {P : Program} {C : World → Prop} {o : Oper} {s : List AV} {K : AV → Prop} {T : TypeId} {x : Operand} {a : Option Addr} {q k : Nat} {xs : List Value} (v : Value) (ho : o.op = .load T x) (hx : opv s x = .c (.v (.pointer (some (elemAddr a q))))) (hT : shapeT P T = some none)
  (hF : ∀ w, C w → SlAt a k xs w) (hv : xs[q]? = some v) (hk : K (.c (.v v))) : ∃ x, ReadC P C o s K x :=
 ReadC.load v ho hx (fun w hw => loadVar_cell hT ((hF w hw).cell hv)) hk
theorem ReadC.agg {P : Program} {C : World → Prop} {o : Oper} {s : List AV} {K : AV → Prop} {T : TypeId} {x : Operand} {a : Option Addr} {q n k : Nat} {xs : List Value} (ys : List Value) (ho : o.op = .load T x) (hx : opv s x = .c (.v (.pointer (some (elemAddr a q))))) (hT : shapeT P T = some (some n))
  (hF : ∀ w, C w → SlAt a k xs w) (hl : ys.length = n) (hv : ∀ j, j < n → xs[q + j]? = ys[j]?) (hk : K (.c (.v (.agg ys.toArray)))) : ∃ x, ReadC P C o s K x :=
 ReadC.load (.agg ys.toArray) ho hx (fun w hw => loadVar_cells hT hl fun j v hj => by
  have hjn : j < n := by rw [← hl]; exact (List.getElem?_eq_some_iff.1 hj).1
  rw [elemAddr, Addr.add_add]
  exact (hF w hw).cell ((hv j hjn).trans hj)) hk
theorem ReadC.nil {P : Program} {C : World → Prop} {o : Oper} {s : List AV} {K : AV → Prop} {x : Operand} {p : Addr} (ho : o.op = .nilCheck x) (hx : opv s x = .c (.v (.pointer (some p)))) (hk : K (.c (.v (.pointer (some p))))) : ∃ x, ReadC P C o s K x :=
 ⟨.pointer (some p), fun cs b e => (by rw [ho] at e; cases e), by rw [ho]; show allPlain s [x] = true; simp [allPlain, hx], fun w _ => by
  have hx2 : plainEv s x = .pointer (some p) := by unfold plainEv; rw [hx]
  unfold execOp
  simp [ho, hx2], hk⟩
end Go.AX
namespace Go.AX
def joinK {ι : Type} (inv : ι → Prop) (sl : ι → List AV) (hp : ι → List Ent) (K : Ex → List AV → List Ent → Prop) (e : Ex) (s' : List AV) (H' : List Ent) : Prop :=
 match e with
 | .normal => ∃ i, inv i ∧ wkS s' (sl i) ∧ wkH H' (hp i)
 | .exit n => K (.exit n) s' H'
 | .ret => K .ret s' H'
 | .pan c => K (.pan c) s' H'
inductive SeqN (ia ib : List AV → List Ent → (Ex → List AV → List Ent → Prop) → Prop) (s : List AV) (H : List Ent) (K : Ex → List AV → List Ent → Prop) : Prop where
 | plain (h : ia s H (seqK ib K))
 | join (ι : Type) (inv : ι → Prop) (sl : ι → List AV) (hp : ι → List Ent) (len : ∀ i, inv i → H.length ≤ (hp i).length) (oks : ∀ i, inv i → okSB (hp i).length (sl i) = true) (okh : ∀ i, inv i → okH (hp i).length (hp i))
   (h : ia s H (joinK inv sl hp K)) (next : ∀ i, inv i → forceS (sl i) fun s => forceH (hp i) fun H => ib s H K)
end Go.AX
namespace Go.AX
end Go.AX
namespace Go.AX
def noDefer (o : Oper) : Bool := match o.op with | .defer _ => false | _ => true
abbrev rF (l : Nat) : Fence := Fence.wide.inRound l
theorem rowsIn_wide {n : Nat} {P : Program} {row : String} {args : Array Value} {w : World} {R : Value → World → Prop} {l : Nat} (h : Rows P row args w R) : RowsIn (rF l) n P row args w R := by
 intro c cs hr
 obtain ⟨v, w', h1, h2⟩ := h c cs
 exact ⟨v, w', h1, stepsIn_wide.2 h2⟩
theorem upon_in {P : Program} {o : Oper} {a : Act} {l : Nat} {K K' : Act → World → Prop} {Q : Exit → Act → World → Prop} {r : Result Next} (hK : ∀ a w, K a w → K' a w) (h : o.upon P a K Q r) : o.uponIn (rF l) 0 P a K' Q r := by
 cases r with
 | ok n w' =>
  cases n with
  | value v => exact hK _ _ h
  | skip => exact hK _ _ h
  | defer d => exact hK _ _ h
  | enter f args =>
   refine ⟨(fun h => by cases h), CallsIn.inRound l (callsIn_wide.2 (Calls.mono h ?_))⟩
   intro e w'' he
   cases e with
   | returned v => exact hK _ _ he
   | panicked c => exact he
   | outgrown => exact he
  | row row args => exact ⟨(fun h => by cases h), rowsIn_wide (Rows.mono h fun v w'' he => hK _ _ he)⟩
  | _ => exact h.elim
 | halt x w' => cases x <;> first | exact h | exact h.elim
theorem wp_in {P : Program} {o : Oper} {a : Act} {l : Nat} {w : World} {K K' : Act → World → Prop} {Q : Exit → Act → World → Prop} (hd : noDefer o = true) (hK : ∀ a w, K a w → K' a w) (h : o.wp P a w K Q) : o.wpIn (rF l) 0 P a w K' Q := by
 refine ⟨fun f _ => trivial, ?_⟩
 have e : o.semAt (rF l).round a.eval = execOp a.eval o := Oper.semAt_some l _ _ fun c hc => by
  unfold noDefer at hd
  rw [hc] at hd
  cases hd
 rw [e]
 exact upon_in hK h
theorem wpList_in {P : Program} {ops : Array Oper} {Q : Exit → Act → World → Prop} {l : Nat} (hQ : ¬ LetsOut Q) : ∀ (os : List Oper) (a : Act) (w : World), os.all noDefer = true → wpList P ops Q os a w → wpListIn (rF l) 0 P ops Q os a w
 | [], a, w, _, h => h
 | o :: os, a, w, hd, h => by
  rw [List.all_cons, Bool.and_eq_true] at hd
  unfold wpList at h
  unfold wpListIn
  split at h
  ·rename_i hw
   rw [if_pos hw]
   rcases h with h | ⟨_, h⟩
   ·exact wp_in hd.1 (fun a w h => wpList_in hQ os a w hd.2 h) h
   ·exact absurd h hQ
  ·rename_i hw
   rw [if_neg hw]
   exact ⟨fun f _ => trivial, wpList_in hQ os _ w hd.2 h⟩
theorem wpOps_in {P : Program} {ops : Array Oper} {Q : Exit → Act → World → Prop} {l : Nat} (hQ : ¬ LetsOut Q) (hd : ∀ o ∈ ops.toList, noDefer o = true) : ∀ (os : List Nat) (a : Act) (w : World), wpOps P ops Q os a w → wpOpsIn (rF l) 0 P ops Q os a w
 | [], a, w, h => h
 | i :: os, a, w, h => by
  unfold wpOps at h
  unfold wpOpsIn
  cases ho : ops[i]? with
  | none =>
   rw [ho] at h
   exact wpOps_in hQ hd os a w h
  | some o =>
   rw [ho] at h
   dsimp only at h ⊢
   split at h
   ·rename_i hw
    rw [if_pos hw]
    rcases h with h | ⟨_, h⟩
    ·exact wp_in (hd o (by simpa using Array.mem_of_getElem? ho)) (fun a w h => wpOps_in hQ hd os a w h) h
    ·exact absurd h hQ
   ·rename_i hw
    rw [if_neg hw]
    exact ⟨fun f _ => trivial, wpOps_in hQ hd os _ w h⟩
theorem post_out {ρ : List Loc} {S : Nat → Prop} {H : List Ent} {w : World} {dfs : List Deferred} {K : Ex → List AV → List Ent → Prop} : ¬ LetsOut (Post ρ S H w dfs K) := by
 rintro ⟨a, w', ρ', S', s', H', ex, _, _, _, _, hex, _⟩
 cases ex <;> exact hex.elim
inductive DrawRo (P : Program) (ops : Array Oper) (s : List AV) (H : List Ent) (K : Ex → List AV → List Ent → Prop) : Prop where
 | plan (pre : List Nat) (hd tl : List (Nat × Nat)) (ok : planB P .any ops pre hd tl = true) (next : execB P ops pre s fun s1 => execH P ops hd s1 H fun s2 H2 => execT P ops tl s2 H2 K)
 | planC (C : World → Prop) (pre : List Nat) (hd tl : List (Nat × Nat)) (ok : planB P .any ops pre hd tl = true) (now : ∀ w, Facts H w → C w) (next : execB P ops pre s fun s1 => execC P C ops hd s1 H fun s2 H2 => execT P ops tl s2 H2 K)
def regionRo (P : Program) (ops : Array Oper) (draw : Bool) (s : List AV) (H : List Ent) (K : Ex → List AV → List Ent → Prop) : Prop :=
 match draw with
 | false => execOps P ops ops.toList s H K
 | true => DrawRo P ops s H K
def execRo (P : Program) (c : Code) : List AV → List Ent → (Ex → List AV → List Ent → Prop) → Prop :=
 Code.rec (motive := fun _ => List AV → List Ent → (Ex → List AV → List Ent → Prop) → Prop)
  (fun s H K => K .normal s H)
  (fun _ ops draw s H K => regionRo P ops draw s H K)
  (fun _ _ ia ib s H K => ia s H (seqK ib K))
  (fun c _ _ ia ib s H K => condK c s (fun s => ia s H K) (fun s => ib s H K))
  (fun id _ ib s H K => ib s H (blockK id K))
  (fun _ _ _ _ _ => False)
  (fun _ _ _ _ _ _ _ _ _ => False)
  (fun id s H K => K (.exit id) s H)
  (fun _ _ _ _ _ => False)
  (fun _ s H K => K .normal s H)
  (fun _ _ _ _ => False)
  (fun s H K => K .ret s H)
  (fun _ _ _ _ => False)
  c
def calmC : Code → Bool
 | .region _ ops _ => ops.toList.all noDefer
 | .seq a b => calmC a && calmC b
 | .cond _ a b => calmC a && calmC b
 | .block _ b => calmC b
 | _ => true
theorem execRo_sound {P : Program} (hm : P.follows .mixedOrders = true) (l : Nat) : ∀ (c : Code), calmC c = true → ∀ (s : List AV) (H : List Ent) (K : Ex → List AV → List Ent → Prop), execRo P c s H K →
  ∀ (ρ : List Loc) (S : Nat → Prop) (w : World) (a : Act), Sat ρ S H w → RelS ρ s a.tmps.toList → c.wpIn (rF l) 0 P (Post ρ S H w a.defers K) a w := by
 intro c
 induction c with
 | skip => intro _ s H K h ρ S w a hs hr; exact wpIn_skip ⟨ρ, S, s, H, .normal, hs, Ev.refl _ _ _ _, hr, rfl, trivial, h⟩
 | label l => intro _ s H K h ρ S w a hs hr; exact wpIn_label ⟨ρ, S, s, H, .normal, hs, Ev.refl _ _ _ _, hr, rfl, trivial, h⟩
 | exit id => intro _ s H K h ρ S w a hs hr; exact wpIn_exit ⟨ρ, S, s, H, .exit id, hs, Ev.refl _ _ _ _, hr, rfl, rfl, h⟩
 | ret => intro _ s H K h ρ S w a hs hr; exact wpIn_ret ⟨ρ, S, s, H, .ret, hs, Ev.refl _ _ _ _, hr, rfl, trivial, h⟩
 | goto l => intro _ s H K h; exact h.elim
 | refuse y => intro _ s H K h; exact h.elim
 | scope b ih => intro _ s H K h; exact h.elim
 | loop b ih => intro _ s H K h; exact h.elim
 | rangeFunc f ps _ b _ _ => intro _ s H K h; exact h.elim
 | region id ops draw =>
  intro hd s H K h0 ρ S w a hs hr
  have h : regionRo P ops draw s H K := h0
  have hd : ops.toList.all noDefer = true := hd
  clear h0
  unfold regionRo at h
  split at h
  ·exact wpIn_region_list (wpList_in post_out _ _ _ hd (execOps_sound _ _ _ h ρ S w a hs hr))
  ·have fin : wpAny P .any ops (Post ρ S H w a.defers K) ops.size (Array.replicate ops.size false) a { w with drawn := w.drawn + 1 } → (Code.region id ops true).wpIn (rF l) 0 P (Post ρ S H w a.defers K) a w := fun h =>
    wpIn_region_draw fun t => by
     simp only [Region.schedule, hm, Bool.true_or, if_true]
     exact wpOps_in post_out (List.all_eq_true.1 hd) _ _ _ (wpAny_sound ops.size t _ a _ h)
   rcases h with ⟨pre, hd, tl, hB, h⟩ | ⟨C, pre, hd, tl, hB, hC, h⟩
   ·exact fin (plan_any hB h hs hr)
   ·exact fin (planC_any hB hC h hs hr)
 | seq x y ihx ihy =>
  intro hc s H K h ρ S w a hs hr
  have hc : (calmC x && calmC y) = true := hc
  rw [Bool.and_eq_true] at hc
  refine wpIn_seq (wpIn_mono (ihx hc.1 s H (seqK (execRo P y) K) h ρ S w a hs hr) fun e a' w' hp => ?_)
  obtain ⟨ρ1, S1, s1, H1, ex, hs1, hev, hr1, hd, hex, hK⟩ := hp
  cases ex with
  | normal =>
   cases e <;> first | exact hex.elim | skip
   refine wpIn_mono (ihy hc.2 s1 H1 K hK ρ1 S1 w' a' hs1 hr1) fun e2 a2 w2 hp2 => ?_
   rw [hd] at hp2
   exact hp2.from hev
  | exit n => cases e <;> first | exact hex.elim | exact ⟨ρ1, S1, s1, H1, .exit n, hs1, hev, hr1, hd, hex, hK⟩
  | ret => cases e <;> first | exact hex.elim | exact ⟨ρ1, S1, s1, H1, .ret, hs1, hev, hr1, hd, hex, hK⟩
  | pan n => cases e <;> first | exact hex.elim | exact ⟨ρ1, S1, s1, H1, .pan n, hs1, hev, hr1, hd, hex, hK⟩
 | cond c x y ihx ihy =>
  intro hc s H K h0 ρ S w a hs hr
  have hc : (calmC x && calmC y) = true := hc
  rw [Bool.and_eq_true] at hc
  have h : condK c s (fun s => execRo P x s H K) (fun s => execRo P y s H K) := h0
  obtain ⟨b, hb, hcc⟩ := condK_spec h hr
  refine wpIn_cond hb ?_
  rcases hcc with ⟨rfl, s', hK, hr'⟩ | ⟨rfl, s', hK, hr'⟩
  ·exact ihx hc.1 s' H K hK ρ S w a hs hr'
  ·exact ihy hc.2 s' H K hK ρ S w a hs hr'
 | block id b ih =>
  intro hc s H K h ρ S w a hs hr
  refine wpIn_block (wpIn_mono (ih hc s H (blockK id K) h ρ S w a hs hr) fun e a' w' hp => ?_)
  obtain ⟨ρ1, S1, s1, H1, ex, hs1, hev, hr1, hd, hex, hK⟩ := hp
  cases ex with
  | normal => cases e <;> first | exact hex.elim | exact ⟨ρ1, S1, s1, H1, .normal, hs1, hev, hr1, hd, trivial, hK⟩
  | ret => cases e <;> first | exact hex.elim | exact ⟨ρ1, S1, s1, H1, .ret, hs1, hev, hr1, hd, trivial, hK⟩
  | pan n => cases e <;> first | exact hex.elim | exact ⟨ρ1, S1, s1, H1, .pan n, hs1, hev, hr1, hd, hex, hK⟩
  | exit n =>
   cases e <;> first | exact hex.elim | skip
   rename_i m
   have hnm : n = m := hex
   subst hnm
   by_cases hid : n = id
   ·subst hid
    simp only [Exit.inBlock, if_true]
    have hK' : K .normal s1 H1 := by simpa [blockK] using hK
    exact ⟨ρ1, S1, s1, H1, .normal, hs1, hev, hr1, hd, trivial, hK'⟩
   ·simp only [Exit.inBlock, if_neg hid]
    have hbq : Nat.beq n id = false := by cases hq : Nat.beq n id with | false => rfl | true => exact absurd (Nat.eq_of_beq_eq_true hq) hid
    have hK' : K (.exit n) s1 H1 := by simpa [blockK, hbq] using hK
    exact ⟨ρ1, S1, s1, H1, .exit n, hs1, hev, hr1, hd, rfl, hK'⟩
end Go.AX
namespace Go.AX
abbrev obE (l : Nat) (o : Obj) : Ent := .fam (fun b => b = l) (fun w => w.heap[l]? = some o)
theorem obE_ok {ρ : List Loc} {S : Nat → Prop} {w : World} {i l : Nat} {o : Obj} (h : w.heap[l]? = some o) : EntOk ρ S w i (obE l o) :=
 ⟨⟨h, fun _ hw => (hw l rfl).trans h⟩, fun b hb => by rw [show b = l from hb]; exact (Array.getElem?_eq_some_iff.1 h).1⟩
theorem Sat.ob {ρ : List Loc} {S : Nat → Prop} {H : List Ent} {w : World} {k l : Nat} {o : Obj} (h : Sat ρ S H w) (hk : H[k]? = some (obE l o)) : w.heap[l]? = some o := (h.ent k _ hk).1.1
theorem Sat.setOb {ρ : List Loc} {S : Nat → Prop} {H : List Ent} {w : World} {k l : Nat} {o : Obj} (h : Sat ρ S H w) (hk : H[k]? = some (obE l o)) (o' : Obj) :
  Sat ρ S (H.set k (obE l o')) (w.putObj l o') ∧ Ev ρ S H w ρ S (H.set k (obE l o')) (w.putObj l o') := by
 have hl := (Array.getElem?_eq_some_iff.1 (h.ob hk)).1
 exact h.setG hk (c := l) rfl (by rw [World.putObj_size]; exact Nat.le_refl _) (fun j _ hj => World.putObj_heap_other hj) rfl rfl rfl (fun b hb => .inl hb) (obE_ok (World.putObj_heap_same hl))
theorem Sat.newOb {ρ : List Loc} {S : Nat → Prop} {H : List Ent} {w : World} (h : Sat ρ S H w) (o : Obj) :
  Sat (ρ ++ [⟨0, 0⟩]) S (H ++ [obE w.heap.size o]) (w.alloc o) ∧ Ev ρ S H w (ρ ++ [⟨0, 0⟩]) S (H ++ [obE w.heap.size o]) (w.alloc o) :=
 h.snocG (ob := o) (fun _ hb => hb) rfl rfl rfl rfl (obE_ok (World.alloc_heap_new w o))
theorem set_two (A : List Ent) (d e e' : Ent) : (A ++ [d, e]).set (A.length + 1) e' = A ++ [d, e'] := by
 rw [List.set_append_right _ _ (by omega)]
 congr 1
 rw [Nat.add_sub_cancel_left]
 rfl
theorem get_two (A : List Ent) (d e : Ent) : (A ++ [d, e])[A.length + 1]? = some e ∧ (A ++ [d, e])[A.length]? = some d := by
 constructor
 ·rw [List.getElem?_append_right (by omega), Nat.add_sub_cancel_left]
  rfl
 ·rw [List.getElem?_append_right (Nat.le_refl _), Nat.sub_self]
  rfl
theorem okH_two {n : Nat} {A : List Ent} {l m : Nat} {o o' : Obj} (h : okH n A) : okH n (A ++ [obE l o, obE m o']) := by
 induction A with
 | nil => exact ⟨trivial, trivial, trivial⟩
 | cons e A ih => exact ⟨h.1, ih h.2⟩
theorem Sat.lose {ρ0 ρ : List Loc} {S0 S : Nat → Prop} {H0 H G J : List Ent} {w0 w : World} (h : Sat ρ S H w) (he : Ev ρ0 S0 H0 w0 ρ S H w) (hT : TurnS H G) (hw : wkH G J) (hl : ρ0.length ≤ J.length) (hk : AX.okH J.length J) :
  ∃ S', Sat (ρ.take J.length) S' J w ∧ Ev ρ0 S0 H0 w0 (ρ.take J.length) S' J w := by
 obtain ⟨S3, hs3, hev3⟩ := hT.2 _ _ _ h
 have hk2 := hs3.weak hw hk
 have h12 := he.trans hev3
 refine ⟨S3, hk2.1, ⟨?_, h12.os, h12.tape, h12.output, h12.size, h12.keep, h12.imm, fun b hb => h12.own b (hk2.2 b hb)⟩⟩
 obtain ⟨t, ht⟩ := h12.pre
 refine ⟨t.take (J.length - ρ0.length), ?_⟩
 rw [ht, List.take_append, List.take_of_length_le hl]
def YieldS (P : Program) (l : Nat) (xs : List Value) (H : List Ent) (K : Out → List Ent → Prop) : Prop :=
 ∀ (ρ : List Loc) (S : Nat → Prop) (w : World), Sat ρ S H w → YieldAt Fence.wide 0 P l xs.toArray w fun e w' => ∃ ρ' S' H' out, Sat ρ' S' H' w' ∧ Ev ρ S H w ρ' S' H' w' ∧ OutOk ρ' out e ∧ K out H'
def RoundC (P : Program) (assign body : Code) (s : List AV) (p : Nat) (x : Value) (A : List Ent) (Q : List Ent → Prop) : Prop :=
 ∀ (D l : Nat) (o o1 o2 : Obj), execRo P assign (s.set p (.c (.v x))) (A ++ [obE D o, obE l o1]) fun ex s2 H2 => ex = .normal ∧ H2 = A ++ [obE D o, obE l o1] ∧
  execRo P body s2 (A ++ [obE D o, obE l o2]) fun ex _ H3 => ex = .normal ∧ ∃ B, Q B ∧ B.length = A.length ∧ okH (B.length + 2) B ∧ ∃ G, TurnS H3 G ∧ wkH G (B ++ [obE D o, obE l o2])
theorem yield_of_round {P : Program} (hm : P.follows .mixedOrders = true) {l D fn p : Nat} {o : Obj} {tmps : Array Value} {assign body : Code} (hA : calmC assign = true) (hB : calmC body = true) {s : List AV} (hs : ∀ ρ, RelS ρ s tmps.toList)
  {x : Value} {A : List Ent} {Q : List Ent → Prop} (h : RoundC P assign body s p x A Q) :
  YieldS P l [x] (A ++ [obE D o, obE l (.loop { state := .ready, pending := none, fn, tmps, params := #[p], assign, body, defers := D })])
   fun out H' => out = .val (.c (.v (.bool true))) ∧ ∃ B, Q B ∧ B.length = A.length ∧ H' = B ++ [obE D o, obE l (.loop { state := .ready, pending := none, fn, tmps, params := #[p], assign, body, defers := D })] := by
 intro ρ S w hsat
 have hl := hsat.ob (get_two A (obE D o) (obE l _)).1
 have hy := run_yield (P := P) (args := #[x]) hl rfl
 have hr : RelS ρ (s.set p (.c (.v x))) (((#[p] : Array Nat).zip #[x]).foldl (fun t (q, v) => t.setIfInBounds q v) tmps).toList := by
  have := RelS_set (i := p) (hs ρ) (av := .c (.v x)) (v := x) rfl
  simpa using this
 refine ⟨fn, _, assign, body, hy, roundIn_of_wpIn trivial (wpIn_mono (execRo_sound hm l assign hA _ _ _ (h D l o _ (.loop { state := .busy, pending := none, fn, tmps, params := #[p], assign, body, defers := D })) ρ S w ⟨_, []⟩ hsat hr) ?_)⟩
 rintro e a1 w1 ⟨ρ1, S1, s1, H1, ex, hs1, hev1, hr1, hd1, hex, rfl, rfl, hbody⟩
 cases e <;> first | exact hex.elim | skip
 have hl1 := hs1.ob (get_two A (obE D o) (obE l _)).1
 have hset := hs1.setOb (get_two A (obE D o) (obE l _)).1 (.loop { state := .busy, pending := none, fn, tmps, params := #[p], assign, body, defers := D })
 rw [set_two] at hset
 refine ⟨_, run_beginRound hl1 rfl, wpIn_mono (execRo_sound hm l body hB _ _ _ hbody ρ1 S1 _ a1 hset.1 hr1) ?_⟩
 rintro e a3 w3 ⟨ρ3, S3, s3, H3, ex, hs3, hev3, hr3, hd3, hex, rfl, B, hQ, hAB, okB, G, hT, hw⟩
 cases e <;> first | exact hex.elim | skip
 have hlen : ρ.length ≤ (B ++ [obE D o, obE l (.loop { state := .busy, pending := none, fn, tmps, params := #[p], assign, body, defers := D })]).length := by
  rw [hsat.len, List.length_append, List.length_append, hAB]
  exact Nat.le_refl _
 obtain ⟨S4, hs4, hev4⟩ := hs3.lose ((hev1.trans hset.2).trans hev3) hT hw hlen (by rw [List.length_append]; exact okH_two okB)
 have hl4 := hs4.ob (get_two B (obE D o) (obE l _)).1
 have hset2 := hs4.setOb (get_two B (obE D o) (obE l _)).1 (.loop { state := .ready, pending := none, fn, tmps, params := #[p], assign, body, defers := D })
 rw [set_two] at hset2
 exact ⟨_, _, run_endRound none hl4, _, _, _, .val (.c (.v (.bool true))), hset2.1, hev4.trans hset2.2, ⟨_, rfl, rfl⟩, rfl, B, hQ, hAB, rfl⟩
end Go.AX
namespace Go.AX
theorem upon_wide {P : Program} {o : Oper} {a : Act} {K K' : Act → World → Prop} {Q : Exit → Act → World → Prop} {r : Result Next} (hK : ∀ a w, K a w → K' a w) (h : o.upon P a K Q r) : o.uponIn Fence.wide 0 P a K' Q r := by
 cases r with
 | ok n w' =>
  cases n with
  | value v => exact hK _ _ h
  | skip => exact hK _ _ h
  | defer d => exact hK _ _ h
  | enter f args =>
   refine ⟨(fun h => by cases h), callsIn_wide.2 (Calls.mono h ?_)⟩
   intro e w'' he
   cases e with
   | returned v => exact hK _ _ he
   | panicked c => exact he
   | outgrown => exact he
  | row row args =>
   refine ⟨(fun h => by cases h), fun c cs _ => ?_⟩
   obtain ⟨v, w', h1, h2⟩ := h c cs
   exact ⟨v, w', hK _ _ h1, stepsIn_wide.2 h2⟩
  | _ => exact h.elim
 | halt x w' => cases x <;> first | exact h | exact h.elim
theorem wp_wide {P : Program} {o : Oper} {a : Act} {w : World} {K K' : Act → World → Prop} {Q : Exit → Act → World → Prop} (hK : ∀ a w, K a w → K' a w) (h : o.wp P a w K Q) : o.wpIn Fence.wide 0 P a w K' Q :=
 ⟨fun _ _ => trivial, upon_wide hK h⟩
def stepY (P : Program) (o : Oper) (s : List AV) (H : List Ent) (K : Out → List Ent → Prop) : Prop :=
 match o.op with
 | .call { callee := .value f, args, .. } => match opv s f with
  | .c (.v (.func (.yield l) first cap)) => match plainS (opvs s args.toList) with
   | some xs => (first = #[] ∧ cap = #[]) ∧ YieldS P l xs H K
   | none => False
  | _ => stepK P o s H K
 | _ => stepK P o s H K
def execY (P : Program) (ops : Array Oper) (l : List Oper) : List AV → List Ent → (Ex → List AV → List Ent → Prop) → Prop :=
 List.rec (motive := fun _ => List AV → List Ent → (Ex → List AV → List Ent → Prop) → Prop)
  (fun s H K => K .normal s H)
  (fun o _ ih s H K => wantK ops o s (fun s => stepY P o s H fun out H' => match out with
    | .val av => putK s o.dst av fun s' => ih s' H' K
    | .vals _ => False
    | .pan c => K (.pan c) s H')
   (fun s => putK s o.dst (.c (.v undef)) fun s' => ih s' H K)) l
theorem execY_cons (P : Program) (ops : Array Oper) (o : Oper) (rest : List Oper) (s : List AV) (H : List Ent) (K : Ex → List AV → List Ent → Prop) :
  execY P ops (o :: rest) s H K = wantK ops o s (fun s => stepY P o s H fun out H' => match out with
    | .val av => putK s o.dst av fun s' => execY P ops rest s' H' K
    | .vals _ => False
    | .pan c => K (.pan c) s H')
   (fun s => putK s o.dst (.c (.v undef)) fun s' => execY P ops rest s' H K) := rfl
theorem stepY_sound {P : Program} {o : Oper} {s : List AV} {H : List Ent} {K : Out → List Ent → Prop} (h : stepY P o s H K) {ρ : List Loc} {S : Nat → Prop} {w : World} {a : Act} (hs : Sat ρ S H w) (hr : RelS ρ s a.tmps.toList)
  {next : Act → World → Prop} {Q : Exit → Act → World → Prop}
  (hv : ∀ ρ' S' H' w' av v, Sat ρ' S' H' w' → Ev ρ S H w ρ' S' H' w' → av.rel ρ' v → K (.val av) H' → next (a.put o.dst v) w')
  (hp : ∀ ρ' S' H' w' c, Sat ρ' S' H' w' → Ev ρ S H w ρ' S' H' w' → K (.pan c) H' → Q (.panic c) a w') (hn : ∀ l H', ¬ K (.vals l) H') : o.wpIn Fence.wide 0 P a w next Q := by
 unfold stepY at h
 split at h
 ·rename_i f args ts ho
  split at h
  ·rename_i l first cap hf
   split at h
   ·rename_i xs hxs
    obtain ⟨⟨rfl, rfl⟩, hY⟩ := h
    have hfr := opv_rel hr f
    rw [hf] at hfr
    have hfe : a.eval f = .func (.yield l) #[] #[] := hfr
    have hargs : args.toList.map a.eval = xs := plainS_rel hxs (opvs_rel hr _)
    obtain ⟨fn, tmps, assign, body, hy, hR⟩ := hY ρ S w hs
    have hrun : (execOp a.eval o).run P w = .ok (.round l fn tmps assign body) w := by
     unfold execOp
     have e : (#[] : Array Value) ++ args.map a.eval ++ #[] = xs.toArray := by
      apply Array.ext'
      simp [← hargs]
     simp only [ho, resolve, hfe, Deferred.ofValue, invoke, callFunc, Sem.run_bind, Sem.run_pure, Result.andThen_ok]
     first
      | (rw [e]; exact hy)
      | (simp only [Array.empty_append, Array.append_empty] at e ⊢; rw [e]; exact hy)
    refine ⟨fun _ _ => trivial, ?_⟩
    show o.uponIn Fence.wide 0 P a next Q ((execOp a.eval o).run P w)
    rw [hrun]
    refine ⟨(fun h => by cases h), hR.mono ?_⟩
    rintro e w' ⟨ρ', S', H', out, hs', hev, hout, hK⟩
    cases out with
    | val av =>
     obtain ⟨v, rfl, hrel⟩ := hout
     exact hv ρ' S' H' w' av v hs' hev hrel hK
    | vals l => exact absurd hK (hn l H')
    | pan c =>
     have : e = .panicked c := hout
     subst this
     exact hp ρ' S' H' w' c hs' hev hK
   ·exact h.elim
  ·exact wp_wide (fun _ _ h => h) (step_sound h hs hr hv hp hn)
 ·exact wp_wide (fun _ _ h => h) (step_sound h hs hr hv hp hn)
theorem wpListIn_mono {P : Program} {ops : Array Oper} {Q Q' : Exit → Act → World → Prop} (hq : ∀ e a w, Q e a w → Q' e a w) : ∀ (l : List Oper) (a : Act) (w : World), wpListIn Fence.wide 0 P ops Q l a w → wpListIn Fence.wide 0 P ops Q' l a w
  | [], a, w, h => hq _ _ _ h
  | o :: l, a, w, h => by
    unfold wpListIn at h ⊢
    split at h
    · rename_i hw
      rw [if_pos hw]
      refine ⟨h.1, ?_⟩
      have h2 := h.2
      revert h2
      generalize (o.semAt Fence.wide.round a.eval).run P w = r
      intro h2
      cases r with
      | ok n w' =>
        cases n <;> simp only [Oper.uponIn] at h2 ⊢ <;> first
          | exact wpListIn_mono hq _ _ _ h2
          | exact h2
          | (refine ⟨h2.1, h2.2.mono ?_⟩
             intro e w'' he
             first
               | exact wpListIn_mono hq _ _ _ he
               | (cases e with
                  | returned v => exact wpListIn_mono hq _ _ _ he
                  | panicked c => exact hq _ _ _ he
                  | outgrown => obtain ⟨a0, w0, h0⟩ := he; exact ⟨a0, w0, hq _ _ _ h0⟩))
          | (refine ⟨h2.1, h2.2.mono ?_⟩
             intro v w'' he
             exact wpListIn_mono hq _ _ _ he)
      | halt x w' => cases x <;> simp only [Oper.uponIn] at h2 ⊢ <;> exact hq _ _ _ h2
    · rename_i hw
      rw [if_neg hw]
      exact ⟨h.1, wpListIn_mono hq _ _ _ h.2⟩
theorem execY_sound {P : Program} {ops : Array Oper} {K : Ex → List AV → List Ent → Prop} : ∀ (l : List Oper) (s : List AV) (H : List Ent), execY P ops l s H K →
  ∀ (ρ : List Loc) (S : Nat → Prop) (w : World) (a : Act), Sat ρ S H w → RelS ρ s a.tmps.toList → wpListIn Fence.wide 0 P ops (Post ρ S H w a.defers K) l a w
 | [], s, H, h, ρ, S, w, a, hs, hr => ⟨ρ, S, s, H, .normal, hs, Ev.refl _ _ _ _, hr, rfl, trivial, h⟩
 | o :: l, s, H, h, ρ, S, w, a, hs, hr => by
  rw [execY_cons] at h
  unfold wpListIn
  rcases wantK_spec h hr with ⟨hw, s', h', hr'⟩ | ⟨hw, s', h', hr'⟩
  ·rw [if_pos hw]
   refine stepY_sound h' hs hr' (fun ρ1 S1 H1 w1 av v hs1 hev hrel hK => ?_) (fun ρ1 S1 H1 w1 c hs1 hev hK => ?_) fun _ _ h => h
   ·obtain ⟨s2, hK2, hput⟩ := putK_spec hK
    have hrs : RelS ρ1 s' a.tmps.toList := by obtain ⟨t, ht⟩ := hev.pre; rw [ht]; exact RelS_pre t hr'
    have ih := execY_sound l s2 H1 hK2 ρ1 S1 w1 (a.put o.dst v) hs1 (hput ρ1 a v hrs hrel)
    rw [put_defers] at ih
    exact wpListIn_mono (fun e a' w' hq => hq.from hev) l _ _ ih
   ·exact ⟨ρ1, S1, s', H1, .pan c, hs1, hev, trivial, rfl, rfl, hK⟩
  ·rw [if_neg (by simp [hw])]
   obtain ⟨s2, hK2, hput⟩ := putK_spec h'
   have ih := execY_sound l s2 H hK2 ρ S w (a.put o.dst undef) hs (hput ρ a undef hr' rfl)
   rw [put_defers] at ih
   exact ⟨fun _ _ => trivial, ih⟩
def Trip (P : Program) (c : Code) (s : List AV) (H : List Ent) (K : Ex → List AV → List Ent → Prop) : Prop :=
 ∀ (ρ : List Loc) (S : Nat → Prop) (w : World) (a : Act), Sat ρ S H w → RelS ρ s a.tmps.toList → c.wp P (Post ρ S H w a.defers K) a w
theorem Trip.yields {P : Program} {id : Nat} {ops : Array Oper} {s : List AV} {H : List Ent} {K : Ex → List AV → List Ent → Prop} (h : execY P ops ops.toList s H K) : Trip P (.region id ops false) s H K :=
 fun ρ S w a hs hr => wpIn_wide.1 (wpIn_region_list (execY_sound _ _ _ h ρ S w a hs hr))
end Go.AX
