/-
  Lemmas (Ax14 Ax15 Ax16 Ax17 Ax13 Ax18 Ax19 Ax20 Ax34 Ax24 Ax21 Ax22 LB1 T1 Ax23 LB2 R0 Ax26 Ax28 Ax29 Ax25 Ax30 Ax31 Ax32 Ax33 Ax35 Ax36 S1 S2 S3 S4 RB P1 Ax27 Ax37 Ax45 Ax39 Ax40 Ax46 Ax47 Ax52 Ax54 Ax56).
-/
import Derived.Below
import Derived.DataElems
import Derived.WalkKit
import Derived.ProofKit
import Derived.OpenShut
import Derived.ShutString
import Derived.ChangeOld
import Derived.Carry
import Derived.HandedShaped
import Derived.SliceStrings
import Derived.ChangeSlices
import Derived.SizedLaws
import Derived.MakeChecks
import Derived.LaidMore
import Derived.LaidLaws
import Derived.LaidHandle
import Derived.Lib.LaidTab
import Derived.SevenTiedAt
import Derived.Laws.IdiomStrings
import Derived.Shelf.Vars
import Derived.Lib.AppendStr
import Derived.Lib.UnsafeStr
import Derived.Lib.Builder
import Derived.Laws.Externs
import Derived.Test.YtpikpjlhdkkigaaGreatDoorChecked
import Derived.Shelf.Small.Wraps
import Derived.Shelf.Strings.Search1
import Derived.Shelf.Strings.Search2
import Derived.Shelf.Strings.Search3
import Derived.Shelf.LaysM
import Derived.Shelf.Strings.Shaped
import Derived.Shelf.Strings.Prefix
import Derived.Shelf.Strings.Fields
import Derived.Shelf.Strings.SplitShaped
import Derived.Shelf.Unicode.Latin
import Derived.Shelf.Unicode.Is16White
import Derived.Shelf.Unicode.IsSpaceAny
import Derived.Shelf.Unicode.Is16WhiteD
import Derived.Shelf.Unicode.Is16Any
import Derived.Shelf.Unicode.Is32Any
import Derived.Shelf.Unicode.ExclAny
import Derived.Shelf.Slices.Turned
import Derived.Test.YtpikpjlhdkkigaaGreatDoorProg
import Derived.Lib.MakeNoZero
import Derived.Lib.CutLaws
import Derived.Lib.ReplaceLaws
import Derived.Test.YtpikpjlhdkkigaaGreatDoorRows
import Derived.LaidOnce
import Derived.WideMake
import Derived.Laws.IdiomCopy
import Derived.Laws.MakeOwn
import Derived.Lib.AppendZerosOnto
import Derived.Recover
import Derived.Lay
import Derived.Lib.LaidU8
import Derived.PinnedBridge
import Derived.Test.YtpikpjlhdkkigaaGreatDoorTbk3
set_option linter.unusedVariables false
set_option linter.unusedSimpArgs false
namespace Go.AX
open Go.RowKit
theorem Imm.mono {S : Nat → Prop} {w : World} {F G : World → Prop} (h : Imm S w F) (hk : ∀ w, F w → G w) : Imm S w G := ⟨hk w h.1, fun w' hw => hk w' (h.2 w' hw)⟩
theorem Imm.grow {S S' : Nat → Prop} {w : World} {F : World → Prop} (h : Imm S w F) (hs : ∀ b, S b → S' b) : Imm S' w F := ⟨h.1, fun w' hw => h.2 w' fun b hb => hw b (hs b hb)⟩
theorem Imm.and {S : Nat → Prop} {w : World} {F G : World → Prop} (h : Imm S w F) (k : Imm S w G) : Imm S w fun w => F w ∧ G w := ⟨⟨h.1, k.1⟩, fun w' hw => ⟨h.2 w' hw, k.2 w' hw⟩⟩
theorem Imm.triv (S : Nat → Prop) (w : World) : Imm S w fun _ => True := ⟨trivial, fun _ _ => trivial⟩
theorem EntOk.grow {ρ : List Loc} {S S' : Nat → Prop} {w : World} {i : Nat} {e : Ent} (h : EntOk ρ S w i e) (hs : ∀ b, S b → S' b) : EntOk ρ S' w i e := by
 cases e with
 | fact F => exact Imm.grow h hs
 | fz => exact ⟨h.1, Imm.grow h.2 hs⟩
 | _ => exact h
theorem Facts_imm {ρ : List Loc} {S : Nat → Prop} {w : World} : ∀ {H : List Ent}, (∀ e ∈ H, ∃ i, EntOk ρ S w i e ∧ match e with | .app _ _ _ a _ _ => ∀ b, a.map Addr.block = some b → S b | .mp b _ _ => S b | .fam B _ => ∀ b, B b → S b | _ => True) → Imm S w (Facts H)
 | [], _ => Imm.triv S w
 | .fact F :: es, h => by
  obtain ⟨i, hi, _⟩ := h (.fact F) (by simp)
  exact Imm.and hi (Facts_imm fun e he => h e (by simp [he]))
 | .fz T sz n xs b cap :: es, h => by
  obtain ⟨i, hi, _⟩ := h (.fz T sz n xs b cap) (by simp)
  exact Imm.and hi.2 (Facts_imm fun e he => h e (by simp [he]))
 | .blk .. :: es, h => Facts_imm (H := es) fun e he => h e (by simp [he])
 | .row .. :: es, h => Facts_imm (H := es) fun e he => h e (by simp [he])
 | .app T sz xs a n cap :: es, h => by
  obtain ⟨i, hi, hS⟩ := h (.app T sz xs a n cap) (by simp)
  have h1 : Imm S w (SlAt a (n * sz) xs) := ⟨appSl hi, fun w' hw => by
   rcases hi with ⟨rfl, rfl, rfl, rfl⟩ | ⟨b, rfl, hr⟩
   ·rw [Nat.zero_mul]; exact SlAt.nil
   ·exact (hr.move (hw b (hS b rfl))).sl⟩
  exact Imm.and h1 (Facts_imm fun e he => h e (by simp [he]))
 | .mp b es c :: H, h => by
  obtain ⟨i, hi, hS⟩ := h (.mp b es c) (by simp)
  have h1 : Imm S w (fun w => w.heap[b]? = some (.map es c)) := ⟨hi, fun w' hw => (hw b hS).trans hi⟩
  exact Imm.and h1 (Facts_imm fun e he => h e (by simp [he]))
 | .fam B F :: H, h => by
  obtain ⟨i, hi, hS⟩ := h (.fam B F) (by simp)
  exact Imm.and ⟨hi.1.1, fun w' hw => hi.1.2 w' fun b hb => hw b (hS b hb)⟩ (Facts_imm fun e he => h e (by simp [he]))
 | .dead :: es, h => Facts_imm (H := es) fun e he => h e (by simp [he])
def appB (H : List Ent) (b : Nat) : Prop := (∃ T sz xs a n cap, Ent.app T sz xs a n cap ∈ H ∧ a.map Addr.block = some b) ∨ (∃ es c, Ent.mp b es c ∈ H) ∨ ∃ B F, Ent.fam B F ∈ H ∧ B b
theorem appB_mb {ρ : List Loc} {H : List Ent} {b : Nat} (h : appB H b) : mb ρ H b := by
 rcases h with ⟨T, sz, xs, a, n, cap, hm, hb⟩ | ⟨es, c, hm⟩ | ⟨B, F, hm, hb⟩
 ·obtain ⟨i, hi⟩ := List.getElem?_of_mem hm
  exact ⟨i, _, hi, hb⟩
 ·obtain ⟨i, hi⟩ := List.getElem?_of_mem hm
  exact ⟨i, _, hi, rfl⟩
 ·obtain ⟨i, hi⟩ := List.getElem?_of_mem hm
  exact ⟨i, _, hi, hb⟩
theorem Sat.imm {ρ : List Loc} {S : Nat → Prop} {H : List Ent} {w : World} (h : Sat ρ S H w) : Imm (fun b => S b ∨ appB H b) w (Facts H) :=
 Facts_imm (ρ := ρ) fun e he => by
  obtain ⟨i, hi⟩ := List.getElem?_of_mem he
  refine ⟨i, (h.ent i e hi).grow fun b hb => .inl hb, ?_⟩
  cases e with
  | app T sz xs a n cap => exact fun b hb => .inr (.inl ⟨T, sz, xs, a, n, cap, he, hb⟩)
  | mp b es c => exact .inr (.inr (.inl ⟨es, c, he⟩))
  | fam B F => exact fun b hb => .inr (.inr (.inr ⟨B, F, he, hb⟩))
  | _ => trivial
def FactsP : List Ent → World → Prop
 | [], _ => True
 | .fz T sz n xs b cap :: es, w => RowF T sz n xs b cap w ∧ FactsP es w
 | .fact F :: es, w => F w ∧ FactsP es w
 | _ :: es, w => FactsP es w
theorem FactsP_imm {ρ : List Loc} {S : Nat → Prop} {w : World} : ∀ {H : List Ent}, (∀ e ∈ H, ∃ i, EntOk ρ S w i e) → Imm S w (FactsP H)
 | [], _ => Imm.triv S w
 | .fact F :: es, h => by
  obtain ⟨i, hi⟩ := h (.fact F) (by simp)
  exact Imm.and hi (FactsP_imm fun e he => h e (by simp [he]))
 | .fz T sz n xs b cap :: es, h => by
  obtain ⟨i, hi⟩ := h (.fz T sz n xs b cap) (by simp)
  exact Imm.and hi.2 (FactsP_imm fun e he => h e (by simp [he]))
 | .blk .. :: es, h => FactsP_imm (H := es) fun e he => h e (by simp [he])
 | .row .. :: es, h => FactsP_imm (H := es) fun e he => h e (by simp [he])
 | .app .. :: es, h => FactsP_imm (H := es) fun e he => h e (by simp [he])
 | .mp .. :: es, h => FactsP_imm (H := es) fun e he => h e (by simp [he])
 | .fam .. :: es, h => FactsP_imm (H := es) fun e he => h e (by simp [he])
 | .dead :: es, h => FactsP_imm (H := es) fun e he => h e (by simp [he])
theorem Sat.immP {ρ : List Loc} {S : Nat → Prop} {H : List Ent} {w : World} (h : Sat ρ S H w) : Imm S w (FactsP H) :=
 FactsP_imm (ρ := ρ) fun e he => by
  obtain ⟨i, hi⟩ := List.getElem?_of_mem he
  exact ⟨i, h.ent i e hi⟩
structure SpecF (P : Program) (f : FuncId) (xs : List Value) (F : World → Prop) (R : Value → (World → Prop) → Prop) : Prop where
 ok : CallOk P f
 run : ∀ (S : Nat → Prop) (w : World), Imm S w F → (∀ b, S b → b < w.heap.size) → Calls P f xs.toArray w fun e w' =>
  ∃ v G S', e = .returned v ∧ R v G ∧ Imm S' w' G ∧ (∀ b, S' b → S b ∨ w.heap.size ≤ b) ∧ (∀ b, S' b → b < w'.heap.size) ∧ Below w.heap.size w w'
theorem below_ev {ρ : List Loc} {S S' : Nat → Prop} {H H' : List Ent} {w w' : World} (t : List Loc) (h : Below w.heap.size w w') (hS : ∀ b, S' b → S b ∨ w.heap.size ≤ b) (hm : ∀ b, mb (ρ ++ t) H' b → mb ρ H b) : Ev ρ S H w (ρ ++ t) S' H' w' :=
 ⟨⟨t, rfl⟩, h.os, h.tape, h.output, h.size, fun b hb _ => h.block b hb, fun b hb => (hS b hb).elim .inl fun h => .inr (.inr h), fun b hb => .inl (hm b hb)⟩
theorem Sat.below {ρ : List Loc} {S : Nat → Prop} {H : List Ent} {w w' : World} (hs : Sat ρ S H w) (h : Below w.heap.size w w') : Sat ρ S H w' :=
 ⟨hs.len, fun i e he => by
   have := (hs.ent i e he).move (w' := w') [] (fun b hb => h.block _ (hs.blk_lt he hb)) fun b hb => h.block b (hs.low b hb)
   simpa using this,
  hs.inj, hs.out, fun b hb => Nat.lt_of_lt_of_le (hs.low b hb) h.size⟩
theorem Sat.addFact {ρ : List Loc} {S S' : Nat → Prop} {H : List Ent} {w w' : World} {G : World → Prop} (hs : Sat ρ S H w) (h : Below w.heap.size w w') (hG : Imm S' w' G) (hS : ∀ b, S' b → S b ∨ w.heap.size ≤ b) (hl : ∀ b, S' b → b < w'.heap.size) :
  Sat (ρ ++ [⟨0, 0⟩]) (fun b => S b ∨ S' b) (H ++ [.fact G]) w' ∧ ∀ b, mb (ρ ++ [⟨0, 0⟩]) (H ++ [.fact G]) b → mb ρ H b := by
 have h1 := hs.below h
 have hcase : ∀ (i : Nat) (e : Ent), (H ++ [Ent.fact G])[i]? = some e → (i < H.length ∧ H[i]? = some e) ∨ e = .fact G := fun i e he => by
  by_cases hi : i < H.length
  ·rw [List.getElem?_append_left hi] at he; exact .inl ⟨hi, he⟩
  ·rw [List.getElem?_append_right (by omega)] at he
   have : i - H.length < 1 := by have := (List.getElem?_eq_some_iff.1 he).1; simpa using this
   have h0 : i - H.length = 0 := by omega
   rw [h0] at he
   simp at he
   exact .inr he.symm
 have hb2 : ∀ (i : Nat) (e : Ent) (b : Nat), (H ++ [Ent.fact G])[i]? = some e → entB (ρ ++ [⟨0, 0⟩]) i e b → H[i]? = some e ∧ entB ρ i e b := fun i e b he hb => by
  rcases hcase i e he with ⟨hi, he'⟩ | rfl
  ·rw [entB_pre _ (by rw [hs.len]; exact hi)] at hb
   exact ⟨he', hb⟩
  ·cases hb
 have hmb : ∀ b, mb (ρ ++ [⟨0, 0⟩]) (H ++ [.fact G]) b → mb ρ H b := by
  rintro b ⟨i, e, he, hb⟩
  exact ⟨i, e, hb2 i e b he hb⟩
 refine ⟨⟨by simp [hs.len], fun i e he => ?_, fun i j e f b he hf heb hfb => ?_, fun b hb hn => ?_, fun b hb => ?_⟩, hmb⟩
 ·rcases hcase i e he with ⟨hi, he'⟩ | rfl
  ·have := (hs.ent i e he').move (w' := w') [⟨0, 0⟩] (fun b hb => h.block _ (hs.blk_lt he' hb)) fun b hb => h.block b (hs.low b hb)
   exact this.grow fun b hb => .inl hb
  ·exact Imm.grow hG fun b hb => .inr hb
 ·have h1 := hb2 i e b he heb
  have h2 := hb2 j f b hf hfb
  exact hs.inj i j e f b h1.1 h2.1 h1.2 h2.2
 ·obtain ⟨i, e, he, heb⟩ := hmb b hb
  rcases hn with hn | hn
  ·exact hs.out _ ⟨i, e, he, heb⟩ hn
  ·rcases hS _ hn with h2 | h2
   ·exact hs.out _ ⟨i, e, he, heb⟩ h2
   ·have := hs.blk_lt he heb; omega
 ·rcases hb with hb | hb
  ·exact h1.low b hb
  ·exact hl b hb
theorem SpecF.call {P : Program} {f : FuncId} {xs : List Value} {F : World → Prop} {R : Value → (World → Prop) → Prop} {H : List Ent} {K : Out → List Ent → Prop} (h : SpecF P f xs F R) (hF : ∀ w, FactsP H w → F w)
  (hk : ∀ v G, R v G → snocK H (.fact G) 0 fun H' _ => K (.val (.c (.v v))) H') : SpecH P f (pvs xs) H K := by
 simp only [snocK_eq] at hk
 refine ⟨h.ok, fun ρ S w vs hs hr => ?_⟩
 obtain rfl := RelS_pvs hr
 refine (h.run S w (hs.immP.mono hF) hs.low).mono fun e w' ⟨v, G, S', he, hR, hG, hS, hlow, bel⟩ => ?_
 have hsat := hs.addFact bel hG hS hlow
 exact ⟨_, _, _, .val (.c (.v v)), hsat.1, below_ev [⟨0, 0⟩] bel (fun b hb => hb.elim .inl (hS b)) hsat.2, ⟨v, he, rfl⟩, hk v G hR⟩
theorem SpecF.call0 {P : Program} {f : FuncId} {xs : List Value} {F : World → Prop} {R : Value → (World → Prop) → Prop} {H : List Ent} {K : Out → List Ent → Prop} (h : SpecF P f xs F R) (hF : ∀ w, Facts H w → F w)
  (hk : ∀ v G, R v G → K (.val (.c (.v v))) H) : SpecH P f (pvs xs) H K := by
 refine ⟨h.ok, fun ρ S w vs hs hr => ?_⟩
 obtain rfl := RelS_pvs hr
 refine (h.run _ w (hs.imm.mono hF) (fun b hb => hb.elim (hs.low b) fun hb => by obtain ⟨i, e, he, heb⟩ := appB_mb (ρ := ρ) hb; exact hs.blk_lt he heb)).mono fun e w' ⟨v, G, S', he, hR, hG, hS, hlow, bel⟩ => ?_
 exact ⟨ρ, S, H, .val (.c (.v v)), hs.below bel, by simpa using below_ev (S := S) (S' := S) (ρ := ρ) (H := H) (H' := H) [] bel (fun b hb => .inl hb) (fun b hb => by simpa using hb), ⟨v, he, rfl⟩, hk v G hR⟩
def EntF (ρ : List Loc) (w : World) (i : Nat) : Ent → Prop
 | .blk T cs => ∃ l arr, ρ[i]? = some l ∧ w.heap[l.b]? = some (.cells arr T (0, 0)) ∧ RelL ρ cs arr.toList
 | .row T sz n cs => ∃ l arr, ρ[i]? = some l ∧ w.heap[l.b]? = some (.cells arr T (0, 0)) ∧ cs.length = n * sz ∧ n ≤ l.cap ∧ l.cap ≤ maxLen ∧ arr.size = l.cap * sz ∧ RelL ρ cs (arr.toList.take (n * sz))
 | .fact F => F w
 | .fz T sz n xs b cap => ρ[i]? = some ⟨b, cap⟩ ∧ RowF T sz n xs b cap w
 | .app T sz xs a n cap => (a = none ∧ n = 0 ∧ cap = 0 ∧ xs = []) ∨ ∃ b, a = some ⟨b, 0, none⟩ ∧ RowF T sz n xs b cap w
 | .mp b es c => w.heap[b]? = some (.map es c)
 | .fam _ F => F w
 | .dead => True
def All (ρ : List Loc) (H : List Ent) (w : World) : Prop := ∀ i e, H[i]? = some e → EntF ρ w i e
def Fin (R : Value → (World → Prop) → Prop) (out : Out) (H : List Ent) : Prop :=
 ∀ ρ v w0, All ρ H w0 → OutOk ρ out (.returned v) → ∃ G, R v G ∧ ∀ w, All ρ H w → G w
def notPan : Out → Prop
 | .pan _ => False
 | _ => True
theorem specF_of {P : Program} {f : FuncId} {xs : List Value} {F : World → Prop} {R : Value → (World → Prop) → Prop} (h : SpecH P f (pvs xs) [.fact F] fun out H' => notPan out ∧ Fin R out H') : SpecF P f xs F R := by
 refine ⟨h.ok, fun S w hF hlow => ?_⟩
 have nomb : ∀ b, ¬ mb [⟨0, 0⟩] [Ent.fact F] b := by
  rintro b ⟨i, e, he, ho⟩
  match i, he with
  | 0, he => simp at he; subst he; cases ho
 have hs : Sat [⟨0, 0⟩] S [.fact F] w := by
  refine ⟨rfl, fun i e he => ?_, fun i j e f b he hf heo => ?_, fun b hb => absurd hb (nomb b), hlow⟩
  ·match i, he with
   | 0, he => simp at he; subst he; exact hF
  ·match i, he with
   | 0, he => simp at he; subst he; cases heo
 refine (h.run _ S w xs hs (pvs_rel _ xs)).mono fun e w' ⟨ρ', S', H', out, hs', hev, hout, hn, hfin⟩ => ?_
 obtain ⟨v, rfl⟩ : ∃ v, e = .returned v := by
  cases out with
  | val av => obtain ⟨v, he, _⟩ := hout; exact ⟨v, he⟩
  | vals l => obtain ⟨v, he, _⟩ := hout; exact ⟨_, he⟩
  | pan c => exact hn.elim
 have hall : ∀ w'' : World, (∀ b, S' b ∨ mb ρ' H' b → w''.heap[b]? = w'.heap[b]?) → All ρ' H' w'' := fun w'' hw i e he => by
  have hk := hs'.ent i e he
  cases e with
  | blk T cs => obtain ⟨l, arr, hl, hb, hr⟩ := hk; exact ⟨l, arr, hl, by rw [hw l.b (.inr ⟨i, _, he, entB_own rfl hl⟩)]; exact hb, hr⟩
  | row T sz n cs => obtain ⟨l, arr, hl, hb, hr⟩ := hk; exact ⟨l, arr, hl, by rw [hw l.b (.inr ⟨i, _, he, entB_own rfl hl⟩)]; exact hb, hr⟩
  | fact F => exact hk.2 w'' fun b hb => hw b (.inl hb)
  | fz => exact ⟨hk.1, hk.2.2 w'' fun b hb => hw b (.inl hb)⟩
  | app T sz xs a n cap =>
   rcases hk with hk | ⟨b, rfl, hk⟩
   ·exact .inl hk
   ·exact .inr ⟨b, rfl, hk.move (hw b (.inr ⟨i, _, he, rfl⟩))⟩
  | mp b es c => exact (hw b (.inr ⟨i, _, he, rfl⟩)).trans hk
  | fam B F => exact hk.1.2 w'' fun b hb => hw b (.inr ⟨i, _, he, hb⟩)
  | dead => trivial
 obtain ⟨G, hR, hG⟩ := hfin ρ' v w' (hall w' fun _ _ => rfl) hout
 refine ⟨v, G, fun b => S' b ∨ mb ρ' H' b, rfl, hR, ⟨hG _ (hall w' fun _ _ => rfl), fun w'' hw => hG w'' (hall w'' hw)⟩, ?_, ?_, ⟨hev.os, hev.tape, hev.output, hev.size, fun b hb => hev.keep b hb (nomb b)⟩⟩
 ·rintro b (hb | hb)
  ·rcases hev.imm b hb with h | h | h
   ·exact .inl h
   ·exact absurd h (nomb b)
   ·exact .inr h
  ·rcases hev.own b hb with h | h
   ·exact absurd h (nomb b)
   ·exact .inr h
 ·rintro b (hb | hb)
  ·exact hs'.low b hb
  ·obtain ⟨i, e, he, heb⟩ := hb
   exact hs'.blk_lt he heb
theorem specF {P : Program} (hm : P.follows .mixedOrders = true) {f : FuncId} {fn : Func} {c : Code} (hf : P.funcs[f]? = some fn) (hn : (fn.name == "runtime.NumGoroutine") = false) (hb : fn.body = some c)
  {xs : List Value} (hl : Nat.ble (pvs xs).length fn.ntmps = true) {F : World → Prop} {R : Value → (World → Prop) → Prop} (h : initK fn.ntmps (pvs xs) fun s => exec P c s [.fact F] (endK P fn.results.toList fun out H' => notPan out ∧ Fin R out H')) : SpecF P f xs F R :=
 specF_of (spec_of_exec hm hf hn hb hl h)
theorem fin_v {R : Value → (World → Prop) → Prop} {x : Value} {H : List Ent} (h : R x fun _ => True) : notPan (.val (.c (.v x))) ∧ Fin R (.val (.c (.v x))) H :=
 ⟨trivial, fun _ v _ _ hv => by
  obtain ⟨_, e, hr⟩ := hv
  obtain rfl := Ending.returned.inj e
  have : v = x := hr
  subst this
  exact ⟨_, h, fun _ _ => trivial⟩⟩
theorem vs_only {ρ : List Loc} : ∀ {xs vs' : List Value}, RelL ρ (vs xs) vs' → vs' = xs
 | [], [], _ => rfl
 | x :: xs, v :: vs', h => by
  have h1 : v = x := h.1
  rw [h1, vs_only h.2]
 | [], _ :: _, h => h.elim
 | _ :: _, [], h => h.elim
theorem EntF.row {ρ : List Loc} {w : World} {i : Nat} {T : TypeId} {sz n : Nat} {xs : List Value} {l : Loc} (h : EntF ρ w i (.row T sz n (vs xs))) (hl : ρ[i]? = some l) : RowF T sz n xs l.b l.cap w := by
 obtain ⟨l', arr, hl', hb, h1, h2, h3, h4, hr⟩ := h
 obtain rfl := Option.some.inj (hl'.symm.trans hl)
 exact ⟨arr, (0, 0), ⟨hb, .inl rfl⟩, by rwa [vs_len] at h1, h2, h3, h4, vs_only hr⟩
theorem All.facts {ρ : List Loc} {H : List Ent} {w : World} (h : All ρ H w) : Facts H w := by
 refine Facts_of (ρ := ρ) (S := fun _ => True) fun e he => ?_
 obtain ⟨i, hi⟩ := List.getElem?_of_mem he
 have := h i e hi
 cases e with
 | fact F => exact this
 | fz => exact this.2
 | app T sz xs a n cap => exact appSl (ρ := ρ) (S := fun _ => True) (i := i) this
 | _ => trivial
theorem fin_p {R : Value → (World → Prop) → Prop} {x : Value} {H : List Ent} (G : World → Prop) (h : R x G) (hG : ∀ w, Facts H w → G w) : notPan (.val (.c (.v x))) ∧ Fin R (.val (.c (.v x))) H :=
 ⟨trivial, fun ρ v _ _ hv => by
  obtain ⟨_, e, hr⟩ := hv
  obtain rfl := Ending.returned.inj e
  have : v = x := hr
  subst this
  exact ⟨_, h, fun w hall => hG w hall.facts⟩⟩
theorem Sat.dropApp {ρ : List Loc} {S : Nat → Prop} {H : List Ent} {w : World} (h : Sat ρ S H w) {i : Nat} {T : TypeId} {sz : Nat} {xs : List Value} {a : Option Addr} {n cap : Nat} (hi : H[i]? = some (.app T sz xs a n cap)) :
  ∃ S', Sat ρ S' (H.set i (.fact (SlAt a (n * sz) xs))) w ∧ Ev ρ S H w ρ S' (H.set i (.fact (SlAt a (n * sz) xs))) w := by
 have hilt : i < H.length := (List.getElem?_eq_some_iff.1 hi).1
 have hcase : ∀ (j : Nat) (f : Ent) (b : Nat), (H.set i (.fact (SlAt a (n * sz) xs)))[j]? = some f → entB ρ j f b → j ≠ i ∧ H[j]? = some f := by
  intro j f b hf hfb
  by_cases hj : i = j
  ·subst hj
   simp [hilt] at hf
   subst hf
   cases hfb
  ·rw [List.getElem?_set_ne hj] at hf
   exact ⟨Ne.symm hj, hf⟩
 have hent := h.ent i _ hi
 refine ⟨fun b => S b ∨ a.map Addr.block = some b, ⟨by simp [h.len], fun j f hf => ?_, fun j k f g b hf hg hfb hgb => ?_, fun b ⟨j, f, hf, hfb⟩ hn => ?_, fun b hb => ?_⟩,
  ⟨⟨[], by simp⟩, rfl, rfl, rfl, Nat.le_refl _, fun _ _ _ => rfl, fun b hb => ?_, fun b ⟨j, f, hf, hfb⟩ => .inl ⟨j, f, (hcase j f b hf hfb).2, hfb⟩⟩⟩
 ·by_cases hj : i = j
  ·subst hj
   simp [hilt] at hf
   subst hf
   refine ⟨appSl hent, fun w' hw => ?_⟩
   rcases hent with ⟨rfl, rfl, rfl, rfl⟩ | ⟨b, rfl, hr⟩
   ·rw [Nat.zero_mul]; exact SlAt.nil
   ·exact (hr.move (hw b (.inr rfl))).sl
  ·rw [List.getElem?_set_ne hj] at hf
   exact (h.ent j f hf).grow fun b hb => .inl hb
 ·exact h.inj j k f g b (hcase j f b hf hfb).2 (hcase k g b hg hgb).2 hfb hgb
 ·have hjf := hcase j f b hf hfb
  rcases hn with hn | hn
  ·exact h.out b ⟨j, f, hjf.2, hfb⟩ hn
  ·exact hjf.1 (h.inj j i f _ b hjf.2 hi hfb hn)
 ·rcases hb with hb | hb
  ·exact h.low b hb
  ·exact h.blk_lt hi hb
 ·rcases hb with hb | hb
  ·exact .inl hb
  ·exact .inr (.inl ⟨i, _, hi, hb⟩)
theorem SpecH.shut {P : Program} {f : FuncId} {args : List AV} {H : List Ent} {K : Out → List Ent → Prop} (i : Nat) {T : TypeId} {sz : Nat} {xs : List Value} {a : Option Addr} {n cap : Nat} (hi : nthE H i = some (.app T sz xs a n cap))
  (h : setEK H i (.fact (SlAt a (n * sz) xs)) fun H' => SpecH P f args H' K) : SpecH P f args H K := by
 rw [nthE_eq] at hi
 obtain ⟨_, h⟩ := setEK_spec h
 refine ⟨h.ok, fun ρ S w vs hs hr => ?_⟩
 obtain ⟨S', hs', hev⟩ := hs.dropApp hi
 exact (h.run ρ S' w vs hs' hr).mono fun e w' ⟨ρ2, S2, H2, out, a1, a2, a3, a4⟩ => ⟨ρ2, S2, H2, out, a1, hev.trans a2, a3, a4⟩
def plainC (H : List Ent) : CV → Option Value
 | .v x => some x
 | .sl i m => match nthE H i with | some (.fz _ _ _ _ b cap) => some (.slice (some ⟨b, 0, none⟩) m cap) | _ => none
 | _ => none
def plainCs (H : List Ent) : List CV → Option (List Value)
 | [] => some []
 | c :: cs => match plainC H c, plainCs H cs with | some x, some xs => some (x :: xs) | _, _ => none
def plainA (H : List Ent) : AV → Option Value
 | .c c => plainC H c
 | .agg cs => match plainCs H cs with | some xs => some (.agg xs.toArray) | none => none
def plainAs (H : List Ent) : List AV → Option (List Value)
 | [] => some []
 | c :: cs => match plainA H c, plainAs H cs with | some x, some xs => some (x :: xs) | _, _ => none
theorem plainC_rel {ρ : List Loc} {S : Nat → Prop} {H : List Ent} {w : World} (hs : Sat ρ S H w) {c : CV} {x v : Value} (h : plainC H c = some x) (hr : c.rel ρ v) : v = x := by
 cases c with
 | any => cases h
 | v y => cases h; exact hr
 | lp => cases h
 | sl i m =>
  simp only [plainC] at h
  split at h
  ·rename_i T sz n xs b cap he
   cases h
   rw [nthE_eq] at he
   obtain ⟨l, hl, rfl⟩ := hr
   have hl2 := (hs.ent i _ he).1
   obtain rfl := Option.some.inj (hl.symm.trans hl2)
   rfl
  ·cases h
theorem plainCs_rel {ρ : List Loc} {S : Nat → Prop} {H : List Ent} {w : World} (hs : Sat ρ S H w) : ∀ {cs : List CV} {xs vs : List Value}, plainCs H cs = some xs → RelL ρ cs vs → vs = xs
 | [], xs, [], h, _ => by simp [plainCs] at h; exact h.symm
 | c :: cs, xs, v :: vs, h, hr => by
  simp only [plainCs] at h
  split at h
  ·rename_i x ys hx hy
   cases h
   rw [plainC_rel hs hx hr.1, plainCs_rel hs hy hr.2]
  ·cases h
 | [], _, _ :: _, _, hr => hr.elim
 | _ :: _, _, [], _, hr => hr.elim
theorem plainA_rel {ρ : List Loc} {S : Nat → Prop} {H : List Ent} {w : World} (hs : Sat ρ S H w) {a : AV} {x v : Value} (h : plainA H a = some x) (hr : a.rel ρ v) : v = x := by
 cases a with
 | c c => exact plainC_rel hs h hr
 | agg cs =>
  simp only [plainA] at h
  split at h
  ·rename_i xs hx
   cases h
   obtain ⟨ys, rfl, hy⟩ := hr
   rw [plainCs_rel hs hx hy]
  ·cases h
theorem plainAs_rel {ρ : List Loc} {S : Nat → Prop} {H : List Ent} {w : World} (hs : Sat ρ S H w) : ∀ {cs : List AV} {xs vs : List Value}, plainAs H cs = some xs → RelS ρ cs vs → vs = xs
 | [], xs, [], h, _ => by simp [plainAs] at h; exact h.symm
 | c :: cs, xs, v :: vs, h, hr => by
  simp only [plainAs] at h
  split at h
  ·rename_i x ys hx hy
   cases h
   rw [plainA_rel hs hx hr.1, plainAs_rel hs hy hr.2]
  ·cases h
 | [], _, _ :: _, _, hr => hr.elim
 | _ :: _, _, [], _, hr => hr.elim
theorem SpecH.plain {P : Program} {f : FuncId} {args : List AV} {H : List Ent} {K : Out → List Ent → Prop} {xs : List Value} (hx : plainAs H args = some xs) (h : SpecH P f (pvs xs) H K) : SpecH P f args H K :=
 ⟨h.ok, fun ρ S w vs hs hr => by
  obtain rfl := plainAs_rel hs hx hr
  exact h.run ρ S w vs hs (pvs_rel ρ vs)⟩
theorem loadVar_cell {P : Program} {T : TypeId} {w : World} {p : Addr} {x : Value} (hs : shapeT P T = some none) (hc : w.cell? p = some x) : (loadVar T p).run P w = .ok x w := by
 unfold shapeT at hs
 have key : ∀ d, P.underlying T = some d → isAggD d = false → (loadVar T p).run P w = .ok x w := fun d hd hf => by
  unfold loadVar
  rw [Sem.run_bind, run_isAgg hd, hf]
  simp [hc]
 cases hd : P.underlying T with
 | none => rw [hd] at hs; simp at hs
 | some d =>
  rw [hd] at hs
  cases d <;> first
   | exact key _ hd rfl
   | (simp only at hs; split at hs <;> simp at hs)
theorem loadVar_cells {P : Program} {T : TypeId} {n : Nat} {w : World} {p : Addr} {xs : List Value} (hs : shapeT P T = some (some n)) (hl : xs.length = n) (hc : ∀ j v, xs[j]? = some v → w.cell? (p.add j) = some v) : (loadVar T p).run P w = .ok (.agg xs.toArray) w := by
  unfold shapeT at hs
  have key : ∀ d i, P.underlying T = some d → P.info? T = some i → i.size = n → isAggD d = true → (loadVar T p).run P w = .ok (.agg xs.toArray) w := fun d i hd hi hn hf => by
    have hcells := run_loadCells_list (P := P) w p xs hc
    rw [hl] at hcells
    unfold loadVar
    rw [Sem.run_bind, run_isAgg hd, hf]
    simp [sizeOf, typeInfo, hi, hn, hcells]
  cases hd : P.underlying T with
  | none => rw [hd] at hs; simp at hs
  | some d =>
    rw [hd] at hs
    cases d <;> first
      | (simp at hs; done)
      | (simp only at hs
         split at hs
         · rename_i i hi
           simp at hs
           exact key _ i hd hi hs rfl
         · cases hs)
theorem SlAt.cell {a : Option Addr} {k : Nat} {xs : List Value} {w : World} (h : SlAt a k xs w) {q : Nat} {x : Value} (hx : xs[q]? = some x) : w.cell? ((a.getD default).add q) = some x := by
 have : q < k := by rw [← h.1]; exact (List.getElem?_eq_some_iff.1 hx).1
 rw [h.2.2 q this, hx]
theorem LdN.one {P : Program} {T : TypeId} {a : Option Addr} {q : Nat} {H : List Ent} {K : AV → Prop} {k : Nat} {xs : List Value} (x : Value) (hT : shapeT P T = some none) (hF : ∀ w, Facts H w → SlAt a k xs w) (hx : xs[q]? = some x)
  (next : forceV x fun x => K (.c (.v x))) : LdN P T (elemAddr a q) H K :=
 ⟨x, fun w hw => loadVar_cell hT ((hF w hw).cell hx), next⟩
theorem LdN.fld {P : Program} {T : TypeId} {a : Option Addr} {q fo : Nat} {H : List Ent} {K : AV → Prop} {k : Nat} {xs : List Value} (x : Value) (hT : shapeT P T = some none) (hF : ∀ w, Facts H w → SlAt a k xs w) (hx : xs[q + fo]? = some x)
  (next : forceV x fun x => K (.c (.v x))) : LdN P T ((elemAddr a q).add fo) H K :=
 ⟨x, fun w hw => loadVar_cell hT (by rw [elemAddr, Addr.add_add]; exact (hF w hw).cell hx), next⟩
theorem LdN.agg {P : Program} {T : TypeId} {a : Option Addr} {q n : Nat} {H : List Ent} {K : AV → Prop} {k : Nat} {xs : List Value} (ys : List Value) (hT : shapeT P T = some (some n)) (hF : ∀ w, Facts H w → SlAt a k xs w) (hl : ys.length = n)
  (hx : ∀ j, j < n → xs[q + j]? = ys[j]?) (next : K (.c (.v (.agg ys.toArray)))) : LdN P T (elemAddr a q) H K :=
 ⟨.agg ys.toArray, fun w hw => loadVar_cells hT hl fun j v hv => by
  have hj : j < n := by rw [← hl]; exact (List.getElem?_eq_some_iff.1 hv).1
  rw [elemAddr, Addr.add_add]
  exact (hF w hw).cell ((hx j hj).trans hv), next⟩
theorem flat_len {α : Type} {g : α → List Value} {m : Nat} (hg : ∀ a, (g a).length = m) : ∀ l : List α, (l.flatMap g).length = l.length * m
 | [] => by simp
 | a :: l => by rw [List.flatMap_cons, List.length_append, hg, flat_len hg l, List.length_cons, Nat.add_mul]; omega
theorem flat_get {α : Type} {g : α → List Value} {m : Nat} (hg : ∀ a, (g a).length = m) : ∀ (l : List α) (i j : Nat), j < m → (l.flatMap g)[i * m + j]? = (l[i]?).bind fun a => (g a)[j]?
 | [], i, j, _ => by simp
 | a :: l, 0, j, hj => by rw [List.flatMap_cons, Nat.zero_mul, Nat.zero_add, List.getElem?_append_left (by rw [hg]; exact hj)]; simp
 | a :: l, i + 1, j, hj => by
  rw [List.flatMap_cons, List.getElem?_append_right (by rw [hg, Nat.add_mul]; omega), hg, show (i + 1) * m + j - m = i * m + j by rw [Nat.add_mul]; omega, flat_get hg l i j hj]
  simp
end Go.AX
namespace Go.AX
def rnI : List Nat → Nat → Nat → Nat
 | [], N, j => N + j
 | s :: _, _, 0 => s
 | _ :: σ, N, j + 1 => rnI σ N j
def rnC (σ : List Nat) (N : Nat) : CV → CV
 | .lp i o => .lp (rnI σ N i) o
 | .sl i n => .sl (rnI σ N i) n
 | c => c
def rnCs (σ : List Nat) (N : Nat) : List CV → List CV
 | [] => []
 | c :: cs => rnC σ N c :: rnCs σ N cs
def rnA (σ : List Nat) (N : Nat) : AV → AV
 | .c c => .c (rnC σ N c)
 | .agg cs => .agg (rnCs σ N cs)
def rnS (σ : List Nat) (N : Nat) : List AV → List AV
 | [] => []
 | a :: s => rnA σ N a :: rnS σ N s
def rnE (σ : List Nat) (N : Nat) : Ent → Ent
 | .blk T cs => .blk T (rnCs σ N cs)
 | .row T sz n cs => .row T sz n (rnCs σ N cs)
 | e => e
def rnO (σ : List Nat) (N : Nat) : Out → Out
 | .val a => .val (rnA σ N a)
 | .vals l => .vals (rnS σ N l)
 | .pan c => .pan c
def mrg (f : Ent → Ent) : List Nat → List Ent → List Ent → (List Ent → Prop) → Prop
 | [], [], H, K => K H
 | [], e :: es, H, K => snocK H (f e) 0 fun H' _ => mrg f [] es H' K
 | s :: σ, e :: es, H, K => setEK H s (f e) fun H' => mrg f σ es H' K
 | _ :: _, [], _, _ => False
def part (σ : List Nat) (N : Nat) (H : List Ent) : List Nat → List Ent → Prop
 | [], [] => True
 | s :: τ, e :: es => nthE H s = some (rnE σ N e) ∧ part σ N H τ es
 | _, _ => False
def ndB : List Nat → Bool
 | [] => true
 | s :: σ => !(σ.any (Nat.beq s)) && ndB σ
theorem ndB_nodup : ∀ {σ : List Nat}, ndB σ = true → σ.Nodup
 | [], _ => List.nodup_nil
 | s :: σ, h => by
  simp only [ndB, Bool.and_eq_true, Bool.not_eq_true', List.any_eq_false] at h
  exact List.nodup_cons.2 ⟨fun hm => h.1 s hm (by simp), ndB_nodup h.2⟩
theorem rnI_get : ∀ {σ : List Nat} {N j s : Nat}, σ[j]? = some s → rnI σ N j = s
 | _ :: _, _, 0, s, h => by simpa [rnI] using h
 | _ :: σ, N, j + 1, s, h => by simpa [rnI] using rnI_get (σ := σ) (N := N) (by simpa using h)
 | [], _, _, _, h => by simp at h
theorem rnI_new : ∀ (σ : List Nat) (N j : Nat), rnI σ N (σ.length + j) = N + j
 | [], N, j => by simp [rnI]
 | _ :: σ, N, j => by
  rw [show (List.length (_ :: σ)) + j = (σ.length + j) + 1 by simp; omega]
  simpa [rnI] using rnI_new σ N j
section
variable {σ : List Nat} {N : Nat} {ρ ρ' : List Loc}
theorem rnC_rel (h : ∀ j, ρ'[rnI σ N j]? = ρ[j]?) (c : CV) (v : Value) : (rnC σ N c).rel ρ' v ↔ c.rel ρ v := by
 cases c <;> simp only [rnC, CV.rel, h]
theorem rnCs_rel (h : ∀ j, ρ'[rnI σ N j]? = ρ[j]?) : ∀ (cs : List CV) (vs : List Value), RelL ρ' (rnCs σ N cs) vs ↔ RelL ρ cs vs
 | [], [] => Iff.rfl
 | [], _ :: _ => Iff.rfl
 | _ :: _, [] => Iff.rfl
 | c :: cs, v :: vs => by simp only [rnCs, RelL, rnC_rel h, rnCs_rel h cs vs]
theorem rnA_rel (h : ∀ j, ρ'[rnI σ N j]? = ρ[j]?) (a : AV) (v : Value) : (rnA σ N a).rel ρ' v ↔ a.rel ρ v := by
 cases a with
 | c c => exact rnC_rel h c v
 | agg cs => simp only [rnA, AV.rel, rnCs_rel h]
theorem rnS_rel (h : ∀ j, ρ'[rnI σ N j]? = ρ[j]?) : ∀ (cs : List AV) (vs : List Value), RelS ρ' (rnS σ N cs) vs ↔ RelS ρ cs vs
 | [], [] => Iff.rfl
 | [], _ :: _ => Iff.rfl
 | _ :: _, [] => Iff.rfl
 | c :: cs, v :: vs => by simp only [rnS, RelS, rnA_rel h, rnS_rel h cs vs]
theorem rnCs_len : ∀ cs : List CV, (rnCs σ N cs).length = cs.length
 | [] => rfl
 | _ :: cs => by simp [rnCs, rnCs_len cs]
theorem rnE_ok (h : ∀ j, ρ'[rnI σ N j]? = ρ[j]?) (S : Nat → Prop) (w : World) (j : Nat) (e : Ent) : EntOk ρ' S w (rnI σ N j) (rnE σ N e) ↔ EntOk ρ S w j e := by
 cases e <;> simp only [rnE, EntOk, rnCs_rel h, h, rnCs_len]
theorem rnE_blk (h : ∀ j, ρ'[rnI σ N j]? = ρ[j]?) (j : Nat) (e : Ent) : entB ρ' (rnI σ N j) (rnE σ N e) = entB ρ j e := by
 cases e <;> simp only [rnE, entB, h]
theorem EntOk.imm {ρ : List Loc} {S S' : Nat → Prop} {w : World} {i : Nat} {e : Ent} (h : EntOk ρ S w i e) (hs : ∀ b, S b → S' b) : EntOk ρ S' w i e := h.grow hs
end
theorem part_get {σ : List Nat} {N : Nat} {H : List Ent} : ∀ {τ : List Nat} {es : List Ent}, part σ N H τ es → τ.length = es.length ∧ ∀ (j : Nat) (s : Nat) (e : Ent), τ[j]? = some s → es[j]? = some e → H[s]? = some (rnE σ N e)
 | [], [], _ => ⟨rfl, fun j s e h => by simp at h⟩
 | s :: τ, e :: es, h => by
  obtain ⟨h1, h2⟩ := part_get (τ := τ) (es := es) h.2
  refine ⟨by simp [h1], fun j s' e' hs he => ?_⟩
  cases j with
  | zero => simp at hs he; subst hs; subst he; rw [← nthE_eq]; exact h.1
  | succ j => exact h2 j s' e' (by simpa using hs) (by simpa using he)
 | [], _ :: _, h => h.elim
 | _ :: _, [], h => h.elim
theorem mrg_spec (f : Ent → Ent) : ∀ {σ : List Nat} {es H : List Ent} {K : List Ent → Prop}, σ.Nodup → mrg f σ es H K →
  ∃ H', K H' ∧ σ.length ≤ es.length ∧ H'.length = H.length + (es.length - σ.length) ∧ (∀ s ∈ σ, s < H.length) ∧
   (∀ (j : Nat) (e : Ent), es[j]? = some e → H'[rnI σ H.length j]? = some (f e)) ∧ ∀ i, i < H.length → i ∉ σ → H'[i]? = H[i]?
 | [], [], H, K, _, h => ⟨H, h, Nat.le_refl _, by simp, fun _ h => by simp at h, fun j e h => by simp at h, fun _ _ _ => rfl⟩
 | [], e :: es, H, K, _, h => by
  simp only [mrg] at h
  rw [snocK_eq] at h
  obtain ⟨H', hK, _, hl, _, hj, hi⟩ := mrg_spec f (σ := []) List.nodup_nil h
  refine ⟨H', hK, by simp, by simp at hl ⊢; omega, fun _ h => by simp at h, fun j e' he => ?_, fun i hi' _ => ?_⟩
  ·cases j with
   | zero =>
    simp at he; subst he
    simp only [rnI, Nat.add_zero]
    rw [hi H.length (by simp) (by simp)]; simp
   | succ j =>
    have := hj j e' (by simpa using he)
    simp only [rnI, List.length_append, List.length_cons, List.length_nil] at this ⊢
    rw [show H.length + (j + 1) = H.length + (0 + 1) + j by omega]; exact this
  ·rw [hi i (by simp; omega) (by simp), List.getElem?_append_left hi']
 | s :: σ, e :: es, H, K, hn, h => by
  simp only [mrg] at h
  obtain ⟨hs, h⟩ := setEK_spec h
  obtain ⟨hn1, hn2⟩ := List.nodup_cons.1 hn
  obtain ⟨H', hK, hlen, hl, hlt, hj, hi⟩ := mrg_spec f (σ := σ) hn2 h
  rw [List.length_set] at hl hlt hj hi
  refine ⟨H', hK, by simp; omega, by simp at hl ⊢; omega, fun t ht => ?_, fun j e' he => ?_, fun i hi' hni => ?_⟩
  ·cases ht with
   | head => exact hs
   | tail _ ht => exact hlt t ht
  ·cases j with
   | zero =>
    simp at he; subst he
    simp only [rnI]
    rw [hi s hs hn1]; simp [hs]
   | succ j => exact hj j e' (by simpa using he)
  ·simp only [List.mem_cons, not_or] at hni
   rw [hi i hi' hni.2, List.getElem?_set_ne (Ne.symm hni.1)]
 | _ :: _, [], _, _, _, h => h.elim
theorem SpecH.at {P : Program} {f : FuncId} {args0 : List AV} {H0 : List Ent} {K0 : Out → List Ent → Prop} (h : SpecH P f args0 H0 K0) (σ : List Nat) {args : List AV} {H : List Ent} {K : Out → List Ent → Prop}
  (hn : ndB σ = true) (hp : part σ H.length H σ H0) (ha : args = rnS σ H.length args0)
  (hk : ∀ out H', K0 out H' → mrg (rnE σ H.length) σ H' H fun G => K (rnO σ H.length out) G) : SpecH P f args H K := by
 subst ha
 refine ⟨h.ok, fun ρ S w vs hs hr => ?_⟩
 have nd := ndB_nodup hn
 obtain ⟨hlen, hget⟩ := part_get hp
 generalize hN : H.length = N at *
 have hρN : ρ.length = N := by rw [hs.len, hN]
 have hσlt : ∀ (j s : Nat), σ[j]? = some s → s < N := fun j s hj => by
  have hj2 : j < H0.length := by rw [← hlen]; exact (List.getElem?_eq_some_iff.1 hj).1
  have := hget j s _ hj (List.getElem?_eq_getElem hj2)
  rw [← hN]; exact (List.getElem?_eq_some_iff.1 this).1
 have hρ0 : ∃ ρ0 : List Loc, ρ0.length = σ.length ∧ ∀ (j s : Nat), σ[j]? = some s → ρ0[j]? = ρ[s]? := by
  refine ⟨σ.map fun s => ρ.getD s ⟨0, 0⟩, by simp, fun j s hj => ?_⟩
  have hs' := hσlt j s hj
  rw [List.getElem?_map, hj, Option.map_some, List.getD_eq_getElem?_getD, List.getElem?_eq_getElem (by omega)]
  rfl
 obtain ⟨ρ0, hρl, hρg⟩ := hρ0
 have hre : ∀ j, ρ[rnI σ N j]? = ρ0[j]? := fun j => by
  by_cases hj : j < σ.length
  ·have hj' := List.getElem?_eq_getElem hj
   rw [rnI_get hj', ← hρg j _ hj']
  ·obtain ⟨k, rfl⟩ : ∃ k, j = σ.length + k := ⟨j - σ.length, by omega⟩
   rw [rnI_new, List.getElem?_eq_none (by omega), List.getElem?_eq_none (by omega)]
 have hidx : ∀ (j : Nat) (e : Ent), H0[j]? = some e → ∃ s, σ[j]? = some s ∧ rnI σ N j = s ∧ H[s]? = some (rnE σ N e) := fun j e he => by
  have hj : j < σ.length := by rw [hlen]; exact (List.getElem?_eq_some_iff.1 he).1
  have hj' := List.getElem?_eq_getElem hj
  exact ⟨_, hj', rnI_get hj', hget j _ e hj' he⟩
 have hsat0 : Sat ρ0 S H0 w := by
  refine ⟨by omega, fun j e he => ?_, fun i j e f b he hf heb hfb => ?_, fun b hb => ?_, hs.low⟩
  ·obtain ⟨s, _, h2, h3⟩ := hidx j e he
   have := hs.ent s _ h3
   rw [← h2] at this
   exact (rnE_ok hre S w j e).1 this
  ·obtain ⟨s, a1, a2, a3⟩ := hidx i e he
   obtain ⟨t, b1, b2, b3⟩ := hidx j f hf
   have e1 : entB ρ s (rnE σ N e) b := by rw [← a2, rnE_blk hre]; exact heb
   have e2 : entB ρ t (rnE σ N f) b := by rw [← b2, rnE_blk hre]; exact hfb
   have := hs.inj s t _ _ b a3 b3 e1 e2
   subst this
   have hi' : i < σ.length := (List.getElem?_eq_some_iff.1 a1).1
   exact (List.getElem?_inj hi' nd).1 (a1.trans b1.symm)
  ·obtain ⟨j, e, he, heb⟩ := hb
   obtain ⟨s, _, h2, h3⟩ := hidx j e he
   exact hs.out b ⟨s, _, h3, by rw [← h2, rnE_blk hre]; exact heb⟩
 have hmb0 : ∀ b, mb ρ0 H0 b → ∃ s ∈ σ, ∃ e, H[s]? = some e ∧ entB ρ s e b := fun b ⟨j, e, he, heb⟩ => by
  obtain ⟨s, h1, h2, h3⟩ := hidx j e he
  exact ⟨s, List.mem_of_getElem? h1, _, h3, by rw [← h2, rnE_blk hre]; exact heb⟩
 refine (h.run ρ0 S w vs hsat0 ((rnS_rel hre _ _).1 hr)).mono fun e w' ⟨ρ0', S', H0', out, hs', hev, hout, hK⟩ => ?_
 obtain ⟨G, hG, hσl, hGl, _, hGj, hGi⟩ := mrg_spec (rnE σ N) nd (hk out H0' hK)
 rw [hN] at hGl hGj hGi
 obtain ⟨t, ht⟩ := hev.pre
 have hl' : H0'.length = σ.length + t.length := by rw [← hs'.len, ht, List.length_append, hρl]
 have hre' : ∀ j, (ρ ++ t)[rnI σ N j]? = ρ0'[j]? := fun j => by
  rw [ht]
  by_cases hj : j < σ.length
  ·have hj' := List.getElem?_eq_getElem hj
   have hlt := hσlt j _ hj'
   rw [rnI_get hj', List.getElem?_append_left (by omega), List.getElem?_append_left (by omega), ← hρg j _ hj']
  ·obtain ⟨k, rfl⟩ : ∃ k, j = σ.length + k := ⟨j - σ.length, by omega⟩
   rw [rnI_new, List.getElem?_append_right (by omega), List.getElem?_append_right (by omega), hρN, hρl]
   congr 1; omega
 have hcase : ∀ (i : Nat) (f : Ent), G[i]? = some f → (∃ j e, H0'[j]? = some e ∧ i = rnI σ N j ∧ f = rnE σ N e) ∨ (i < N ∧ i ∉ σ ∧ H[i]? = some f) := fun i f hf => by
  by_cases hi : i < N
  ·by_cases him : i ∈ σ
   ·obtain ⟨j, hj⟩ := List.getElem?_of_mem him
    have hjl : j < H0'.length := by have := (List.getElem?_eq_some_iff.1 hj).1; omega
    have he := List.getElem?_eq_getElem hjl
    have h1 := hGj j _ he
    rw [rnI_get hj] at h1
    exact .inl ⟨j, _, he, (rnI_get hj).symm, Option.some.inj (hf.symm.trans h1)⟩
   ·exact .inr ⟨hi, him, (hGi i hi him) ▸ hf⟩
  ·have hil : i < G.length := (List.getElem?_eq_some_iff.1 hf).1
   have hjl : σ.length + (i - N) < H0'.length := by omega
   have he := List.getElem?_eq_getElem hjl
   have h1 := hGj _ _ he
   have hi2 : rnI σ N (σ.length + (i - N)) = i := by rw [rnI_new]; omega
   rw [hi2] at h1
   exact .inl ⟨_, _, he, hi2.symm, Option.some.inj (hf.symm.trans h1)⟩
 have houter : ∀ (i : Nat) (f : Ent) (b : Nat), i < N → i ∉ σ → H[i]? = some f → entB (ρ ++ t) i f b → entB ρ i f b ∧ b < w.heap.size ∧ ¬ mb ρ0 H0 b := fun i f b hi hni hf hfb => by
  rw [entB_pre _ (by omega)] at hfb
  refine ⟨hfb, hs.blk_lt hf hfb, fun hm => ?_⟩
  obtain ⟨s, hsσ, e', he', heb⟩ := hmb0 b hm
  exact hni (hs.inj i s f e' b hf he' hfb heb ▸ hsσ)
 have hnS : ∀ b, S b → b < w.heap.size ∧ ¬ mb ρ0 H0 b := fun b hb => ⟨hs.low b hb, fun hm => hsat0.out b hm hb⟩
 have hmbG : ∀ b, mb (ρ ++ t) G b → mb ρ H b ∨ w.heap.size ≤ b := fun b ⟨i, f, hf, hfb⟩ => by
  rcases hcase i f hf with ⟨j, e, he, rfl, rfl⟩ | ⟨hi, hni, hf'⟩
  ·rw [rnE_blk hre'] at hfb
   rcases hev.own b ⟨j, e, he, hfb⟩ with h1 | h1
   ·obtain ⟨s, _, e', he', heb⟩ := hmb0 b h1
    exact .inl ⟨s, e', he', heb⟩
   ·exact .inr h1
  ·exact .inl ⟨i, f, hf', (houter i f b hi hni hf' hfb).1⟩
 refine ⟨ρ ++ t, fun b => S b ∨ S' b, G, rnO σ N out, ⟨?_, fun i f hf => ?_, fun i j f g b hf hg hfb hgb => ?_, fun b hb hSb => ?_, fun b hb => ?_⟩,
  ⟨⟨t, rfl⟩, hev.os, hev.tape, hev.output, hev.size, fun b hb hn => hev.keep b hb fun hm => ?_, fun b hb => ?_, hmbG⟩, ?_, hG⟩
 ·rw [List.length_append, hρN, hGl]; omega
 ·rcases hcase i f hf with ⟨j, e, he, rfl, rfl⟩ | ⟨hi, hni, hf'⟩
  ·exact ((rnE_ok hre' S' w' j e).2 (hs'.ent j e he)).grow fun b hb => .inr hb
  ·refine ((hs.ent i f hf').move t (fun b hb => ?_) fun b hb => ?_).grow fun b hb => .inl hb
   ·have := houter i f b hi hni hf' (by rw [entB_pre _ (by omega)]; exact hb)
    exact hev.keep b this.2.1 this.2.2
   ·exact hev.keep b (hnS b hb).1 (hnS b hb).2
 ·rcases hcase i f hf with ⟨i', e, he, rfl, rfl⟩ | ⟨hi, hni, hf'⟩ <;> rcases hcase j g hg with ⟨j', e', he', rfl, rfl⟩ | ⟨hj, hnj, hg'⟩
  ·rw [rnE_blk hre'] at hfb hgb
   rw [hs'.inj i' j' e e' b he he' hfb hgb]
  ·rw [rnE_blk hre'] at hfb
   have := houter j g b hj hnj hg' hgb
   rcases hev.own b ⟨i', e, he, hfb⟩ with h1 | h1
   ·exact absurd h1 this.2.2
   ·omega
  ·rw [rnE_blk hre'] at hgb
   have := houter i f b hi hni hf' hfb
   rcases hev.own b ⟨j', e', he', hgb⟩ with h1 | h1
   ·exact absurd h1 this.2.2
   ·omega
  ·exact hs.inj i j f g b hf' hg' (houter i f b hi hni hf' hfb).1 (houter j g b hj hnj hg' hgb).1
 ·obtain ⟨i, f, hf, hfb⟩ := hb
  rcases hcase i f hf with ⟨j, e, he, rfl, rfl⟩ | ⟨hi, hni, hf'⟩
  ·rw [rnE_blk hre'] at hfb
   rcases hSb with hSb | hSb
   ·rcases hev.own b ⟨j, e, he, hfb⟩ with h1 | h1
    ·exact (hnS b hSb).2 h1
    ·have := (hnS b hSb).1; omega
   ·exact hs'.out b ⟨j, e, he, hfb⟩ hSb
  ·have h1 := houter i f b hi hni hf' hfb
   rcases hSb with hSb | hSb
   ·exact hs.out b ⟨i, f, hf', h1.1⟩ hSb
   ·rcases hev.imm b hSb with h2 | h2 | h2
    ·exact hs.out b ⟨i, f, hf', h1.1⟩ h2
    ·exact h1.2.2 h2
    ·omega
 ·rcases hb with hb | hb
  ·exact Nat.lt_of_lt_of_le (hs.low b hb) hev.size
  ·exact hs'.low b hb
 ·obtain ⟨s, _, e', he', heb⟩ := hmb0 b hm
  exact hn ⟨s, e', he', heb⟩
 ·rcases hb with hb | hb
  ·exact .inl hb
  ·rcases hev.imm b hb with h1 | h1 | h1
   ·exact .inl h1
   ·obtain ⟨s, _, e', he', heb⟩ := hmb0 b h1
    exact .inr (.inl ⟨s, e', he', heb⟩)
   ·exact .inr (.inr h1)
 ·cases out with
  | val a => obtain ⟨v, he, hv⟩ := hout; exact ⟨v, he, (rnA_rel hre' a v).2 hv⟩
  | vals l => obtain ⟨xs, he, hv⟩ := hout; exact ⟨xs, he, (rnS_rel hre' l xs).2 hv⟩
  | pan c => exact hout
end Go.AX
namespace Go.AX
open Go.RowKit
theorem SpecH.rawP {P : Program} {f : FuncId} {xs : List Value} {H : List Ent} {K : Out → List Ent → Prop} {R : Value → Prop} (ok : CallOk P f)
  (h : ∀ w, Facts H w → Calls P f xs.toArray w fun e w' => ∃ r, e = .returned r ∧ R r ∧ Below w.heap.size w w') (hk : ∀ r, R r → K (.val (.c (.v r))) H) : SpecH P f (pvs xs) H K := by
 refine ⟨ok, fun ρ S w vs hs hr => ?_⟩
 obtain rfl := RelS_pvs hr
 refine (h w hs.facts).mono fun e w' ⟨r, he, hR, bel⟩ => ?_
 exact ⟨ρ, S, H, .val (.c (.v r)), hs.below bel, by simpa using below_ev (S := S) (S' := S) (ρ := ρ) (H := H) (H' := H) [] bel (fun b hb => .inl hb) (fun b hb => by simpa using hb), ⟨r, he, rfl⟩, hk r hR⟩
theorem callOk {P : Program} {f : FuncId} {fn : Func} (hf : P.funcs[f]? = some fn) (hn : (fn.name == "runtime.NumGoroutine") = false) (hb : fn.body.isSome = true) : CallOk P f := ⟨fn, hf, hn, hb⟩
theorem SpecH.wk {P : Program} {f : FuncId} {args : List AV} {H : List Ent} {x : Value} {G : List Ent} (hok : okHB G.length G = true) (hl : H.length ≤ G.length) (h : SpecH P f args H fun out H' => out = .val (.c (.v x)) ∧ wkH H' G) : SpecH P f args H fun out H' => out = .val (.c (.v x)) ∧ H' = G := by
 refine ⟨h.ok, fun ρ S w vs hs hr => (h.run ρ S w vs hs hr).mono fun e w' ⟨ρ', S', H', out, hs', hev, hout, hx, hw⟩ => ?_⟩
 subst hx
 obtain ⟨h1, h2⟩ := hs'.weak hw (okHB_eq hok)
 refine ⟨ρ'.take G.length, S', G, .val (.c (.v x)), h1, ⟨?_, hev.os, hev.tape, hev.output, hev.size, hev.keep, hev.imm, fun b hb => hev.own b (h2 b hb)⟩, hout, rfl, rfl⟩
 obtain ⟨t, ht⟩ := hev.pre
 refine ⟨t.take (G.length - ρ.length), ?_⟩
 rw [ht, List.take_append, List.take_of_length_le (by rw [hs.len]; exact hl)]
theorem factC {P : Program} (hm : P.follows .mixedOrders = true) {f : FuncId} {fn : Func} {c : Code} (hf : P.funcs[f]? = some fn) (hn : (fn.name == "runtime.NumGoroutine") = false) (hb : fn.body = some c)
  {xs : List Value} (hl : Nat.ble (pvs xs).length fn.ntmps = true) {F : World → Prop} {r : Value} (h : initK fn.ntmps (pvs xs) fun s => exec P c s [.fact F] (endK P fn.results.toList fun out _ => out = .val (.c (.v r)))) (H : List Ent) (hF : ∀ w, Facts H w → F w) : SpecH P f (pvs xs) H (Ret r H) :=
 SpecF.call0 (R := fun v _ => v = r) (specF_of ((spec_of_exec hm hf hn hb hl h).mono fun out H' ho => by subst ho; exact fin_v rfl)) hF fun v G hv => by subst hv; exact ⟨rfl, rfl⟩
theorem factR {P : Program} (hm : P.follows .mixedOrders = true) {f : FuncId} {fn : Func} {c : Code} (hf : P.funcs[f]? = some fn) (hn : (fn.name == "runtime.NumGoroutine") = false) (hb : fn.body = some c)
  {xs : List Value} (hl : Nat.ble (pvs xs).length fn.ntmps = true) {F : World → Prop} {R : Value → Prop} (h : initK fn.ntmps (pvs xs) fun s => exec P c s [.fact F] (endK P fn.results.toList fun out _ => ∃ x, out = .val (.c (.v x)) ∧ R x)) (H : List Ent) (hF : ∀ w, Facts H w → F w) : SpecH P f (pvs xs) H (RetR R H) :=
 SpecF.call0 (R := fun v _ => R v) (specF_of ((spec_of_exec hm hf hn hb hl h).mono fun out H' ho => by obtain ⟨x, rfl, hx⟩ := ho; exact fin_v hx)) hF fun v G hv => ⟨v, rfl, hv, rfl⟩
end Go.AX
namespace Go.AX
open Go.ChangeShapes Go.WideShapes Go.ChangeAt Go.RowKit
section
variable {H : Type} {enc : TypeId × Value → H} {P : Program}
theorem trodAll_len {w : World} {base : Nat} {sp : Nat → Bool} {held : Bool} : ∀ {ts : List TypeId} {vs : List Value} {ds : List (DataW H)} {ps : List MemPlace}, DataW.TrodAll enc P w base sp held ts vs ds ps → ds.length = ts.length ∧ vs.length = ts.length
 | [], [], [], _, _ => ⟨rfl, rfl⟩
 | t :: ts, v :: vs, d :: ds, _, ⟨_, _, _, h, _⟩ => by have := trodAll_len h; simp [this]
 | [], _ :: _, _, _, h => h.elim
 | [], [], _ :: _, _, h => h.elim
 | _ :: _, [], _, _, h => h.elim
 | _ :: _, _ :: _, [], _, h => h.elim
theorem trodAll_keep (hl : laidOutB P = true) {W W' : World} (hb : Below W.heap.size W W') : ∀ {ts : List TypeId} {vs : List Value} {ds : List (DataW H)} {ps : List MemPlace},
  (ts.all fun t => P.readableRec t && decide (t < P.types.size)) = true → DataW.TrodAll enc P W 0 (fun _ => true) true ts vs ds ps → DataW.TrodAll enc P W' 0 (fun b => decide (b < W.heap.size)) true ts vs ds ps
 | [], [], [], _, _, h => h
 | t :: ts, v :: vs, d :: ds, _, hp, ⟨p, q, h1, h2, e⟩ => by
  simp only [List.all_cons, Bool.and_eq_true, decide_eq_true_eq] at hp
  have lt : ∀ x ∈ p, x.block < W.heap.size := by obtain ⟨m, hm⟩ := h1; exact DataW.trod_lt m _ _ _ hm
  exact ⟨p, q, Below.trod hl hp.1.1 hp.1.2 h1 hb lt, trodAll_keep hl hb (by simpa using hp.2) h2, e⟩
 | [], _ :: _, _, _, _, h => h.elim
 | [], [], _ :: _, _, _, h => h.elim
 | _ :: _, [], _, _, _, h => h.elim
 | _ :: _, _ :: _, [], _, _, h => h.elim
def Walk (P : Program) (f : FuncId) (args : Array Value) (W : World) : Prop :=
 Calls P f args W fun e W' => e = .returned (.bool true) ∧ Below W.heap.size W W'
structure Known (enc : TypeId × Value → H) (P : Program) (fn : Func) (W : World) (base : Nat) (args : Array Value) (ds : List (DataW H)) (p : List MemPlace) : Prop where
 val : ∀ (j : Nat) t v, fn.params[j]? = some t → args[j]? = some v → Value.okWide P W .any base t v
 trod : DataW.TrodAll enc P W 0 (fun _ => true) true fn.params.toList args.toList ds p
 weights : (DataW.weightsEach P fn.params.toList ds).all (· ≤ reachBytes) = true
 shaped : W.ShapedOpen P
end
end Go.AX
namespace Go.AX
theorem arr2 {α : Type} {a : Array α} (h : a.toList.length = 2) : ∃ x y, a = #[x, y] := by
 match a, h with
 | ⟨[x, y]⟩, _ => exact ⟨x, y, rfl⟩
end Go.AX
namespace Go.AX
open Go.ChangeShapes Go.WideShapes Go.ChangeAt Go.RowKit
theorem cell?_keep {w w' : World} {a : Addr} {x : Value} (h : w.cell? a = some x) (hb : w'.heap[a.block]? = w.heap[a.block]?) : w'.cell? a = some x := by
 simp only [World.cell?] at h ⊢
 rw [hb]; exact h
theorem cell?_lt {w : World} {a : Addr} {x : Value} (h : w.cell? a = some x) : a.block < w.heap.size := by
 simp only [World.cell?] at h
 rcases hc : w.heap[a.block]? with _ | o
 ·rw [hc] at h; cases h
 ·exact (Array.getElem?_eq_some_iff.1 hc).1
theorem SlAt.imm {w : World} {a : Option Addr} {k : Nat} {xs : List Value} (h : SlAt a k xs w) : Imm (fun b => b < w.heap.size) w (SlAt a k xs) := by
 refine ⟨h, fun w' hw => ⟨h.1, h.2.1, fun j hj => ?_⟩⟩
 have h1 := h.2.2 j hj
 have hj' : j < xs.length := by rw [h.1]; exact hj
 rw [List.getElem?_eq_getElem hj'] at h1 ⊢
 exact cell?_keep h1 (hw _ (cell?_lt h1))
theorem walkH {P : Program} {f : FuncId} {vs : List Value} {w : World} (H : List Ent) (hF : ∀ e ∈ H, ∃ F, e = .fact F ∧ Imm (fun b => b < w.heap.size) w F)
  (h : SpecH P f (pvs vs) H (Ret (.bool true) H)) : Walk P f vs.toArray w := by
 have hn : ∀ (ρ : List Loc) (i : Nat) (e : Ent) (b : Nat), H[i]? = some e → entB ρ i e b → False := fun ρ i e b he hb => by
  obtain ⟨F, rfl, _⟩ := hF e (List.mem_of_getElem? he)
  cases hb
 have hm : ∀ (ρ : List Loc) b, ¬ mb ρ H b := fun ρ b ⟨i, e, he, hb⟩ => hn ρ i e b he hb
 have hs : Sat (H.map fun _ => ⟨0, 0⟩) (fun b => b < w.heap.size) H w := by
  refine ⟨by simp, fun i e he => ?_, fun i j e f b he hf hb _ => (hn _ i e b he hb).elim, fun b hb => (hm _ b hb).elim, fun b hb => hb⟩
  obtain ⟨F, rfl, hi⟩ := hF e (List.mem_of_getElem? he)
  exact hi
 refine (h.run _ _ w vs hs (pvs_rel _ vs)).mono fun e w' ⟨ρ', S', H', out, hs', hev, hout, hx, hH⟩ => ?_
 subst hx
 obtain ⟨v, rfl, hv⟩ := hout
 have : v = .bool true := hv
 subst this
 exact ⟨rfl, hev.os, hev.tape, hev.output, hev.size, fun b hb => hev.keep b hb (hm _ b)⟩
section
variable {H : Type} {enc : TypeId × Value → H} {P : Program} {w : World}
def SlOk (w : World) (a : Option Addr) (n : Nat) (xs : List Value) : Prop := n ≤ 200000000000000 ∧ (a.isSome = true ∨ n = 0) ∧ Imm (fun b => b < w.heap.size) w (SlAt a n xs)
theorem known_ints {t e : TypeId} {k : IntKind} {v : Value} {d : DataW H} {ps : List MemPlace} {ts : List TypeId} {ds : List (DataW H)} {j : Nat} (ht : P.underlying t = some (.slice e)) (he : P.underlying e = some (.int k)) (hc : P.cellsOf e = 1) (hb : 1 ≤ P.bytesOf e)
  (hsz : (DataW.weightsEach P ts ds).all (· ≤ reachBytes) = true) (hj : ts[j]? = some t) (hd : ds[j]? = some d)
  {r : Reach} {b : Nat} (hv : Value.okWide P w r b t v) (h : DataW.Trod enc P w 0 (fun _ => true) true t v d ps) : ∃ (a : Option Addr) (l : List Int) (cap : Nat), v = .slice a l.length cap ∧ SlOk w a l.length (l.map (Value.int k)) ∧ l.length ≤ cap ∧ ∀ n ∈ l, (Lit.int k n).wf = true := by
 obtain ⟨a, n, c, rfl⟩ := okWide_slice ht hv
 obtain ⟨fuel, hf⟩ := h
 rcases open_ints ht he hc hf with ⟨h1, h2⟩ | ⟨a, len, cap, zs, h1, _, hl, hm, hlen, h2, h3, h4⟩
 ·refine ⟨none, [], 0, ?_, ⟨by simp, .inr rfl, SlAt.nil.imm⟩, by simp, by simp⟩
  simpa [Value.cells] using h1
 ·simp at hlen
  simp only [Prod.mk.injEq] at h2
  rw [h2.1] at hd
  have hs := sized_slice hsz hj hd ht
  have hr : reachBytes < 200000000000000 := by decide
  have hlz : (zs.take len).length = len := by rw [List.length_take]; omega
  have hb' : len ≤ reachBytes := by
   have h5 : (lits (H := H) k (zs.take len)).length = len := by simp [lits]; omega
   rw [h5] at hs
   exact Nat.le_trans (Nat.le_trans (Nat.le_add_right _ _) (Nat.le_mul_of_pos_right _ hb)) hs
  refine ⟨some a, zs.take len, cap, ?_, ⟨by rw [hlz]; omega, .inl rfl, ?_⟩, by rw [hlz]; exact hl, fun n hn => h4 n (List.mem_of_mem_take hn)⟩
  ·rw [hlz]
   simpa [Value.cells] using h1
  ·refine SlAt.imm ⟨by simp, fun _ => rfl, fun j hj => ?_⟩
   rw [hlz] at hj
   have := h3 j (by omega)
   show w.cell? (a.add j) = _
   rw [this, List.getElem?_map, List.getElem?_take_of_lt hj, List.getElem?_eq_getElem (by omega)]
   simp [List.getD, List.getElem?_eq_getElem (show j < zs.length by omega)]
theorem known_string {t : TypeId} {v : Value} {d : DataW H} {ps : List MemPlace} {ts : List TypeId} {ds : List (DataW H)} {j : Nat} (ht : P.underlying t = some .string)
  (hsz : (DataW.weightsEach P ts ds).all (· ≤ reachBytes) = true) (hj : ts[j]? = some t) (hd : ds[j]? = some d)
  {r : Reach} {b : Nat} (hv : Value.okWide P w r b t v) (h : DataW.Trod enc P w 0 (fun _ => true) true t v d ps) : ∃ s : ByteArray, v = .string s ∧ s.size ≤ 200000000000000 := by
 obtain ⟨s, rfl⟩ := okWide_string ht hv
 obtain ⟨fuel, hf⟩ := h
 obtain ⟨s, h1, h2, hw⟩ := DataW.trod_string ht hf
 simp only [Prod.mk.injEq] at h2
 rw [h2.1] at hd
 have hs := sized_string hsz hj hd
 have hr : reachBytes < 200000000000000 := by decide
 refine ⟨s, ?_, ?_⟩
 ·simpa [Value.cells] using h1
 ·have : s.size = s.data.toList.length := rfl
  omega
theorem trodAll_get {base : Nat} {sp : Nat → Bool} {held : Bool} : ∀ {ts : List TypeId} {vs : List Value} {ds : List (DataW H)} {ps : List MemPlace}, DataW.TrodAll enc P w base sp held ts vs ds ps →
  ∀ (j : Nat) t v, ts[j]? = some t → vs[j]? = some v → ∃ d p, ds[j]? = some d ∧ DataW.Trod enc P w base sp held t v d p
 | [], [], [], _, _, j, t, v, h, _ => by simp at h
 | t :: ts, v :: vs, d :: ds, _, ⟨p, _, h1, h, _⟩, 0, t', v', ht, hv => by
  simp only [List.getElem?_cons_zero, Option.some.injEq] at ht hv
  subst ht; subst hv
  exact ⟨d, p, rfl, h1⟩
 | t :: ts, v :: vs, d :: ds, _, ⟨_, _, _, h, _⟩, j + 1, t', v', ht, hv => by
  simp only [List.getElem?_cons_succ] at ht hv ⊢
  exact trodAll_get h j t' v' ht hv
 | [], _ :: _, _, _, h, _, _, _, _, _ => h.elim
 | [], [], _ :: _, _, h, _, _, _, _, _ => h.elim
 | _ :: _, [], _, _, h, _, _, _, _, _ => h.elim
 | _ :: _, _ :: _, [], _, h, _, _, _, _, _ => h.elim
variable {fn : Func} {base : Nat} {args : Array Value} {ds : List (DataW H)} {p : List MemPlace}
structure Known0 (enc : TypeId × Value → H) (P : Program) (fn : Func) (W : World) (base : Nat) (args : Array Value) (ds : List (DataW H)) (p : List MemPlace) : Prop where
 val : ∀ (j : Nat) t v, fn.params[j]? = some t → args[j]? = some v → Value.okWide P W .any base t v
 trod : DataW.TrodAll enc P W 0 (fun _ => true) true fn.params.toList args.toList ds p
 weights : (DataW.weightsEach P fn.params.toList ds).all (· ≤ reachBytes) = true
theorem Known.low (k : Known enc P fn w base args ds p) : Known0 enc P fn w base args ds p := ⟨k.val, k.trod, k.weights⟩
theorem Known0.int (k : Known0 enc P fn w base args ds p) (j : Nat) {t : TypeId} {v : Value} {i : IntKind} (hj : fn.params[j]? = some t) (hv : args[j]? = some v) (ht : P.underlying t = some (.int i)) : ∃ n, v = .int i n := okWide_int ht (k.val j t v hj hv)
theorem Known0.ints (k : Known0 enc P fn w base args ds p) (j : Nat) {t e : TypeId} {v : Value} {i : IntKind} (hj : fn.params[j]? = some t) (hv : args[j]? = some v) (ht : P.underlying t = some (.slice e)) (he : P.underlying e = some (.int i)) (hc : P.cellsOf e = 1) (hb : 1 ≤ P.bytesOf e) :
  ∃ (a : Option Addr) (l : List Int) (cap : Nat), v = .slice a l.length cap ∧ SlOk w a l.length (l.map (Value.int i)) ∧ l.length ≤ cap ∧ ∀ n ∈ l, (Lit.int i n).wf = true := by
 obtain ⟨d, q, hd, h⟩ := trodAll_get k.trod j t v (by simpa using hj) (by simpa using hv)
 exact known_ints ht he hc hb k.weights (by simpa using hj) hd (k.val j t v hj hv) h
theorem Known0.string (k : Known0 enc P fn w base args ds p) (j : Nat) {t : TypeId} {v : Value} (hj : fn.params[j]? = some t) (hv : args[j]? = some v) (ht : P.underlying t = some .string) :
  ∃ s : ByteArray, v = .string s ∧ s.size ≤ 200000000000000 := by
 obtain ⟨d, q, hd, h⟩ := trodAll_get k.trod j t v (by simpa using hj) (by simpa using hv)
 exact known_string ht k.weights (by simpa using hj) hd (k.val j t v hj hv) h
end
end Go.AX
namespace Go.AX
open Go.ChangeShapes Go.WideShapes Go.ChangeAt Go.RowKit
theorem laid_tail {P : Program} {x : String × DataW Unit} {r : List (String × DataW Unit)} {w : World} (h : laidMet P (x :: r) w) : laidMet P r w := by
 obtain ⟨ps, hv, hnd, hrows⟩ := h
 obtain ⟨n, d⟩ := x
 obtain ⟨g, t, cs, fuel, p, q, _, _, _, _, hq, rfl⟩ := hv
 exact ⟨q, hq, List.Nodup.sublist (List.sublist_append_right _ _) hnd, fun b off hm => hrows b off (List.mem_append_right _ hm)⟩
section
variable {H : Type} {enc : TypeId × Value → H}
theorem tab_imm {P : Program} {W : World} {name : String} {k : IntKind} {zs : List Int} (h : Lib.TabIs P W name k zs) : Imm (fun b => b < W.heap.size) W fun w => Lib.TabIs P w name k zs := by
 refine ⟨h, fun w' hw => ?_⟩
 unfold Lib.TabIs World.var? at *
 cases hg : P.globalNamed name with
 | none => simp [hg] at h
 | some g =>
  simp only [hg, Option.bind_some] at h ⊢
  have hlt : g < W.heap.size := by
   rcases Nat.lt_or_ge g W.heap.size with h' | h'
   ·exact h'
   ·rw [Array.getElem?_eq_none h'] at h; simp at h
  rw [hw g hlt]
  exact h
end
end Go.AX
namespace Go.AX
open Go.RowKit
theorem ReadW.val {P : Program} {o : Oper} {s : List AV} {H : List Ent} {K : AV → Prop} (x : Value) (hsel : ∀ cs b, o.op ≠ .select cs b) (hp : allPlain s o.op.operands.toList = true)
  (ok : ∀ w, Facts H w → (execOp (plainEv s) o).run P w = .ok (.value x) w) (hk : K (.c (.v x))) : ReadW P o s H K :=
 ⟨_, hk, fun ρ S w a hs hr => ⟨x, by rw [execOp_congr o hsel (ρ' := plainEv s) fun x hx => allPlain_eval hr _ hp x (Array.mem_toList_iff.2 hx)]; exact ok w hs.facts, rfl⟩⟩
theorem plainEv_v {s : List AV} {x : Operand} {v : Value} (h : opv s x = .c (.v v)) : plainEv s x = v := by simp [plainEv, h]
theorem run_op_slice {P : Program} {o : Oper} {ev : Operand → Value} {t : TypeId} {x : Operand} {lo hi mx : Option Operand} {r : Value} {w : World} (ho : o.op = .slice t x lo hi mx)
  (h : (Instr.sliceAt t (ev x) (lo.map ev) (hi.map ev) (mx.map ev)).run P w = .ok r w) : (execOp ev o).run P w = .ok (.value r) w := by
 unfold execOp; simp only [ho, Sem.run_bind, h, Result.andThen_ok, Sem.run_pure]
section
variable {P : Program} {o : Oper} {s : List AV} {H : List Ent} {K : AV → Prop} {t : TypeId} {x y z : Operand} {b : ByteArray} {k k' : IntKind} {i j : Int}
theorem ReadW.str_l (ho : o.op = .slice t x (some y) none none) (hu : P.underlying t = some .string) (hx : opv s x = .c (.v (.string b))) (hy : opv s y = .c (.v (.int k i)))
  (h : 0 ≤ i ∧ i ≤ b.size) (hk : K (.c (.v (.string (b.extract i.toNat b.size))))) : ReadW P o s H K :=
 ReadW.val _ (fun cs b e => by rw [ho] at e; cases e) (by rw [ho]; show allPlain s [x, y] = true; simp [allPlain, hx, hy])
  (fun w _ => run_op_slice ho (by simp only [Option.map, plainEv_v hx, plainEv_v hy]; rw [run_sliceAt_string w t _ _ _ _ hu, run_slice_string_l w t b hu k i h.1 h.2])) hk
theorem ReadW.str_h (ho : o.op = .slice t x none (some z) none) (hu : P.underlying t = some .string) (hx : opv s x = .c (.v (.string b))) (hz : opv s z = .c (.v (.int k j)))
  (h : 0 ≤ j ∧ j ≤ b.size) (hk : K (.c (.v (.string (b.extract 0 j.toNat))))) : ReadW P o s H K :=
 ReadW.val _ (fun cs b e => by rw [ho] at e; cases e) (by rw [ho]; show allPlain s [x, z] = true; simp [allPlain, hx, hz])
  (fun w _ => run_op_slice ho (by simp only [Option.map, plainEv_v hx, plainEv_v hz]; rw [run_sliceAt_string w t _ _ _ _ hu, run_slice_string_h w t b hu k j h.1 h.2])) hk
end
def u8s (l : List UInt8) : List Value := l.map fun b => .int .u8 (b.toNat : Int)
theorem ReadW.bytes {P : Program} {o : Oper} {s : List AV} {H : List Ent} {K : AV → Prop} {src dst e : TypeId} {x : Operand} {a : Option Addr} {cap n : Nat} (l : List UInt8) (hn : l.length = n) (ho : o.op = .convert src dst x) (hs : P.underlying src = some (.slice e))
  (he : P.underlying e = some (.int .u8)) (hd : P.underlying dst = some .string) (hx : opv s x = .c (.v (.slice a n cap))) (hF : ∀ w, Facts H w → SlAt a n (u8s l) w) (hk : K (.c (.v (.string ⟨l.toArray⟩)))) : ReadW P o s H K := by
 subst hn
 exact ReadW.val _ (fun cs b e => by rw [ho] at e; cases e) (by rw [ho]; show allPlain s [x] = true; simp [allPlain, hx])
  (fun w hw => by
   unfold execOp
   have hS := hF w hw
   have hrun : (convert src dst (.slice a l.length cap)).run P w = .ok (.string ⟨l.toArray⟩) w := by
    cases a with
    | some a =>
     refine run_convert_bytes_back w src dst e a cap l hs he hd ?_
     intro j hj
     have := hS.2.2 j hj
     simpa [u8s, hj] using this
    | none =>
     have hl : l = [] := by
      cases l with
      | nil => rfl
      | cons c l => exact absurd (hS.2.1 (by simp)) (by simp)
     subst hl
     have := run_convert_bytes_string w src dst e none 0 cap hs he hd
     simp [this, Conv.bytesToString]
     rfl
   simp only [ho, plainEv_v hx, Sem.run_bind, hrun, Result.andThen_ok, Sem.run_pure]) hk
theorem EffW.app {P : Program} {o : Oper} {s : List AV} {H : List Ent} {K : AV → List Ent → Prop} {Ty T : TypeId} {x y : Operand} {sz n cap b q i : Nat} {xs ys : List Value} {inf : TypeInfo} (ho : o.op = .store Ty x y)
  (hx : opv s x = .c (.v (.pointer (some ⟨b, q, none⟩)))) (hi : nthE H i = some (.app T sz xs (some ⟨b, 0, none⟩) n cap)) (hy : avCells (opv s y) = some (vs ys)) (hone : oneCs (vs ys) = true) (hinf : P.info? Ty = some inf) (hlen : ys.length = inf.size)
  (hq : q + ys.length ≤ n * sz) (hk : setEK H i (.app T sz (xs.take q ++ ys ++ xs.drop (q + ys.length)) (some ⟨b, 0, none⟩) n cap) fun H' => K (.c .any) H') : EffW P o s H K := by
 rw [nthE_eq] at hi
 obtain ⟨_, hk⟩ := setEK_spec hk
 refine Effs.w (fun ρ S w a hs hr => ?_) hk
 have hxr : a.eval x = .pointer (some ⟨b, q, none⟩) := by have := opv_rel hr x; rw [hx] at this; exact this
 have hyr := avCells_rel hy (opv_rel hr y)
 have hys : (a.eval y).cells.toList = ys := by
  have : ∀ (l : List Value) (m : List Value), RelL ρ (vs l) m → m = l := by
   intro l
   induction l with
   | nil => intro m h; cases m with
    | nil => rfl
    | cons _ _ => exact h.elim
   | cons v l ih => intro m h; cases m with
    | nil => exact h.elim
    | cons u m => rw [show u = v from h.1, ih m h.2]
  exact this _ _ hyr
 rcases hs.ent i _ hi with ⟨h0, _⟩ | ⟨b', hb', arr, fr, ⟨hb, hfr⟩, hxl, hnc, hcm, hasz, htk⟩
 ·cases h0
 cases hb'
 have hnl : n * sz ≤ arr.size := by rw [hasz]; exact Nat.mul_le_mul_right _ hnc
 have hsz : (a.eval y).cells.size = inf.size := by rw [← hlen, ← hys]; simp
 have hfit : q + (a.eval y).cells.toList.length ≤ arr.size := by rw [hys]; omega
 have hrun := run_storeVar (P := P) hb hfr hinf hsz hfit (oneCs_rel hone hyr)
 obtain ⟨f1, f2, f3, f4, f5⟩ := setRow_facts w b (arr.toList.take q ++ (a.eval y).cells.toList ++ arr.toList.drop (q + (a.eval y).cells.toList.length)).toArray
 have hE : EntOk ρ S (w.setRow b (arr.toList.take q ++ (a.eval y).cells.toList ++ arr.toList.drop (q + (a.eval y).cells.toList.length)).toArray) i (.app T sz (xs.take q ++ ys ++ xs.drop (q + ys.length)) (some ⟨b, 0, none⟩) n cap) := by
  have e0 : (arr.toList.take q ++ (a.eval y).cells.toList ++ arr.toList.drop (q + (a.eval y).cells.toList.length)).toArray.size = arr.size := by rw [hys]; simp; omega
  refine .inr ⟨b, rfl, _, fr, ⟨setRow_heap w b arr _ T _ hb, by rw [e0]; exact hfr⟩, ?_, hnc, hcm, ?_, ?_⟩
  ·simp; omega
  ·rw [hys]; simp; omega
  ·rw [hys]
   have e : (arr.toList.take q ++ ys ++ arr.toList.drop (q + ys.length)).toArray.toList.take (n * sz) = (arr.toList.take (n * sz)).take q ++ ys ++ (arr.toList.take (n * sz)).drop (q + ys.length) := by
    apply List.ext_getElem?
    intro j
    simp only [List.getElem?_take, List.getElem?_append, List.getElem?_drop, List.length_append, List.length_take, Array.length_toList]
    by_cases h1 : j < q
    ·have : min q arr.size = q := by omega
     have h2 : min q (min (n * sz) arr.size) = q := by omega
     simp [this, h2, h1, show j < q + ys.length by omega, show j < n * sz by omega]
    ·have : min q arr.size = q := by omega
     have h2 : min q (min (n * sz) arr.size) = q := by omega
     by_cases h3 : j < q + ys.length
     ·simp [this, h2, h1, h3, show j < n * sz by omega]
     ·simp only [this, h2, h1, h3, if_false]
      by_cases h4 : j < n * sz
      ·simp [h4, show q + ys.length + (j - (q + ys.length)) = j by omega]
      ·simp [h4]; omega
   rw [e, htk]
 have hS := hs.setG (e' := .app T sz (xs.take q ++ ys ++ xs.drop (q + ys.length)) (some ⟨b, 0, none⟩) n cap) hi rfl (Nat.le_of_eq f1.symm) (fun k _ hne => f2 k hne) f3 f4 f5 (fun c hc => .inl (Option.some.inj hc).symm) hE
 refine ⟨.skip, undef, ρ, _, ?_, .inr ⟨rfl, rfl⟩, hS.1, hS.2, trivial⟩
 unfold execOp
 simp only [ho, hxr, Instr.storeAt, Instr.sureAddr, Sem.run_bind, Sem.run_pure, Result.andThen_ok, hrun]
end Go.AX
namespace Go.AX
structure WQ (q : Prop) : Prop where
 out : q
theorem wX {p q : Prop} (h : q) (e : WQ q → p := by intro hq; (((conv => whnf); (repeat ((first | refine BoxN.own ?_ | refine RwN.own ?_ | refine VrN.norm (wrap_i64 (by omega)) ?_ | refine VrN.keep ?_ | refine DrawN.calm (by decide +kernel) ?_ | refine Nd.mk (by decide +kernel) ?_ | refine Nd.mk (by omega) ?_ | (refine Nd.mk ?_ ?_; focus ((repeat' (first | exact trivial | exact wkE_refl _ | refine And.intro ?_ ?_)); done)) | refine RdN.intro _ rfl (by rfl) ?_); (conv => whnf))))); exact hq.out) : p := e ⟨h⟩
theorem wZ {p : Prop} (e : p := by ((conv => whnf); (repeat ((first | refine BoxN.own ?_ | refine RwN.own ?_ | refine VrN.norm (wrap_i64 (by omega)) ?_ | refine VrN.keep ?_ | refine DrawN.calm (by decide +kernel) ?_ | refine Nd.mk (by decide +kernel) ?_ | refine Nd.mk (by omega) ?_ | (refine Nd.mk ?_ ?_; focus ((repeat' (first | exact trivial | exact wkE_refl _ | refine And.intro ?_ ?_)); done)) | refine RdN.intro _ rfl (by rfl) ?_); (conv => whnf))))) : p := e
theorem wXB {p q : Prop} (h : q) (e : WQ q → p := by intro hq; (((conv => whnf); (repeat ((first | refine RwN.own ?_ | refine VrN.norm (wrap_i64 (by omega)) ?_ | refine VrN.keep ?_ | refine DrawN.calm (by decide +kernel) ?_ | refine Nd.mk (by decide +kernel) ?_ | refine Nd.mk (by omega) ?_ | (refine Nd.mk ?_ ?_; focus ((repeat' (first | exact trivial | exact wkE_refl _ | refine And.intro ?_ ?_)); done)) | refine RdN.intro _ rfl (by rfl) ?_); (conv => whnf))))); exact hq.out) : p := e ⟨h⟩
theorem wZB {p : Prop} (e : p := by ((conv => whnf); (repeat ((first | refine RwN.own ?_ | refine VrN.norm (wrap_i64 (by omega)) ?_ | refine VrN.keep ?_ | refine DrawN.calm (by decide +kernel) ?_ | refine Nd.mk (by decide +kernel) ?_ | refine Nd.mk (by omega) ?_ | (refine Nd.mk ?_ ?_; focus ((repeat' (first | exact trivial | exact wkE_refl _ | refine And.intro ?_ ?_)); done)) | refine RdN.intro _ rfl (by rfl) ?_); (conv => whnf))))) : p := e
theorem wXD {p q : Prop} (h : q) (e : WQ q → p := by intro hq; (((conv => whnf); (repeat ((first | refine BoxN.own ?_ | refine RwN.own ?_ | refine VrN.norm (wrap_i64 (by omega)) ?_ | refine VrN.keep ?_ | refine Nd.mk (by decide +kernel) ?_ | refine Nd.mk (by omega) ?_ | (refine Nd.mk ?_ ?_; focus ((repeat' (first | exact trivial | exact wkE_refl _ | refine And.intro ?_ ?_)); done)) | refine RdN.intro _ rfl (by rfl) ?_); (conv => whnf))))); exact hq.out) : p := e ⟨h⟩
theorem wZD {p : Prop} (e : p := by ((conv => whnf); (repeat ((first | refine BoxN.own ?_ | refine RwN.own ?_ | refine VrN.norm (wrap_i64 (by omega)) ?_ | refine VrN.keep ?_ | refine Nd.mk (by decide +kernel) ?_ | refine Nd.mk (by omega) ?_ | (refine Nd.mk ?_ ?_; focus ((repeat' (first | exact trivial | exact wkE_refl _ | refine And.intro ?_ ?_)); done)) | refine RdN.intro _ rfl (by rfl) ?_); (conv => whnf))))) : p := e
theorem wXE {p q : Prop} (h : q) (e : WQ q → p := by intro hq; (((conv => whnf); (repeat ((first | refine LdN.one (a := some ⟨_, 0, none⟩) (q := 0) (xs := [_, _, _, _, _]) _ rfl (fun w hw => hw.2.1) rfl ?_ | refine LdN.one (a := some ⟨_, 0, none⟩) (q := 1) (xs := [_, _, _, _, _]) _ rfl (fun w hw => hw.2.1) rfl ?_ | refine LdN.one (a := some ⟨_, 0, none⟩) (q := 2) (xs := [_, _, _, _, _]) _ rfl (fun w hw => hw.2.1) rfl ?_ | refine LdN.one (a := some ⟨_, 0, none⟩) (q := 3) (xs := [_, _, _, _, _]) _ rfl (fun w hw => hw.2.1) rfl ?_ | refine LdN.one (a := some ⟨_, 0, none⟩) (q := 4) (xs := [_, _, _, _, _]) _ rfl (fun w hw => hw.2.1) rfl ?_ | refine RwN.own ?_ | refine VrN.norm (wrap_i64 (by omega)) ?_ | refine VrN.keep ?_ | refine DrawN.calm (by decide +kernel) ?_ | refine Nd.mk (by decide +kernel) ?_ | refine Nd.mk (by omega) ?_ | (refine Nd.mk ?_ ?_; focus ((repeat' (first | exact trivial | exact wkE_refl _ | refine And.intro ?_ ?_)); done)) | refine RdN.intro _ rfl (by rfl) ?_); (conv => whnf))))); exact hq.out) : p := e ⟨h⟩
theorem wZE {p : Prop} (e : p := by ((conv => whnf); (repeat ((first | refine LdN.one (a := some ⟨_, 0, none⟩) (q := 0) (xs := [_, _, _, _, _]) _ rfl (fun w hw => hw.2.1) rfl ?_ | refine LdN.one (a := some ⟨_, 0, none⟩) (q := 1) (xs := [_, _, _, _, _]) _ rfl (fun w hw => hw.2.1) rfl ?_ | refine LdN.one (a := some ⟨_, 0, none⟩) (q := 2) (xs := [_, _, _, _, _]) _ rfl (fun w hw => hw.2.1) rfl ?_ | refine LdN.one (a := some ⟨_, 0, none⟩) (q := 3) (xs := [_, _, _, _, _]) _ rfl (fun w hw => hw.2.1) rfl ?_ | refine LdN.one (a := some ⟨_, 0, none⟩) (q := 4) (xs := [_, _, _, _, _]) _ rfl (fun w hw => hw.2.1) rfl ?_ | refine RwN.own ?_ | refine VrN.norm (wrap_i64 (by omega)) ?_ | refine VrN.keep ?_ | refine DrawN.calm (by decide +kernel) ?_ | refine Nd.mk (by decide +kernel) ?_ | refine Nd.mk (by omega) ?_ | (refine Nd.mk ?_ ?_; focus ((repeat' (first | exact trivial | exact wkE_refl _ | refine And.intro ?_ ?_)); done)) | refine RdN.intro _ rfl (by rfl) ?_); (conv => whnf))))) : p := e
theorem wXF {p q : Prop} (h : q) (e : WQ q → p := by intro hq; (((conv => whnf); (repeat ((first | refine LdN.one (a := some ⟨_, 0, none⟩) (q := 0) (xs := [_, _, _, _, _]) _ rfl (fun w hw => hw.2.2.2.1) rfl ?_ | refine LdN.one (a := some ⟨_, 0, none⟩) (q := 1) (xs := [_, _, _, _, _]) _ rfl (fun w hw => hw.2.2.2.1) rfl ?_ | refine LdN.one (a := some ⟨_, 0, none⟩) (q := 2) (xs := [_, _, _, _, _]) _ rfl (fun w hw => hw.2.2.2.1) rfl ?_ | refine LdN.one (a := some ⟨_, 0, none⟩) (q := 3) (xs := [_, _, _, _, _]) _ rfl (fun w hw => hw.2.2.2.1) rfl ?_ | refine LdN.one (a := some ⟨_, 0, none⟩) (q := 4) (xs := [_, _, _, _, _]) _ rfl (fun w hw => hw.2.2.2.1) rfl ?_ | refine RwN.own ?_ | refine VrN.norm (wrap_i64 (by omega)) ?_ | refine VrN.keep ?_ | refine Nd.mk (by decide +kernel) ?_ | refine Nd.mk (by omega) ?_ | (refine Nd.mk ?_ ?_; focus ((repeat' (first | exact trivial | exact wkE_refl _ | refine And.intro ?_ ?_)); done)) | refine RdN.intro _ rfl (by rfl) ?_); (conv => whnf))))); exact hq.out) : p := e ⟨h⟩
theorem wZF {p : Prop} (e : p := by ((conv => whnf); (repeat ((first | refine LdN.one (a := some ⟨_, 0, none⟩) (q := 0) (xs := [_, _, _, _, _]) _ rfl (fun w hw => hw.2.2.2.1) rfl ?_ | refine LdN.one (a := some ⟨_, 0, none⟩) (q := 1) (xs := [_, _, _, _, _]) _ rfl (fun w hw => hw.2.2.2.1) rfl ?_ | refine LdN.one (a := some ⟨_, 0, none⟩) (q := 2) (xs := [_, _, _, _, _]) _ rfl (fun w hw => hw.2.2.2.1) rfl ?_ | refine LdN.one (a := some ⟨_, 0, none⟩) (q := 3) (xs := [_, _, _, _, _]) _ rfl (fun w hw => hw.2.2.2.1) rfl ?_ | refine LdN.one (a := some ⟨_, 0, none⟩) (q := 4) (xs := [_, _, _, _, _]) _ rfl (fun w hw => hw.2.2.2.1) rfl ?_ | refine RwN.own ?_ | refine VrN.norm (wrap_i64 (by omega)) ?_ | refine VrN.keep ?_ | refine Nd.mk (by decide +kernel) ?_ | refine Nd.mk (by omega) ?_ | (refine Nd.mk ?_ ?_; focus ((repeat' (first | exact trivial | exact wkE_refl _ | refine And.intro ?_ ?_)); done)) | refine RdN.intro _ rfl (by rfl) ?_); (conv => whnf))))) : p := e
theorem wXR {p q : Prop} (h : q) (e : WQ q → p := by intro hq; (((conv => whnf); (repeat ((first | refine BoxN.own ?_ | refine VrN.norm (wrap_i64 (by omega)) ?_ | refine VrN.keep ?_ | refine DrawN.calm (by decide +kernel) ?_ | refine Nd.mk (by decide +kernel) ?_ | refine Nd.mk (by omega) ?_ | (refine Nd.mk ?_ ?_; focus ((repeat' (first | exact trivial | exact wkE_refl _ | refine And.intro ?_ ?_)); done)) | refine RdN.intro _ rfl (by rfl) ?_); (conv => whnf))))); exact hq.out) : p := e ⟨h⟩
theorem wZR {p : Prop} (e : p := by ((conv => whnf); (repeat ((first | refine BoxN.own ?_ | refine VrN.norm (wrap_i64 (by omega)) ?_ | refine VrN.keep ?_ | refine DrawN.calm (by decide +kernel) ?_ | refine Nd.mk (by decide +kernel) ?_ | refine Nd.mk (by omega) ?_ | (refine Nd.mk ?_ ?_; focus ((repeat' (first | exact trivial | exact wkE_refl _ | refine And.intro ?_ ?_)); done)) | refine RdN.intro _ rfl (by rfl) ?_); (conv => whnf))))) : p := e
theorem wXK {p q : Prop} (h : q) (e : WQ q → p := by intro hq; (((conv => whnf); (repeat ((first | refine VrN.norm (wrap_i64 (by omega)) ?_ | refine VrN.keep ?_ | refine DrawN.calm (by decide +kernel) ?_ | refine Nd.mk (by decide +kernel) ?_ | refine Nd.mk (by omega) ?_ | (refine Nd.mk ?_ ?_; focus ((repeat' (first | exact trivial | exact wkE_refl _ | refine And.intro ?_ ?_)); done)) | refine RdN.intro _ rfl (by rfl) ?_); (conv => whnf))))); exact hq.out) : p := e ⟨h⟩
theorem wZK {p : Prop} (e : p := by ((conv => whnf); (repeat ((first | refine VrN.norm (wrap_i64 (by omega)) ?_ | refine VrN.keep ?_ | refine DrawN.calm (by decide +kernel) ?_ | refine Nd.mk (by decide +kernel) ?_ | refine Nd.mk (by omega) ?_ | (refine Nd.mk ?_ ?_; focus ((repeat' (first | exact trivial | exact wkE_refl _ | refine And.intro ?_ ?_)); done)) | refine RdN.intro _ rfl (by rfl) ?_); (conv => whnf))))) : p := e
theorem wXS {p q : Prop} (h : q) (e : WQ q → p := by intro hq; (((conv => whnf); (repeat ((first | refine SeqN.plain ?_ | refine BoxN.own ?_ | refine RwN.own ?_ | refine VrN.norm (wrap_i64 (by omega)) ?_ | refine VrN.keep ?_ | refine DrawN.calm (by decide +kernel) ?_ | refine Nd.mk (by decide +kernel) ?_ | refine Nd.mk (by omega) ?_ | (refine Nd.mk ?_ ?_; focus ((repeat' (first | exact trivial | exact wkE_refl _ | refine And.intro ?_ ?_)); done)) | refine RdN.intro _ rfl (by rfl) ?_); (conv => whnf))))); exact hq.out) : p := e ⟨h⟩
theorem wZS {p : Prop} (e : p := by ((conv => whnf); (repeat ((first | refine SeqN.plain ?_ | refine BoxN.own ?_ | refine RwN.own ?_ | refine VrN.norm (wrap_i64 (by omega)) ?_ | refine VrN.keep ?_ | refine DrawN.calm (by decide +kernel) ?_ | refine Nd.mk (by decide +kernel) ?_ | refine Nd.mk (by omega) ?_ | (refine Nd.mk ?_ ?_; focus ((repeat' (first | exact trivial | exact wkE_refl _ | refine And.intro ?_ ?_)); done)) | refine RdN.intro _ rfl (by rfl) ?_); (conv => whnf))))) : p := e
theorem wXP {p q : Prop} (h : q) (e : WQ q → p := by intro hq; (((conv => whnf); (repeat ((first | refine Nd.mk (fun w hw => hw.1.1) ?_ | refine Nd.mk (fun w hw => hw.1) ?_ | refine Nd.mk (fun w hw => hw.2.1) ?_ | refine Nd.mk (fun w hw => hw.2.2.1) ?_ | refine Nd.mk (fun w hw => hw.2.2.2.1) ?_ | refine Nd.mk (fun w hw => hw.2.2.2.2.1) ?_ | refine Nd.mk (fun w hw => hw.2.2.2.2.2.1) ?_ | refine Nd.mk (fun w hw => hw.2.2.2.2.2.2.1) ?_ | refine Nd.mk (fun w hw => hw.2.2.2.2.2.2.2.1) ?_ | refine Nd.mk (fun w hw => hw.2.2.2.2.2.2.2.2.1) ?_ | refine Nd.mk (fun w hw => hw.2.2.2.2.2.2.2.2.2.1) ?_ | refine Nd.mk (fun w hw => ⟨hw.1, hw.2.1⟩) ?_ | refine Nd.mk (fun w hw => hw.1.cell rfl) ?_ | refine VrN.norm (wrap_i64 (by omega)) ?_ | refine VrN.keep ?_ | refine Nd.mk (by decide +kernel) ?_ | refine Nd.mk (by omega) ?_ | refine RdN.intro _ rfl (by rfl) ?_); (conv => whnf))))); exact hq.out) : p := e ⟨h⟩
theorem wZP {p : Prop} (e : p := by ((conv => whnf); (repeat ((first | refine Nd.mk (fun w hw => hw.1.1) ?_ | refine Nd.mk (fun w hw => hw.1) ?_ | refine Nd.mk (fun w hw => hw.2.1) ?_ | refine Nd.mk (fun w hw => hw.2.2.1) ?_ | refine Nd.mk (fun w hw => hw.2.2.2.1) ?_ | refine Nd.mk (fun w hw => hw.2.2.2.2.1) ?_ | refine Nd.mk (fun w hw => hw.2.2.2.2.2.1) ?_ | refine Nd.mk (fun w hw => hw.2.2.2.2.2.2.1) ?_ | refine Nd.mk (fun w hw => hw.2.2.2.2.2.2.2.1) ?_ | refine Nd.mk (fun w hw => hw.2.2.2.2.2.2.2.2.1) ?_ | refine Nd.mk (fun w hw => hw.2.2.2.2.2.2.2.2.2.1) ?_ | refine Nd.mk (fun w hw => ⟨hw.1, hw.2.1⟩) ?_ | refine Nd.mk (fun w hw => hw.1.cell rfl) ?_ | refine VrN.norm (wrap_i64 (by omega)) ?_ | refine VrN.keep ?_ | refine Nd.mk (by decide +kernel) ?_ | refine Nd.mk (by omega) ?_ | refine RdN.intro _ rfl (by rfl) ?_); (conv => whnf))))) : p := e
theorem wXO {p q : Prop} (h : q) (e : WQ q → p := by intro hq; (((conv => whnf); (repeat ((first | refine Nd.mk (fun w hw => hw.1.1) ?_ | refine Nd.mk (fun w hw => hw.1) ?_ | refine Nd.mk (fun w hw => hw.2.1) ?_ | refine Nd.mk (fun w hw => hw.2.2.1) ?_ | refine Nd.mk (fun w hw => hw.2.2.2.1) ?_ | refine Nd.mk (fun w hw => hw.2.2.2.2.1) ?_ | refine Nd.mk (fun w hw => hw.2.2.2.2.2.1) ?_ | refine Nd.mk (fun w hw => hw.2.2.2.2.2.2.1) ?_ | refine Nd.mk (fun w hw => hw.2.2.2.2.2.2.2.1) ?_ | refine Nd.mk (fun w hw => hw.2.2.2.2.2.2.2.2.1) ?_ | refine Nd.mk (fun w hw => hw.2.2.2.2.2.2.2.2.2.1) ?_ | refine Nd.mk (fun w hw => ⟨hw.1, hw.2.1⟩) ?_ | refine Nd.mk (fun w hw => hw.1.cell rfl) ?_ | refine ReadC.nil rfl rfl ?_ | refine RwN.own ?_ | refine VrN.norm (wrap_i64 (by omega)) ?_ | refine VrN.keep ?_ | refine Nd.mk (by decide +kernel) ?_ | refine Nd.mk (by omega) ?_ | refine RdN.intro _ rfl (by rfl) ?_); (conv => whnf))))); exact hq.out) : p := e ⟨h⟩
theorem wZO {p : Prop} (e : p := by ((conv => whnf); (repeat ((first | refine Nd.mk (fun w hw => hw.1.1) ?_ | refine Nd.mk (fun w hw => hw.1) ?_ | refine Nd.mk (fun w hw => hw.2.1) ?_ | refine Nd.mk (fun w hw => hw.2.2.1) ?_ | refine Nd.mk (fun w hw => hw.2.2.2.1) ?_ | refine Nd.mk (fun w hw => hw.2.2.2.2.1) ?_ | refine Nd.mk (fun w hw => hw.2.2.2.2.2.1) ?_ | refine Nd.mk (fun w hw => hw.2.2.2.2.2.2.1) ?_ | refine Nd.mk (fun w hw => hw.2.2.2.2.2.2.2.1) ?_ | refine Nd.mk (fun w hw => hw.2.2.2.2.2.2.2.2.1) ?_ | refine Nd.mk (fun w hw => hw.2.2.2.2.2.2.2.2.2.1) ?_ | refine Nd.mk (fun w hw => ⟨hw.1, hw.2.1⟩) ?_ | refine Nd.mk (fun w hw => hw.1.cell rfl) ?_ | refine ReadC.nil rfl rfl ?_ | refine RwN.own ?_ | refine VrN.norm (wrap_i64 (by omega)) ?_ | refine VrN.keep ?_ | refine Nd.mk (by decide +kernel) ?_ | refine Nd.mk (by omega) ?_ | refine RdN.intro _ rfl (by rfl) ?_); (conv => whnf))))) : p := e
theorem wKK {p : Prop} (e : p := by ((repeat' (first | exact trivial | refine And.intro (by with_reducible rfl) ?_ | (with_reducible exact wkC_refl _) | (with_reducible exact wkCs_refl _) | refine And.intro ?_ ?_))); all_goals (first | rfl | exact av_int (by first | omega | (rw [wrap_i64 (by omega)]; omega)))) : p := e
theorem wHH {p : Prop} (e : p := by (repeat' (first | exact trivial | exact wkE_refl _ | refine And.intro ?_ ?_))) : p := e
end Go.AX
namespace Go.AX
open Go.ChangeShapes Go.WideShapes Go.ChangeAt Go.RowKit
section
variable {H : Type} {enc : TypeId × Value → H}
theorem handed_and_shaped {a : Assume} {C : Checked} {os : Os} {f : FuncId} {fn : Func} {s : ChangeSpec} {conds : List PathCond} {apart fresh handsOn again : Bool} {X : World → Array Value → Prop}
  (hX : ∀ (w w' : World) (args : Array Value), w.heap = w'.heap → X w args → X w' args)
  (own : ownKnob C.prog.godebug = none) (started : os.Started) (noInit : C.prog.inits.idxOf? f = none) (hfn : C.prog.funcs[f]? = some fn)
  (witness : ∃ (w : World) (tape : Tape) (i : Input), w.os = os ∧ (w.forCall tape i).Shaped C.prog ∧ i.vars = [] ∧ Input.okWide C.prog (w.forCall tape i) .any w.heap.size f i ∧
   ((s.pre enc C.prog fn conds apart (w.forCall tape i).memory i.args ∧ X (w.forCall tape i).memory i.args) ∧ sizedMet enc C.prog fn (OpenSpec.ofChange s) apart (w.forCall tape i).memory i.args) ∧ a.holds C.prog (lone (Frame.enter C.prog f i.args .normal) [] (w.forCall tape i)))
  (contract : ∀ (W : World) (base : Nat) (args : Array Value) (ds gs : List (DataW H)) (before : List MemPlace),
   (∀ (j : Nat) t v, fn.params[j]? = some t → args[j]? = some v → Value.okWide C.prog W .any base t v) →
   DataW.Whole enc C.prog fn.params.toList s.vars apart W args.toList ds gs before →
   conds.all (PathCond.test C.prog ⟨fn.params.toList, ds, s.plain.varTypes C.prog, gs⟩) = true →
   (DataW.weightsEach C.prog (fn.params.toList ++ s.plain.varTypes C.prog) (ds ++ gs)).all (· ≤ reachBytes) = true → X W args → W.ShapedOpen C.prog →
   Calls C.prog f args W fun e W' => ∃ v, e = .returned v ∧ s.post enc C.prog fn apart fresh handsOn again W args v W') :
  ReturnsInHanded a C os f .any (fun w args => (s.pre enc C.prog fn conds apart w args ∧ X w args) ∧ sizedMet enc C.prog fn (OpenSpec.ofChange s) apart w args) (s.post enc C.prog fn apart fresh handsOn again) := by
 refine returnsInHanded_of_calls own started noInit witness ?_
 intro w tape i _ hsh _ hok hpre _
 obtain ⟨_, _, _, fn', hfn', _, _, _, _, hval⟩ := hok
 have e : fn' = fn := Option.some.inj (hfn'.symm.trans hfn)
 subst e
 obtain ⟨⟨⟨ds, gs, before, hw, hc⟩, hx⟩, hz⟩ := hpre
 have hw' := DataW.Whole.of_heap (w' := w.forCall tape i) (by rfl) hw
 refine (contract (w.forCall tape i) w.heap.size i.args ds gs before hval hw' hc (hz.weights hw) (hX _ _ _ (by rfl) hx) hsh).mono fun e W' ⟨v, he, hp⟩ => ?_
 subst he
 exact ChangeSpec.post_blind hp
theorem liftS {C : Checked} {os : Os} {f : FuncId} {fn : Func} {s : ChangeSpec} {conds : List PathCond} {laid : List (String × DataW Unit)} (own : ownKnob C.prog.godebug = none) (started : os.Started) (noInit : C.prog.inits.idxOf? f = none)
  (hfn : C.prog.funcs[f]? = some fn)
  (witness : ∃ (w : World) (tape : Tape) (i : Input), w.os = os ∧ (w.forCall tape i).Shaped C.prog ∧ i.vars = [] ∧ Input.okWide C.prog (w.forCall tape i) .any w.heap.size f i ∧
   ((s.pre enc C.prog fn conds false (w.forCall tape i).memory i.args ∧ laidMetH C.prog laid (w.forCall tape i).memory) ∧ sizedMet enc C.prog fn (OpenSpec.ofChange s) false (w.forCall tape i).memory i.args) ∧ ({} : Assume).holds C.prog (lone (Frame.enter C.prog f i.args .normal) [] (w.forCall tape i)))
  (hlaid : laidOutB C.prog = true) (hvars : s.vars = []) {t : TypeId} (hres : fn.resultTypes = #[t]) (hbool : C.prog.underlying t = some .bool)
  (hpar : (fn.params.toList.all fun t => C.prog.readableRec t && decide (t < C.prog.types.size)) = true)
  (hspec : ∀ ds : List (DataW H), ds.length = fn.params.toList.length → s.fn H ds = { results := [.lit (.bool true)], args := ds })
  (walk : ∀ (W : World) (base : Nat) (args : Array Value) (ds : List (DataW H)) (p : List MemPlace), Known enc C.prog fn W base args ds p → laidMetH C.prog laid W → Walk C.prog f args W) :
  ReturnsInHanded {} C os f .any (fun w args => (s.pre enc C.prog fn conds false w args ∧ laidMetH C.prog laid w) ∧ sizedMet enc C.prog fn (OpenSpec.ofChange s) false w args) (s.post enc C.prog fn false true false false) := by
 refine handed_and_shaped (X := fun w _ => laidMetH C.prog laid w) (fun _ _ _ hh h => h.of_heap hh) own started noInit hfn witness ?_
 intro W base args ds gs before hval hW _ hwt hL hsh
 have hW' := hW
 obtain ⟨p, q, hA, hV, rfl, hfz, hnd⟩ := hW
 rw [hvars] at hV
 obtain ⟨rfl, rfl⟩ := trodVars_none hV
 have hvt : s.plain.varTypes C.prog = [] := by simp [DataSpec.varTypes, ChangeSpec.plain, hvars]
 rw [hvt, List.append_nil, List.append_nil] at hwt
 refine (walk W base args ds p ⟨hval, hA, hwt, hsh⟩ hL).mono fun e W' ⟨he, bel⟩ => ?_
 subst he
 have hs := hspec ds (trodAll_len hA).1
 refine ⟨_, rfl, ds, [], p ++ [], [], p, [], hW', ?_, ?_, ?_, bel.frame _, fun h => by cases h⟩
 ·rw [List.append_nil, hs, hres]
  exact trodAll_mk1 (shut_bool hbool _)
 ·rw [List.append_nil, hs]
  exact trodAll_keep hlaid bel hpar hA
 ·rw [List.append_nil, hs, hvars]
  rfl
end
end Go.AX
namespace Go.AX
def at0 (ob : Option Nat) : Option Addr := ob.map fun b => ⟨b, 0, none⟩
def byteB (P : Program) (e : TypeId) : Bool := match P.info? e with
 | some i => (match i.zero with | some (.int .u8 n) => n == 0 | _ => false) && (Nat.beq i.size 1 && Nat.beq i.bytes 1)
 | none => false
def slcB (P : Program) (T : TypeId) : Bool := match P.underlying T with | some (.slice e) => (P.info? e).isSome | _ => false
theorem slcB_spec {P : Program} {T : TypeId} (h : slcB P T = true) : ∃ e i, P.underlying T = some (.slice e) ∧ P.info? e = some i := by
 unfold slcB at h
 split at h
 ·rename_i e he
  exact ⟨e, _, he, (Option.some_get h).symm⟩
 ·cases h
theorem ReadW.slc_h {P : Program} {o : Oper} {s : List AV} {H : List Ent} {K : AV → Prop} {t : TypeId} {x z : Operand} {ob : Option Nat} {n cap : Nat} {k : IntKind} {j : Int} (ho : o.op = .slice t x none (some z) none) (hu : slcB P t = true)
  (hx : opv s x = .c (.v (.slice (at0 ob) n cap))) (hz : opv s z = .c (.v (.int k j))) (hj : 0 ≤ j ∧ j ≤ (cap : Int)) (h : K (.c (.v (.slice (at0 ob) j.toNat cap)))) : ReadW P o s H K := by
 obtain ⟨e, inf, hu, hi⟩ := slcB_spec hu
 refine ReadW.val _ (fun cs b => by rw [ho]; simp) (by rw [ho]; simp [Op.operands, allPlain, hx, hz]) (fun w _ => ?_) h
 have e1 := plainEv_v hx
 have e2 := plainEv_v hz
 have : (Instr.sliceAt t (.slice (at0 ob) n cap) none (some (.int k j)) none).run P w = .ok (.slice (at0 ob) j.toNat cap) w := by
  have ha : (at0 ob).map (·.add 0) = at0 ob := by
   cases ob with
   | none => rfl
   | some b => simp [at0, add_lit0]
  simp [Instr.sliceAt, Instr.slice, run_underlying hu, Instr.sliceBounds, Instr.sliceBound, asIntOf, hj, sizeOf, typeInfo, hi, ha]
 refine run_op_slice ho ?_
 rw [e1]
 simpa [e2] using this
theorem SpecH.pad {P : Program} {f : FuncId} {args : List AV} {H : List Ent} {K : Out → List Ent → Prop} (pad : List Ent) (hp : padB pad = true) (h : SpecH P f args (H ++ pad) K) : SpecH P f args H K := by
 refine ⟨h.ok, fun ρ S w vs hs hr => ?_⟩
 obtain ⟨t, hs', hev⟩ := hs.pad pad hp
 exact (h.run (ρ ++ t) S w vs hs' (RelS_pre t hr)).mono fun e w' ⟨ρ', S', H', out, h1, h2, h3, h4⟩ => ⟨ρ', S', H', out, h1, hev.trans h2, h3, h4⟩
end Go.AX
namespace Go.AX
def bs (l : List UInt8) : ByteArray := ⟨l.toArray⟩
theorem bs_app (a b : List UInt8) : bs a ++ bs b = bs (a ++ b) := by
 apply ByteArray.ext
 simp [bs]
theorem bs_size (a : List UInt8) : (bs a).size = a.length := by simp [bs, ByteArray.size]
theorem bs_list (a : List UInt8) : (bs a).data.toList = a := by simp [bs]
theorem bs_ext (l : List UInt8) (i j : Nat) : (bs l).extract i j = bs ((l.take j).drop i) := by
 apply ByteArray.ext
 apply Array.ext'
 rw [ByteArray.data_extract]
 simp [bs, List.drop_take]
theorem bs_drop (l : List UInt8) (i : Nat) : (bs l).extract i l.length = bs (l.drop i) := by rw [bs_ext, List.take_length]
theorem bs_take (l : List UInt8) (j : Nat) : (bs l).extract 0 j = bs (l.take j) := by rw [bs_ext, List.drop_zero]
theorem byteAt_get {l : List UInt8} {i : Nat} {c : UInt8} (h : l[i]? = some c) : byteAt (bs l) i = (c.toNat : Int) := by
 simp [byteAt, bs_list, List.getD, h]
theorem take_snoc {α : Type} {l : List α} {i : Nat} {c : α} (h : l[i]? = some c) : l.take (i + 1) = l.take i ++ [c] := by
 obtain ⟨hi, rfl⟩ := List.getElem?_eq_some_iff.1 h
 exact List.take_succ_eq_append_getElem hi
theorem u8_eq {c : UInt8} {n : Nat} (hn : n < 256) : ((c.toNat : Int) == (n : Int)) = (c == UInt8.ofNat n) := by
 by_cases h : c = UInt8.ofNat n
 ·subst h
  have e : (UInt8.ofNat n).toNat = n := by simp; omega
  rw [e]; simp
 ·rw [show (c == UInt8.ofNat n) = false by simpa using h]
  have : ¬ (c.toNat : Int) = (n : Int) := fun h2 => h (UInt8.toNat_inj.1 (by simp; omega))
  simpa using this
theorem ReadW.sl_l {P : Program} {o : Oper} {s : List AV} {H : List Ent} {K : AV → Prop} {t : TypeId} {x y : Operand} {b : List UInt8} {k : IntKind} {i : Int} (n : Nat) (ho : o.op = .slice t x (some y) none none) (hu : P.underlying t = some .string) (hx : opv s x = .c (.v (.string (bs b)))) (hy : opv s y = .c (.v (.int k i)))
  (h : i = (n : Int) ∧ n ≤ b.length) (hk : K (.c (.v (.string (bs (b.drop n)))))) : ReadW P o s H K :=
 ReadW.str_l ho hu hx hy ⟨by omega, by rw [bs_size]; omega⟩ (by rw [bs_size, show i.toNat = n by omega, bs_drop]; exact hk)
theorem ReadW.sl_h {P : Program} {o : Oper} {s : List AV} {H : List Ent} {K : AV → Prop} {t : TypeId} {x y : Operand} {b : List UInt8} {k : IntKind} {i : Int} (n : Nat) (ho : o.op = .slice t x none (some y) none) (hu : P.underlying t = some .string) (hx : opv s x = .c (.v (.string (bs b)))) (hy : opv s y = .c (.v (.int k i)))
  (h : i = (n : Int) ∧ n ≤ b.length) (hk : K (.c (.v (.string (bs (b.take n)))))) : ReadW P o s H K :=
 ReadW.str_h ho hu hx hy ⟨by omega, by rw [bs_size]; omega⟩ (by rw [show i.toNat = n by omega, bs_take]; exact hk)
def RetG {ι : Type} (inv : ι → Prop) (val : ι → Value) (G : ι → List Ent) : Out → List Ent → Prop := fun out H' => ∃ i, inv i ∧ out = .val (.c (.v (val i))) ∧ H' = G i
theorem SpecH.wkG {P : Program} {f : FuncId} {args : List AV} {H : List Ent} {ι : Type} {inv : ι → Prop} {val : ι → Value} {G : ι → List Ent} (hok : ∀ i, inv i → okH (G i).length (G i)) (hl : ∀ i, inv i → H.length ≤ (G i).length)
  (h : SpecH P f args H fun out H' => ∃ i, inv i ∧ out = .val (.c (.v (val i))) ∧ wkH H' (G i)) : SpecH P f args H (RetG inv val G) := by
 refine ⟨h.ok, fun ρ S w vs hs hr => (h.run ρ S w vs hs hr).mono fun e w' ⟨ρ', S', H', out, hs', hev, hout, i, hi, hx, hw⟩ => ?_⟩
 subst hx
 obtain ⟨h1, h2⟩ := hs'.weak hw (hok i hi)
 refine ⟨ρ'.take (G i).length, S', G i, .val (.c (.v (val i))), h1, ⟨?_, hev.os, hev.tape, hev.output, hev.size, hev.keep, hev.imm, fun b hb => hev.own b (h2 b hb)⟩, hout, i, hi, rfl, rfl⟩
 obtain ⟨t, ht⟩ := hev.pre
 refine ⟨t.take ((G i).length - ρ.length), ?_⟩
 rw [ht, List.take_append, List.take_of_length_le (by rw [hs.len]; exact hl i hi)]
theorem ownC {P : Program} (hm : P.follows .mixedOrders = true) {f : FuncId} {fn : Func} {c : Code} (hf : P.funcs[f]? = some fn) (hn : (fn.name == "runtime.NumGoroutine") = false) (hb : fn.body = some c)
  {args : List AV} {H : List Ent} (hl : Nat.ble args.length fn.ntmps = true) {ι : Type} {inv : ι → Prop} {val : ι → Value} {G : ι → List Ent} (hok : ∀ i, inv i → okH (G i).length (G i)) (hl2 : ∀ i, inv i → H.length ≤ (G i).length)
  (h : initK fn.ntmps args fun s => exec P c s H (endK P fn.results.toList fun out H' => ∃ i, inv i ∧ out = .val (.c (.v (val i))) ∧ wkH H' (G i))) : SpecH P f args H (RetG inv val G) :=
 SpecH.wkG hok hl2 (spec_of_exec hm hf hn hb hl h)
theorem callG {P : Program} {f : FuncId} {args0 : List AV} {H0 : List Ent} {ι : Type} {inv : ι → Prop} {val : ι → Value} {G : ι → List Ent} (h : SpecH P f args0 H0 (RetG inv val G)) (σ : List Nat) {args : List AV} {H : List Ent} {K : Out → List Ent → Prop}
  (hn : ndB σ = true) (hp : part σ H.length H σ H0) (ha : args = rnS σ H.length args0) (hk : ∀ i, inv i → mrg (rnE σ H.length) σ (G i) H fun G' => K (.val (.c (.v (val i)))) G') : SpecH P f args H K :=
 h.at σ hn hp ha fun out H' ⟨i, hi, ho, hH⟩ => by subst ho; subst hH; exact hk i hi
theorem wkH_nil (H : List Ent) : wkH H [] := by cases H <;> trivial
end Go.AX
namespace Go.Proofs.YtpikpjlhdkkigaaGreatDoor
open Go.AX Go.RowKit
set_option maxRecDepth 20000
theorem hm : Tryz.prog.follows .mixedOrders = true := by kernel_rfl
structure BSt where
 ob : Option Nat
 cap : Nat
def BSt.ok (n : Nat) (i : BSt) : Prop := (i.ob = none → n = 0 ∧ i.cap = 0) ∧ n ≤ i.cap ∧ (i.cap = 0 → i.ob = none)
end Go.Proofs.YtpikpjlhdkkigaaGreatDoor
namespace Go.Proofs
open Go.Shelf
def Tryz.lays104_ren : Go.Shelf.Ren := ⟨fun | 104 => 86 | 211 => 120 | 207 => 138 | n => n, fun | 9 => 9 | 4 => 4 | 24 => 101 | 3 => 3 | n => n, fun | n => n⟩
theorem Tryz.lays104 : Go.Proofs.Lays.n104 Tryz.prog Tryz.lays104_ren := {
 mixed := by kernel_rfl
 f104 := Tryz.func86.trans (congrArg some (by kernel_rfl))
 f207 := Tryz.func138.trans (congrArg some (by kernel_rfl))
 f211 := Tryz.func120.trans (congrArg some (by kernel_rfl))
 t3 := Tryz.underlying3
 a3 := Tryz.isAgg3
 z3 := Tryz.sizeOf3
 v3 := Tryz.zeroValue3
 t4 := Tryz.underlying4
 a4 := Tryz.isAgg4
 z4 := Tryz.sizeOf4
 v4 := Tryz.zeroValue4
 t9 := Tryz.underlying9
 a9 := Tryz.isAgg9
 z9 := Tryz.sizeOf9
 v9 := Tryz.zeroValue9
 t24 := Tryz.underlying101
 a24 := Tryz.isAgg101
 z24 := Tryz.sizeOf101
 v24 := Tryz.zeroValue101 }
open Go.RowKit in
theorem Tryz.strings_CutSuffix (s p : ByteArray) (w : World) (hs : s.size ≤ 9223372036854775807) :
  Calls Tryz.prog 86 #[.string s, .string p] w fun e w' => e = .returned (.tuple #[.string ⟨(Lib.trimSuffix s.data.toList p.data.toList).toArray⟩, .bool (Lib.hasSuffix s.data.toList p.data.toList)]) ∧ w' = w := Any.strings_CutSuffix Tryz.lays104 s p w hs
def Tryz.lays144_ren : Go.Shelf.Ren := ⟨fun | 144 => 112 | 143 => 133 | 219 => 141 | 217 => 144 | 225 => 145 | 224 => 146 | 267 => 147 | 266 => 150 | 314 => 151 | n => n, fun | 9 => 9 | 4 => 4 | 3 => 3 | 5 => 5 | 46 => 39 | 146 => 144 | 51 => 129 | n => n, fun | 1 => 2 | n => n⟩
theorem Tryz.lays144 : Go.Proofs.Lays.n144 Tryz.prog Tryz.lays144_ren := {
 mixed := by kernel_rfl
 f143 := Tryz.func133.trans (congrArg some (by kernel_rfl))
 f144 := Tryz.func112.trans (congrArg some (by kernel_rfl))
 f217 := Tryz.func144.trans (congrArg some (by kernel_rfl))
 f219 := Tryz.func141.trans (congrArg some (by kernel_rfl))
 f224 := Tryz.func146.trans (congrArg some (by kernel_rfl))
 f225 := Tryz.func145.trans (congrArg some (by kernel_rfl))
 f266 := Tryz.func150.trans (congrArg some (by kernel_rfl))
 f267 := Tryz.func147.trans (congrArg some (by kernel_rfl))
 f314 := Tryz.func151.trans (congrArg some (by kernel_rfl))
 t3 := Tryz.underlying3
 a3 := Tryz.isAgg3
 z3 := Tryz.sizeOf3
 v3 := Tryz.zeroValue3
 t4 := Tryz.underlying4
 a4 := Tryz.isAgg4
 z4 := Tryz.sizeOf4
 v4 := Tryz.zeroValue4
 t5 := Tryz.underlying5
 a5 := Tryz.isAgg5
 z5 := Tryz.sizeOf5
 v5 := Tryz.zeroValue5
 t9 := Tryz.underlying9
 a9 := Tryz.isAgg9
 z9 := Tryz.sizeOf9
 v9 := Tryz.zeroValue9
 t46 := Tryz.underlying39
 a46 := Tryz.isAgg39
 z46 := Tryz.sizeOf39
 v46 := Tryz.zeroValue39
 t51 := Tryz.underlying129
 a51 := Tryz.isAgg129
 z51 := Tryz.sizeOf129
 v51 := Tryz.zeroValue129
 t146 := Tryz.underlying144
 a146 := Tryz.isAgg144
 z146 := Tryz.sizeOf144
 v146 := Tryz.zeroValue144
 g1 := by kernel_rfl }
open Go.RowKit Go.Lib in
theorem Tryz.strings_Contains_one (s : ByteArray) (c : UInt8) (w : World) :
  Calls Tryz.prog 112 #[.string s, .string ⟨#[c]⟩] w fun e w' => e = .returned (.bool (decide (0 ≤ Lib.indexByte s.data.toList c))) ∧ w' = w := Any.strings_Contains_one Tryz.lays144 s c w
open Go.RowKit Go.Lib in
theorem Tryz.strings_Contains (s sub : ByteArray) (m : Int) (w : World) (hs : s.size < 4294967281) (hm : w.cell? ⟨2, 0, none⟩ = some (.int .i64 m)) :
  Calls Tryz.prog 112 #[.string s, .string sub] w fun e w' => e = .returned (.bool (Lib.contains s.data.toList sub.data.toList)) ∧ w' = w := Any.strings_Contains Tryz.lays144 s sub m w hs hm
def Tryz.lays157_ren : Go.Shelf.Ren := ⟨fun | 157 => 114 | 229 => 134 | 199 => 135 | 261 => 142 | 311 => 148 | 312 => 149 | n => n, fun | 9 => 9 | 31 => 36 | 3 => 3 | 5 => 5 | 4 => 4 | 119 => 122 | 0 => 0 | 40 => 124 | 152 => 126 | 21 => 21 | 154 => 128 | 51 => 129 | 141 => 131 | 196 => 136 | 193 => 133 | 198 => 139 | 49 => 137 | 194 => 134 | 201 => 142 | 226 => 146 | 46 => 39 | 227 => 147 | n => n, fun | 0 => 0 | 6 => 1 | n => n⟩
theorem Tryz.lays157 : Go.Proofs.Lays.n157 Tryz.prog Tryz.lays157_ren := {
 mixed := by kernel_rfl
 f157 := Tryz.func114.trans (congrArg some (by kernel_rfl))
 f199 := Tryz.func135.trans (congrArg some (by kernel_rfl))
 f229 := Tryz.func134.trans (congrArg some (by kernel_rfl))
 f261 := Tryz.func142.trans (congrArg some (by kernel_rfl))
 f311 := Tryz.func148.trans (congrArg some (by kernel_rfl))
 f312 := Tryz.func149.trans (congrArg some (by kernel_rfl))
 t0 := Tryz.underlying0
 a0 := Tryz.isAgg0
 z0 := Tryz.sizeOf0
 v0 := Tryz.zeroValue0
 t3 := Tryz.underlying3
 a3 := Tryz.isAgg3
 z3 := Tryz.sizeOf3
 v3 := Tryz.zeroValue3
 t4 := Tryz.underlying4
 a4 := Tryz.isAgg4
 z4 := Tryz.sizeOf4
 v4 := Tryz.zeroValue4
 t5 := Tryz.underlying5
 a5 := Tryz.isAgg5
 z5 := Tryz.sizeOf5
 v5 := Tryz.zeroValue5
 t9 := Tryz.underlying9
 a9 := Tryz.isAgg9
 z9 := Tryz.sizeOf9
 v9 := Tryz.zeroValue9
 t21 := Tryz.underlying21
 a21 := Tryz.isAgg21
 z21 := Tryz.sizeOf21
 v21 := Tryz.zeroValue21
 t31 := Tryz.underlying36
 a31 := Tryz.isAgg36
 z31 := Tryz.sizeOf36
 v31 := Tryz.zeroValue36
 t40 := Tryz.underlying124
 a40 := Tryz.isAgg124
 z40 := Tryz.sizeOf124
 v40 := Tryz.zeroValue124
 t46 := Tryz.underlying39
 a46 := Tryz.isAgg39
 z46 := Tryz.sizeOf39
 v46 := Tryz.zeroValue39
 t49 := Tryz.underlying137
 a49 := Tryz.isAgg137
 z49 := Tryz.sizeOf137
 v49 := Tryz.zeroValue137
 t51 := Tryz.underlying129
 a51 := Tryz.isAgg129
 z51 := Tryz.sizeOf129
 v51 := Tryz.zeroValue129
 t119 := Tryz.underlying122
 a119 := Tryz.isAgg122
 z119 := Tryz.sizeOf122
 t141 := Tryz.underlying131
 a141 := Tryz.isAgg131
 z141 := Tryz.sizeOf131
 v141 := Tryz.zeroValue131
 t152 := Tryz.underlying126
 a152 := Tryz.isAgg126
 z152 := Tryz.sizeOf126
 v152 := Tryz.zeroValue126
 t154 := Tryz.underlying128
 a154 := Tryz.isAgg128
 z154 := Tryz.sizeOf128
 v154 := Tryz.zeroValue128
 t193 := Tryz.underlying133
 a193 := Tryz.isAgg133
 z193 := Tryz.sizeOf133
 v193 := Tryz.zeroValue133
 t194 := Tryz.underlying134
 a194 := Tryz.isAgg134
 z194 := Tryz.sizeOf134
 v194 := Tryz.zeroValue134
 t196 := Tryz.underlying136
 a196 := Tryz.isAgg136
 z196 := Tryz.sizeOf136
 v196 := Tryz.zeroValue136
 t198 := Tryz.underlying139
 a198 := Tryz.isAgg139
 z198 := Tryz.sizeOf139
 v198 := Tryz.zeroValue139
 t201 := Tryz.underlying142
 a201 := Tryz.isAgg142
 z201 := Tryz.sizeOf142
 v201 := Tryz.zeroValue142
 t226 := Tryz.underlying146
 a226 := Tryz.isAgg146
 z226 := Tryz.sizeOf146
 v226 := Tryz.zeroValue146
 t227 := Tryz.underlying147
 a227 := Tryz.isAgg147
 z227 := Tryz.sizeOf147
 v227 := Tryz.zeroValue147
 g0 := by kernel_rfl
 g6 := by kernel_rfl }
open Go.RowKit Go.Lib in
theorem Tryz.strings_Fields (s : ByteArray) (w : World) (hs : s.size < 4294967281) (hascii : ∀ (j : Nat) b, s.data.toList[j]? = some b → b.toNat < 128) (htab : Lib.TabIs Tryz.prog w "strings.asciiSpace" .u8 Lib.asciiSpaceTab) :
  Calls Tryz.prog 114 #[.string s] w fun e w' =>
   e = .returned (.slice (some ⟨w.heap.size, 0, none⟩) (Lib.fields s.data.toList).length (Lib.fields s.data.toList).length) ∧ w' = w.alloc (.cells ((Lib.fields s.data.toList).map fun l => Value.string ⟨l.toArray⟩).toArray 9) := Any.strings_Fields Tryz.lays157 (by kernel_rfl) (by kernel_rfl) s w hs hascii htab
end Go.Proofs
namespace Go.AX
end Go.AX
namespace Go.Proofs.YtpikpjlhdkkigaaGreatDoor
open Go.AX Go.RowKit
set_option maxRecDepth 20000
def MaxF (w : World) : Prop := ∃ m, w.cell? ⟨2, 0, none⟩ = some (.int .i64 m)
structure RpOk (s old new : List UInt8) (k : Nat) (i : Nat) (out : List UInt8) (st : Nat) : Prop where
 le : i ≤ k
 hst : st ≤ s.length
 cnt : k - i ≤ Lib.count (s.drop st) old
 eq : out ++ Lib.replaceK old new (k - i) (s.drop st) = Lib.replaceK old new k s
 len : out.length ≤ st + i * new.length
theorem RpOk.step {s old new : List UInt8} {k i : Nat} {out : List UInt8} {st : Nat} (h1 : 1 ≤ old.length) (h : RpOk s old new k i out st) (hi : i < k) :
  ∃ x : Nat, Lib.index (s.drop st) old = x ∧ st + x + old.length ≤ s.length ∧ RpOk s old new k (i + 1) (out ++ (s.take (st + x)).drop st ++ new) (st + x + old.length) := by
 obtain ⟨x, hx⟩ := Lib.index_of_count (s := s.drop st) (old := old) (by have := h.cnt; omega)
 have hroom := Lib.index_room (s.drop st) old (by omega)
 rw [hx, List.length_drop] at hroom
 have hst := h.hst
 have hd : (s.drop st).drop (x + old.length) = s.drop (st + x + old.length) := by rw [List.drop_drop]; congr 1; omega
 have ht : (s.drop st).take x = (s.take (st + x)).drop st := by rw [List.drop_take]; congr 1; omega
 refine ⟨x, hx, by omega, by omega, by omega, ?_, ?_, ?_⟩
 ·have := Lib.count_hit (s := s.drop st) (sub := old) (i := x) (fun e => by rw [e] at h1; simp at h1) hx
  rw [hd] at this
  have := h.cnt
  omega
 ·have h2 := h.eq
  rw [show k - i = (k - (i + 1)) + 1 by omega, Lib.replaceK_hit old new _ _ x hx, hd, ht] at h2
  rw [← h2]
  simp
 ·have := h.len
  simp only [List.length_append, List.length_drop, List.length_take, Nat.add_mul]
  omega
end Go.Proofs.YtpikpjlhdkkigaaGreatDoor
namespace Go.Proofs.YtpikpjlhdkkigaaGreatDoor
open Go.ChangeShapes Go.WideShapes Go.ChangeAt Go.RowKit Go.AX
set_option maxRecDepth 100000
theorem own0 : ownKnob Tryz.prog.godebug = none := by kernel_rfl
theorem laidOut : laidOutB Tryz.prog = true := by kernel_rfl
theorem max_of {W : World} (h : W.ShapedOpen Tryz.prog) : MaxF W :=
 cell_of_shapedOpen_int (g := 2) (t := 3) (zero := #[.int .i64 0]) h (of_decide_eq_true (by kernel_rfl)) (by kernel_rfl) (by kernel_rfl) (by kernel_rfl) (by kernel_rfl) (by kernel_rfl)
theorem max_imm {W : World} (h : MaxF W) : Imm (fun b => b < W.heap.size) W MaxF := by
 refine ⟨h, fun w' hw => ?_⟩
 obtain ⟨m, hm⟩ := h
 exact ⟨m, cell?_keep hm (hw _ (cell?_lt hm))⟩
end Go.Proofs.YtpikpjlhdkkigaaGreatDoor
namespace Go.AX
theorem EffW.mkMap {P : Program} {o : Oper} {s : List AV} {H : List Ent} {K : AV → List Ent → Prop} {t : TypeId} (ho : o.op = .makeMap t none) (next : ∀ b, K (.c (.v (.map (some b)))) (H ++ [.mp b #[] 0])) : EffW P o s H K := by
 intro ρ S w a hs hr
 have hS := hs.snocG (e := .mp w.heap.size #[] 0) (l := ⟨0, 0⟩) (w' := w.alloc (.map #[] 0)) (ob := .map #[] 0) (fun _ hb => (Option.some.inj hb).symm) rfl rfl rfl rfl (by show (w.heap.push _)[w.heap.size]? = _; simp)
 refine ⟨_, _, next w.heap.size, _, _, _, _, ?_, .inl rfl, hS.1, hS.2, rfl⟩
 unfold execOp
 simp only [ho, Option.map_none, Sem.run_bind, Sem.run_pure, run_makeMap_plain, Result.andThen_ok]
end Go.AX
namespace Go.AX
end Go.AX
namespace Go.AX
end Go.AX
namespace Go.AX
end Go.AX
namespace Go.AX
theorem EffW.appTo {P : Program} {o : Oper} {s : List AV} {H : List Ent} {K : AV → List Ent → Prop} {Ty T : TypeId} {x y : Operand} {sz n cap b q i : Nat} {xs ys : List Value} {inf : TypeInfo} (zs : List Value) (sz' : Nat) (ho : o.op = .store Ty x y)
  (hx : opv s x = .c (.v (.pointer (some ⟨b, q, none⟩)))) (hi : nthE H i = some (.app T sz xs (some ⟨b, 0, none⟩) n cap)) (hy : avCells (opv s y) = some (vs ys)) (hone : oneCs (vs ys) = true) (hinf : P.info? Ty = some inf) (hlen : ys.length = inf.size)
  (hq : q + ys.length ≤ n * sz) (hz : xs.take q ++ ys ++ xs.drop (q + ys.length) = zs) (hs : sz = sz') (hk : setEK H i (.app T sz' zs (some ⟨b, 0, none⟩) n cap) fun H' => K (.c .any) H') : EffW P o s H K := by
 subst hz; subst hs
 exact EffW.app ho hx hi hy hone hinf hlen hq hk
theorem SpecH.args {P : Program} {f : FuncId} {args args' : List AV} {H : List Ent} {K : Out → List Ent → Prop} (e : args = args') (h : SpecH P f args' H K) : SpecH P f args H K := e ▸ h
theorem plains_vs : ∀ xs : List Value, plains (vs xs) = some xs
 | [] => rfl
 | _ :: xs => by simp [vs, plains, plains_vs xs]
end Go.AX
namespace Go.AX
theorem BlindW.val {P : Program} {o : Oper} {s : List AV} {K : AV → Prop} (x : Value) (hp : allPlain s o.op.operands.toList = true) (hrun : ∀ w, (execOp (plainEv s) o).run P w = .ok (.value x) w) (h : K (.c (.v x))) : ∃ x, BlindW P o s K x := ⟨x, hp, hrun, h⟩
end Go.AX
namespace Go.AX
end Go.AX
namespace Go.AX
theorem ReadC.load {P : Program} {C : World → Prop} {o : Oper} {s : List AV} {K : AV → Prop} {T : TypeId} {x : Operand} {p : Addr} (v : Value) (ho : o.op = .load T x) (hx : opv s x = .c (.v (.pointer (some p)))) (hF : ∀ w, C w → (loadVar T p).run P w = .ok v w) (hk : K (.c (.v v))) : ∃ x, ReadC P C o s K x :=
 ⟨v, fun cs b e => (by rw [ho] at e; cases e), by rw [ho]; show allPlain s [x] = true; simp [allPlain, hx], fun w hw => by
  have hx2 : plainEv s x = .pointer (some p) := by unfold plainEv; rw [hx]
  unfold execOp
  simp [ho, hx2, Instr.loadAt, Instr.sureAddr, hF w hw], hk⟩
theorem ReadC.one {P : Program} {C : World → Prop} {o : Oper} {s : List AV} {K : AV → Prop} {T : TypeId} {x : Operand} {a : Option Addr} {q k : Nat} {xs : List Value} (v : Value) (ho : o.op = .load T x) (hx : opv s x = .c (.v (.pointer (some (elemAddr a q))))) (hT : shapeT P T = some none)
  (hF : ∀ w, C w → SlAt a k xs w) (hv : xs[q]? = some v) (hk : K (.c (.v v))) : ∃ x, ReadC P C o s K x :=
 ReadC.load v ho hx (fun w hw => loadVar_cell hT ((hF w hw).cell hv)) hk
theorem ReadC.agg {P : Program} {C : World → Prop} {o : Oper} {s : List AV} {K : AV → Prop} {T : TypeId} {x : Operand} {a : Option Addr} {q n k : Nat} {xs : List Value} (ys : List Value) (ho : o.op = .load T x) (hx : opv s x = .c (.v (.pointer (some (elemAddr a q))))) (hT : shapeT P T = some (some n))
  (hF : ∀ w, C w → SlAt a k xs w) (hl : ys.length = n) (hv : ∀ j, j < n → xs[q + j]? = ys[j]?) (hk : K (.c (.v (.agg ys.toArray)))) : ∃ x, ReadC P C o s K x :=
 ReadC.load (.agg ys.toArray) ho hx (fun w hw => loadVar_cells hT hl fun j v hj => by
  have hjn : j < n := by rw [← hl]; exact (List.getElem?_eq_some_iff.1 hj).1
  rw [elemAddr, Addr.add_add]
  exact (hF w hw).cell ((hv j hjn).trans hj)) hk
theorem ReadC.nil {P : Program} {C : World → Prop} {o : Oper} {s : List AV} {K : AV → Prop} {x : Operand} {p : Addr} (ho : o.op = .nilCheck x) (hx : opv s x = .c (.v (.pointer (some p)))) (hk : K (.c (.v (.pointer (some p))))) : ∃ x, ReadC P C o s K x :=
 ⟨.pointer (some p), fun cs b e => (by rw [ho] at e; cases e), by rw [ho]; show allPlain s [x] = true; simp [allPlain, hx], fun w _ => by
  have hx2 : plainEv s x = .pointer (some p) := by unfold plainEv; rw [hx]
  unfold execOp
  simp [ho, hx2], hk⟩
end Go.AX
namespace Go.AX
def joinK {ι : Type} (inv : ι → Prop) (sl : ι → List AV) (hp : ι → List Ent) (K : Ex → List AV → List Ent → Prop) (e : Ex) (s' : List AV) (H' : List Ent) : Prop :=
 match e with
 | .normal => ∃ i, inv i ∧ wkS s' (sl i) ∧ wkH H' (hp i)
 | .exit n => K (.exit n) s' H'
 | .ret => K .ret s' H'
 | .pan c => K (.pan c) s' H'
inductive SeqN (ia ib : List AV → List Ent → (Ex → List AV → List Ent → Prop) → Prop) (s : List AV) (H : List Ent) (K : Ex → List AV → List Ent → Prop) : Prop where
 | plain (h : ia s H (seqK ib K))
 | join (ι : Type) (inv : ι → Prop) (sl : ι → List AV) (hp : ι → List Ent) (len : ∀ i, inv i → H.length ≤ (hp i).length) (oks : ∀ i, inv i → okSB (hp i).length (sl i) = true) (okh : ∀ i, inv i → okH (hp i).length (hp i))
   (h : ia s H (joinK inv sl hp K)) (next : ∀ i, inv i → forceS (sl i) fun s => forceH (hp i) fun H => ib s H K)
def execJ (P : Program) (c : Code) : List AV → List Ent → (Ex → List AV → List Ent → Prop) → Prop :=
 Code.rec (motive := fun _ => List AV → List Ent → (Ex → List AV → List Ent → Prop) → Prop)
  (fun s H K => K .normal s H)
  (fun _ ops draw s H K => regionK P ops draw s H K)
  (fun _ _ ia ib s H K => SeqN ia ib s H K)
  (fun c _ _ ia ib s H K => condK c s (fun s => ia s H K) (fun s => ib s H K))
  (fun id _ ib s H K => ib s H (blockK id K))
  (fun _ ib s H K => LoopN ib s H K)
  (fun _ _ _ _ _ _ _ _ _ => False)
  (fun id s H K => K (.exit id) s H)
  (fun _ _ _ _ _ => False)
  (fun _ s H K => K .normal s H)
  (fun _ _ _ _ => False)
  (fun s H K => K .ret s H)
  (fun _ _ _ _ => False)
  c
theorem execJ_sound {P : Program} (hm : P.follows .mixedOrders = true) : ∀ (c : Code) (s : List AV) (H : List Ent) (K : Ex → List AV → List Ent → Prop), execJ P c s H K →
  ∀ (ρ : List Loc) (S : Nat → Prop) (w : World) (a : Act), Sat ρ S H w → RelS ρ s a.tmps.toList → c.wp P (Post ρ S H w a.defers K) a w := by
 intro c
 induction c with
 | skip => intro s H K h ρ S w a hs hr; exact wp_skip ⟨ρ, S, s, H, .normal, hs, Ev.refl _ _ _ _, hr, rfl, trivial, h⟩
 | label l => intro s H K h ρ S w a hs hr; exact wp_label ⟨ρ, S, s, H, .normal, hs, Ev.refl _ _ _ _, hr, rfl, trivial, h⟩
 | exit id => intro s H K h ρ S w a hs hr; exact wp_exit ⟨ρ, S, s, H, .exit id, hs, Ev.refl _ _ _ _, hr, rfl, rfl, h⟩
 | ret => intro s H K h ρ S w a hs hr; exact wp_ret ⟨ρ, S, s, H, .ret, hs, Ev.refl _ _ _ _, hr, rfl, trivial, h⟩
 | goto l => intro s H K h; exact h.elim
 | refuse y => intro s H K h; exact h.elim
 | scope b ih => intro s H K h; exact h.elim
 | rangeFunc f ps _ b _ _ => intro s H K h; exact h.elim
 | region id ops draw =>
  intro s H K h0 ρ S w a hs hr
  have h : regionK P ops draw s H K := h0
  clear h0
  unfold regionK at h
  split at h
  ·exact wp_region_list (execOps_sound _ _ _ h ρ S w a hs hr)
  ·have h0 : Cls ρ S H w { w with drawn := w.drawn + 1 } := ⟨S, hs.heap rfl, Ev.drew _ _ _ _⟩
   rcases h with ⟨hB, h⟩ | ⟨pre, hd, tl, hB, h⟩ | ⟨pre, hd, tl, hB, h⟩ | ⟨C, pre, hd, tl, hB, hC, h⟩ | ⟨pre, t, n, hB, h⟩ | h
   ·refine wp_region_quiet (C := Cls ρ S H w) hm hB h0 ?_
    have hq := execQ_sound ⟨_, h0⟩ _ _ h a hr
    refine exec_sound.wpQuiet_mono (fun a' ⟨s', hK, hr', hd⟩ w' ⟨S', hs', hev⟩ => ?_) _ _ hq
    exact ⟨ρ, S', s', H, .normal, hs', hev, hr', hd, trivial, hK⟩
   ·exact plan_sound hm hB h hs hr
   ·exact planQ_sound hm hB h hs hr
   ·exact planC_sound hm hB hC h hs hr
   ·exact tree_sound hm hB h hs hr
   ·exact h _ ρ S w a hs hr
 | seq x y ihx ihy =>
  intro s H K h0 ρ S w a hs hr
  have h : SeqN (execJ P x) (execJ P y) s H K := h0
  have key : ∀ K2 : Ex → List AV → List Ent → Prop, execJ P x s H K2 → (∀ (e : Ex) (s1 : List AV) (H1 : List Ent) (ρ1 : List Loc) (S1 : Nat → Prop) (w1 : World) (a1 : Act), K2 e s1 H1 → Sat ρ1 S1 H1 w1 → Ev ρ S H w ρ1 S1 H1 w1 → relX e ρ1 s1 a1.tmps.toList → ∃ s2 H2 ρ2 S2, Sat ρ2 S2 H2 w1 ∧ Ev ρ S H w ρ2 S2 H2 w1 ∧ relX e ρ2 s2 a1.tmps.toList ∧ seqK (execJ P y) K e s2 H2) → (Code.seq x y).wp P (Post ρ S H w a.defers K) a w := by
   intro K2 h2 hk
   refine wp_seq (wp_mono (ihx s H K2 h2 ρ S w a hs hr) fun e a' w' hp => ?_)
   obtain ⟨ρ0, S0, s0, H0, ex, hs0, hev0, hr0, hd, hex, hK0⟩ := hp
   obtain ⟨s1, H1, ρ1, S1, hs1, hev, hr1, hK⟩ := hk ex s0 H0 ρ0 S0 w' a' hK0 hs0 hev0 hr0
   cases ex with
   | normal =>
    cases e <;> first | exact hex.elim | skip
    refine wp_mono (ihy s1 H1 K hK ρ1 S1 w' a' hs1 hr1) fun e2 a2 w2 hp2 => ?_
    rw [hd] at hp2
    exact hp2.from hev
   | exit n => cases e <;> first | exact hex.elim | exact ⟨ρ1, S1, s1, H1, .exit n, hs1, hev, hr1, hd, hex, hK⟩
   | ret => cases e <;> first | exact hex.elim | exact ⟨ρ1, S1, s1, H1, .ret, hs1, hev, hr1, hd, hex, hK⟩
   | pan n => cases e <;> first | exact hex.elim | exact ⟨ρ1, S1, s1, H1, .pan n, hs1, hev, hr1, hd, hex, hK⟩
  rcases h with h | ⟨ι, inv, sl, hp, hlen, hoks, hokh, h, hnext⟩
  ·exact key _ h fun e s1 H1 ρ1 S1 w1 a1 hK hs1 hev hr1 => ⟨s1, H1, ρ1, S1, hs1, hev, hr1, hK⟩
  ·simp only [forceS_eq, forceH_eq] at hnext
   refine key _ h fun e s1 H1 ρ1 S1 w1 a1 hK hs1 hev hr1 => ?_
   cases e with
   | normal =>
    obtain ⟨j, hij, hws, hwh⟩ := hK
    have hw := hs1.weak hwh (hokh j hij)
    refine ⟨sl j, hp j, ρ1.take (hp j).length, S1, hw.1, ⟨?_, hev.os, hev.tape, hev.output, hev.size, hev.keep, hev.imm, fun b hb => hev.own b (hw.2 b hb)⟩, wkS_rel hws (hoks j hij) hr1, hnext j hij⟩
    obtain ⟨t, ht⟩ := hev.pre
    refine ⟨t.take ((hp j).length - ρ.length), ?_⟩
    rw [ht, List.take_append, List.take_of_length_le (by rw [hs.len]; exact hlen j hij)]
   | exit n => exact ⟨s1, H1, ρ1, S1, hs1, hev, hr1, hK⟩
   | ret => exact ⟨s1, H1, ρ1, S1, hs1, hev, hr1, hK⟩
   | pan n => exact ⟨s1, H1, ρ1, S1, hs1, hev, hr1, hK⟩
 | cond c x y ihx ihy =>
  intro s H K h0 ρ S w a hs hr
  have h : condK c s (fun s => execJ P x s H K) (fun s => execJ P y s H K) := h0
  obtain ⟨b, hb, hc⟩ := condK_spec h hr
  refine wp_cond hb ?_
  rcases hc with ⟨rfl, s', hK, hr'⟩ | ⟨rfl, s', hK, hr'⟩
  ·exact ihx s' H K hK ρ S w a hs hr'
  ·exact ihy s' H K hK ρ S w a hs hr'
 | block id b ih =>
  intro s H K h ρ S w a hs hr
  refine wp_block (wp_mono (ih s H (blockK id K) h ρ S w a hs hr) fun e a' w' hp => ?_)
  obtain ⟨ρ1, S1, s1, H1, ex, hs1, hev, hr1, hd, hex, hK⟩ := hp
  cases ex with
  | normal => cases e <;> first | exact hex.elim | exact ⟨ρ1, S1, s1, H1, .normal, hs1, hev, hr1, hd, trivial, hK⟩
  | ret => cases e <;> first | exact hex.elim | exact ⟨ρ1, S1, s1, H1, .ret, hs1, hev, hr1, hd, trivial, hK⟩
  | pan n => cases e <;> first | exact hex.elim | exact ⟨ρ1, S1, s1, H1, .pan n, hs1, hev, hr1, hd, hex, hK⟩
  | exit n =>
   cases e <;> first | exact hex.elim | skip
   rename_i m
   have hnm : n = m := hex
   subst hnm
   by_cases hid : n = id
   ·subst hid
    simp only [Exit.inBlock, if_true]
    have hK' : K .normal s1 H1 := by simpa [blockK] using hK
    exact ⟨ρ1, S1, s1, H1, .normal, hs1, hev, hr1, hd, trivial, hK'⟩
   ·simp only [Exit.inBlock, if_neg hid]
    have hbq : Nat.beq n id = false := by cases hq : Nat.beq n id with | false => rfl | true => exact absurd (Nat.eq_of_beq_eq_true hq) hid
    have hK' : K (.exit n) s1 H1 := by simpa [blockK, hbq] using hK
    exact ⟨ρ1, S1, s1, H1, .exit n, hs1, hev, hr1, hd, rfl, hK'⟩
 | loop b ih =>
  intro s H K h0 ρ S w a hs hr
  have h : LoopN (execJ P b) s H K := h0
  rcases h with ⟨ι, inv, sl, hp, μ, pad, hpad, hlen, hoks, hokh, ⟨i0, hi0, hst, hsh⟩, hround⟩ | ⟨n, hU⟩ | ⟨ι, inv, sl, hp, μ, pad, hpad, hlen, hoks, hokh, ⟨i0, hi0, hst, hsh⟩, hround⟩
  ·obtain ⟨t0, hs0, hev0⟩ := Sat.pad pad hpad hs
   have hr0 := RelS_pre t0 hr
   refine wp_mono (P := P) (c := .loop b) (Q := Post (ρ ++ t0) S (H ++ pad) w a.defers K) ?_ fun e a' w' hp => hp.from hev0
   clear hs hr h0
   have hs := hs0
   have hr := hr0
   clear hs0 hr0
   generalize ρ ++ t0 = ρ at *
   generalize H ++ pad = H at *
   simp only [forceS_eq, forceH_eq] at hround
   refine wp_loop_by (fun n a' w' => ∃ i ρ' S', inv i ∧ μ i = n ∧ Sat ρ' S' (hp i) w' ∧ Ev ρ S H w ρ' S' (hp i) w' ∧ RelS ρ' (sl i) a'.tmps.toList ∧ a'.defers = a.defers) ?_ (μ i0) a w ?_
   ·rintro n a' w' ⟨i, ρ', S', hinv, rfl, hs', hev, hr', hd⟩
    refine wp_mono (ih (sl i) (hp i) _ (hround i hinv) ρ' S' w' a' hs' hr') fun e a2 w2 hq => ?_
    obtain ⟨ρ2, S2, s2, H2, ex, hs2, hev2, hr2, hd2, hex, hK⟩ := hq
    cases ex with
    | normal =>
     cases e <;> first | exact hex.elim | skip
     obtain ⟨j, hij, hj, hws, hwh⟩ := hK
     have hw := hs2.weak hwh (by rw [hlen]; exact hokh j hij)
     refine ⟨μ j, hj, j, ρ2.take (hp j).length, S2, hij, rfl, hw.1, ?_, ?_, hd2.trans hd⟩
     ·have h12 := hev.trans hev2
      refine ⟨?_, h12.os, h12.tape, h12.output, h12.size, h12.keep, h12.imm, fun b hb => h12.own b (hw.2 b hb)⟩
      obtain ⟨t, ht⟩ := h12.pre
      refine ⟨t.take ((hp j).length - ρ.length), ?_⟩
      rw [ht, List.take_append, List.take_of_length_le (by rw [hs.len, hlen]; omega)]
     ·rw [hlen]; exact wkS_rel hws (hoks j) hr2
    | exit n => cases e <;> first | exact hex.elim | exact ⟨ρ2, S2, s2, H2, .exit n, hs2, hev.trans hev2, hr2, hd2.trans hd, hex, hK⟩
    | ret => cases e <;> first | exact hex.elim | exact ⟨ρ2, S2, s2, H2, .ret, hs2, hev.trans hev2, hr2, hd2.trans hd, trivial, hK⟩
    | pan n => cases e <;> first | exact hex.elim | exact ⟨ρ2, S2, s2, H2, .pan n, hs2, hev.trans hev2, hr2, hd2.trans hd, hex, hK⟩
   ·have hw := hs.weak hsh (by rw [hlen]; exact hokh i0 hi0)
    have hρ : ρ.take (hp i0).length = ρ := List.take_of_length_le (by rw [hs.len, hlen]; omega)
    rw [hρ] at hw
    refine ⟨i0, ρ, S, hi0, rfl, hw.1, ⟨⟨[], by simp⟩, rfl, rfl, rfl, Nat.le_refl _, fun _ _ _ => rfl, fun b hb => .inl hb, fun b hb => .inl (hw.2 b hb)⟩, ?_, rfl⟩
    have := wkS_rel hst (hoks i0) hr
    rw [← hlen i0, hρ] at this
    exact this
  ·refine wp_loop_by (fun n a' w' => ∃ s' H' ρ' S', LoopU (execJ P b) K n s' H' ∧ Sat ρ' S' H' w' ∧ Ev ρ S H w ρ' S' H' w' ∧ RelS ρ' s' a'.tmps.toList ∧ a'.defers = a.defers) ?_ n a w ⟨s, H, ρ, S, hU, hs, Ev.refl _ _ _ _, hr, rfl⟩
   rintro n a' w' ⟨s', H', ρ', S', hU, hs', hev, hr', hd⟩
   cases n with
   | zero => exact hU.elim
   | succ n =>
    refine wp_mono (ih s' H' _ hU ρ' S' w' a' hs' hr') fun e a2 w2 hq => ?_
    obtain ⟨ρ2, S2, s2, H2, ex, hs2, hev2, hr2, hd2, hex, hK⟩ := hq
    cases ex with
    | normal =>
     cases e <;> first | exact hex.elim | skip
     exact ⟨n, Nat.lt_succ_self n, s2, H2, ρ2, S2, hK, hs2, hev.trans hev2, hr2, hd2.trans hd⟩
    | exit n => cases e <;> first | exact hex.elim | exact ⟨ρ2, S2, s2, H2, .exit n, hs2, hev.trans hev2, hr2, hd2.trans hd, hex, hK⟩
    | ret => cases e <;> first | exact hex.elim | exact ⟨ρ2, S2, s2, H2, .ret, hs2, hev.trans hev2, hr2, hd2.trans hd, trivial, hK⟩
    | pan n => cases e <;> first | exact hex.elim | exact ⟨ρ2, S2, s2, H2, .pan n, hs2, hev.trans hev2, hr2, hd2.trans hd, hex, hK⟩
  ·obtain ⟨t0, hs0, hev0⟩ := Sat.pad pad hpad hs
   have hr0 := RelS_pre t0 hr
   refine wp_mono (P := P) (c := .loop b) (Q := Post (ρ ++ t0) S (H ++ pad) w a.defers K) ?_ fun e a' w' hp => hp.from hev0
   clear hs hr h0
   have hs := hs0
   have hr := hr0
   clear hs0 hr0
   generalize ρ ++ t0 = ρ at *
   generalize H ++ pad = H at *
   simp only [forceS_eq, forceH_eq] at hround
   refine wp_loop_by (fun n a' w' => ∃ i ρ' S', inv i ∧ μ i = n ∧ Sat ρ' S' (hp i) w' ∧ Ev ρ S H w ρ' S' (hp i) w' ∧ RelS ρ' (sl i) a'.tmps.toList ∧ a'.defers = a.defers) ?_ (μ i0) a w ?_
   ·rintro n a' w' ⟨i, ρ', S', hinv, rfl, hs', hev, hr', hd⟩
    refine wp_mono (ih (sl i) (hp i) _ (hround i hinv) ρ' S' w' a' hs' hr') fun e a2 w2 hq => ?_
    obtain ⟨ρ2, S2, s2, H2, ex, hs2, hev2, hr2, hd2, hex, hK⟩ := hq
    cases ex with
    | normal =>
     cases e <;> first | exact hex.elim | skip
     obtain ⟨j, hij, hj, hws, G, hT, hwh⟩ := hK
     obtain ⟨S3, hs3, hev3⟩ := hT.2 _ _ _ hs2
     have hw := hs3.weak hwh (by rw [hlen]; exact hokh j hij)
     refine ⟨μ j, hj, j, ρ2.take (hp j).length, S3, hij, rfl, hw.1, ?_, ?_, hd2.trans hd⟩
     ·have h12 := (hev.trans hev2).trans hev3
      refine ⟨?_, h12.os, h12.tape, h12.output, h12.size, h12.keep, h12.imm, fun b hb => h12.own b (hw.2 b hb)⟩
      obtain ⟨t, ht⟩ := h12.pre
      refine ⟨t.take ((hp j).length - ρ.length), ?_⟩
      rw [ht, List.take_append, List.take_of_length_le (by rw [hs.len, hlen]; omega)]
     ·rw [hlen]; exact wkS_rel hws (hoks j) hr2
    | exit n => cases e <;> first | exact hex.elim | exact ⟨ρ2, S2, s2, H2, .exit n, hs2, hev.trans hev2, hr2, hd2.trans hd, hex, hK⟩
    | ret => cases e <;> first | exact hex.elim | exact ⟨ρ2, S2, s2, H2, .ret, hs2, hev.trans hev2, hr2, hd2.trans hd, trivial, hK⟩
    | pan n => cases e <;> first | exact hex.elim | exact ⟨ρ2, S2, s2, H2, .pan n, hs2, hev.trans hev2, hr2, hd2.trans hd, hex, hK⟩
   ·obtain ⟨G, hT, hsh⟩ := hsh
    obtain ⟨S3, hs3, hev3⟩ := hT.2 _ _ _ hs
    have hw := hs3.weak hsh (by rw [hlen]; exact hokh i0 hi0)
    have hρ : ρ.take (hp i0).length = ρ := List.take_of_length_le (by rw [hs.len, hlen]; omega)
    rw [hρ] at hw
    refine ⟨i0, ρ, S3, hi0, rfl, hw.1, ⟨⟨[], by simp⟩, hev3.os, hev3.tape, hev3.output, hev3.size, hev3.keep, hev3.imm, fun b hb => hev3.own b (hw.2 b hb)⟩, ?_, rfl⟩
    have := wkS_rel hst (hoks i0) hr
    rw [← hlen i0, hρ] at this
    exact this
theorem specJ_of_exec {P : Program} (hm : P.follows .mixedOrders = true) {f : FuncId} {fn : Func} {c : Code} (hf : P.funcs[f]? = some fn) (hn : (fn.name == "runtime.NumGoroutine") = false) (hb : fn.body = some c)
  {args : List AV} (hl : Nat.ble args.length fn.ntmps = true) {H : List Ent} {K : Out → List Ent → Prop} (h : initK fn.ntmps args fun s => execJ P c s H (endK P fn.results.toList K)) : SpecH P f args H K := by
 refine ⟨⟨fn, hf, hn, by rw [hb]; rfl⟩, fun ρ S w vs hs hr => ?_⟩
 have hvl := RelS_len hr
 obtain ⟨s0, h, hs0⟩ := initK_rel h (Nat.le_of_ble_eq_true hl)
 have hinit : RelS ρ s0 (vs.toArray ++ Array.replicate (fn.ntmps - vs.toArray.size) undef).toList := by
  have := hs0 ρ vs hr
  simpa [hvl] using this
 refine calls_of_wp hf hb (wp_mono (execJ_sound hm c _ H _ h ρ S w ⟨_, []⟩ hs hinit) ?_)
 ·intro e a w' hp
  obtain ⟨ρ1, S1, s1, H1, ex, hs1, hev, hr1, hd, hex, hK⟩ := hp
  have fin : RelS ρ1 s1 a.tmps.toList → ∀ {K' : Out → Prop}, resK P fn.results.toList s1 H1 K' → (∀ out, K' out → K out H1) → ∃ v, (results fn a.tmps).run P w' = .ok v w' ∧
    ∃ ρ' S' H' out, Sat ρ' S' H' w' ∧ Ev ρ S H w ρ' S' H' w' ∧ OutOk ρ' out (.returned v) ∧ K out H' := fun hr2 {_} hK1 hK2 => by
   obtain ⟨out, hK3, hres⟩ := resK_sound hK1
   obtain ⟨v, hrun, hv⟩ := hres ρ1 S1 w' a.tmps hs1 hr2
   exact ⟨v, hrun, ρ1, S1, H1, out, hs1, hev, hv, hK2 out hK3⟩
  cases ex with
  | normal =>
   cases e <;> first | exact hex.elim | skip
   obtain ⟨v, hrun, hR⟩ := fin hr1 (K' := fun out => K out H1) hK fun _ h => h
   exact ⟨hd, v, hrun, hR⟩
  | ret =>
   cases e <;> first | exact hex.elim | skip
   obtain ⟨v, hrun, hR⟩ := fin hr1 (K' := fun out => K out H1) hK fun _ h => h
   exact ⟨hd, v, hrun, hR⟩
  | exit n => exact hK.elim
  | pan ch =>
   cases e <;> first | exact hex.elim | skip
   have : ch = _ := hex
   subst this
   exact ⟨hd, ρ1, S1, H1, .pan ch, hs1, hev, rfl, hK⟩
end Go.AX
namespace Go.AX
open Go.RowKit
theorem cell_alloc (w : World) (cells : List Value) (T : TypeId) (j : Nat) : (w.alloc (.cells cells.toArray T)).cell? ⟨w.heap.size, j, none⟩ = cells[j]? := by
 unfold World.cell?
 rw [heap_alloc_new]
 simp
theorem add_0 (b j : Nat) : Addr.add ⟨b, 0, none⟩ j = ⟨b, j, none⟩ := by
 unfold Addr.add
 split
 ·rename_i h; rw [h]
 ·simp
theorem specF_new {P : Program} {f : FuncId} {xs : List Value} {F : World → Prop} {T : TypeId} (ok : CallOk P f) {n : Nat} {cells : List Value} (hn : cells.length = n)
  (h : ∀ w, F w → Calls P f xs.toArray w fun e w' => e = .returned (.slice (some ⟨w.heap.size, 0, none⟩) n n) ∧ w' = w.alloc (.cells cells.toArray T)) :
  SpecF P f xs F fun v G => ∃ b, v = .slice (some ⟨b, 0, none⟩) n n ∧ ∀ w, G w → SlAt (some ⟨b, 0, none⟩) n cells w := by
 refine ⟨ok, fun S w hF hS => (h w hF.1).mono fun e w' ⟨he, hw⟩ => ⟨_, SlAt (some ⟨w.heap.size, 0, none⟩) n cells, fun b => b = w.heap.size, he, ⟨_, rfl, fun _ h => h⟩, ?_, fun b hb => .inr (by omega), fun b hb => ?_, ?_⟩⟩
 ·have hS1 : SlAt (some ⟨w.heap.size, 0, none⟩) n cells w' := ⟨hn, fun _ => rfl, fun j hj => by
   rw [hw]
   show (w.alloc (.cells cells.toArray T)).cell? (Addr.add ⟨w.heap.size, 0, none⟩ j) = _
   rw [add_0]
   exact cell_alloc w cells T j⟩
  refine ⟨hS1, fun w2 h2 => ⟨hn, fun _ => rfl, fun j hj => ?_⟩⟩
  have h1 := hS1.2.2 j hj
  rw [List.getElem?_eq_getElem (by omega)] at h1 ⊢
  refine cell?_keep h1 (h2 _ ?_)
  show (Addr.add ⟨w.heap.size, 0, none⟩ j).block = _
  rw [add_0]
 ·rw [hw, hb]
  simp
 ·rw [hw]
  exact (Below.refl _ _).alloc (Nat.le_refl _) _
end Go.AX
namespace Go.Proofs.YtpikpjlhdkkigaaGreatDoor
open Go.AX Go.RowKit
set_option maxRecDepth 20000
end Go.Proofs.YtpikpjlhdkkigaaGreatDoor
namespace Go.Scan
def sml (c : UInt8) : Bool := (decide (97 ≤ c.toNat) && decide (c.toNat ≤ 122)) || decide (c.toNat = 95)
def grt (c : UInt8) : Bool := decide (65 ≤ c.toNat) && decide (c.toNat ≤ 90)
def dig (c : UInt8) : Bool := decide (48 ≤ c.toNat) && decide (c.toNat ≤ 57)
def ltr (c : UInt8) : Bool := sml c || grt c
def wrd (c : UInt8) : Bool := ltr c || dig c
end Go.Scan
namespace Go.Proofs.YtpikpjlhdkkigaaGreatDoor
open Go.AX Go.RowKit Go.Scan
set_option maxRecDepth 20000
theorem ret_b {a b : Bool} (h : a = true ↔ b = true) : Out.val (.c (.v (.bool a))) = Out.val (.c (.v (.bool b))) := by rw [Bool.eq_iff_iff.2 h]
theorem sml_c (c : UInt8) : ∀ H, SpecH Tryz.prog 85 (pvs [.int .u8 (c.toNat : Int)]) H (Ret (.bool (sml c)) H) := by
 refine pureC hm Tryz.func85 (by kernel_rfl) rfl rfl ?_
 refine wX ?_
 (repeat' (first | (refine brd_dec (fun _ => ?_) (fun _ => ?_)) | (refine brd_eq (fun _ => ?_) (fun _ => ?_))))
 all_goals (first | refine wX ?_ | exact wZ)
 (repeat' (first | (refine brd_dec (fun _ => ?_) (fun _ => ?_)) | (refine brd_eq (fun _ => ?_) (fun _ => ?_))))
 all_goals (first | refine wX ?_ | exact wZ)
 (repeat' (first | (refine brd_dec (fun _ => ?_) (fun _ => ?_)) | (refine brd_eq (fun _ => ?_) (fun _ => ?_))))
 all_goals (first | refine wX ?_ | exact wZ)
 all_goals
  refine ret_b ?_
  simp [sml]
  try omega
theorem dig_c (c : UInt8) : ∀ H, SpecH Tryz.prog 119 (pvs [.int .u8 (c.toNat : Int)]) H (Ret (.bool (dig c)) H) := by
 refine pureC hm Tryz.func119 (by kernel_rfl) rfl rfl ?_
 refine wX ?_
 (repeat' (first | (refine brd_dec (fun _ => ?_) (fun _ => ?_)) | (refine brd_eq (fun _ => ?_) (fun _ => ?_))))
 all_goals (first | refine wX ?_ | exact wZ)
 (repeat' (first | (refine brd_dec (fun _ => ?_) (fun _ => ?_)) | (refine brd_eq (fun _ => ?_) (fun _ => ?_))))
 all_goals (first | refine wX ?_ | exact wZ)
 (repeat' (first | (refine brd_dec (fun _ => ?_) (fun _ => ?_)) | (refine brd_eq (fun _ => ?_) (fun _ => ?_))))
 all_goals (first | refine wX ?_ | exact wZ)
 all_goals
  refine ret_b ?_
  simp [dig]
  try omega
theorem ltr_c (c : UInt8) : ∀ H, SpecH Tryz.prog 137 (pvs [.int .u8 (c.toNat : Int)]) H (Ret (.bool (ltr c)) H) := by
 refine pureC hm Tryz.func137 (by kernel_rfl) rfl rfl ?_
 refine wX ?_
 refine call1 (sml_c c _) ?_
 cases h : sml c with
 | true =>
  refine wX ?_
  exact ret_b (by simp [ltr, h])
 | false =>
  refine wX ?_
  (repeat' (first | (refine brd_dec (fun _ => ?_) (fun _ => ?_)) | (refine brd_eq (fun _ => ?_) (fun _ => ?_))))
  all_goals (first | refine wX ?_ | exact wZ)
  (repeat' (first | (refine brd_dec (fun _ => ?_) (fun _ => ?_)) | (refine brd_eq (fun _ => ?_) (fun _ => ?_))))
  all_goals (first | refine wX ?_ | exact wZ)
  all_goals
   refine ret_b ?_
   simp [ltr, h, grt]
   try omega
theorem wrd_c (c : UInt8) : ∀ H, SpecH Tryz.prog 118 (pvs [.int .u8 (c.toNat : Int)]) H (Ret (.bool (wrd c)) H) := by
 refine pureC hm Tryz.func118 (by kernel_rfl) rfl rfl ?_
 refine wX ?_
 refine call1 (ltr_c c _) ?_
 cases h : ltr c with
 | true =>
  refine wX ?_
  exact ret_b (by simp [wrd, h])
 | false =>
  refine wX ?_
  refine call1 (dig_c c _) ?_
  refine wX ?_
  exact ret_b (by simp [wrd, h])
end Go.Proofs.YtpikpjlhdkkigaaGreatDoor
namespace Go.Scan
end Go.Scan
namespace Go.Proofs.YtpikpjlhdkkigaaGreatDoor
open Go.AX Go.RowKit Go.Scan
set_option maxRecDepth 20000
end Go.Proofs.YtpikpjlhdkkigaaGreatDoor
namespace Go.Scan
def kws : List UInt8 := [32, 97, 108, 105, 97, 115, 32, 98, 101, 103, 105, 110, 32, 98, 114, 101, 97, 107, 32, 99, 97, 115, 101, 32, 99, 108, 97, 115, 115, 32, 100, 101, 102, 32, 100, 111, 32, 101, 108, 115, 101, 32, 101, 108, 115, 105, 102, 32, 101, 110, 100, 32, 101, 110, 115, 117, 114, 101, 32, 102, 97, 108, 115, 101, 32, 105, 102, 32, 105, 110, 32, 109, 111, 100, 117, 108, 101, 32, 110, 101, 120, 116, 32, 110, 105, 108, 32, 114, 101, 115, 99, 117, 101, 32, 114, 101, 116, 114, 121, 32, 114, 101, 116, 117, 114, 110, 32, 115, 101, 108, 102, 32, 115, 117, 112, 101, 114, 32, 116, 104, 101, 110, 32, 116, 114, 117, 101, 32, 117, 110, 100, 101, 102, 32, 117, 110, 108, 101, 115, 115, 32, 117, 110, 116, 105, 108, 32, 117, 115, 105, 110, 103, 32, 119, 104, 101, 110, 32, 119, 104, 105, 108, 101, 32, 121, 105, 101, 108, 100, 32]
def kwB (s : List UInt8) : Bool := !s.isEmpty && !decide (0 ≤ Lib.indexByte s 32) && Lib.contains kws (32 :: s ++ [32])
end Go.Scan
namespace Go.Proofs.YtpikpjlhdkkigaaGreatDoor
open Go.AX Go.RowKit Go.Scan
set_option maxRecDepth 20000
theorem Has1_c (s : List UInt8) (c : UInt8) : ∀ H, SpecH Tryz.prog 112 (pvs [.string (bs s), .string (bs [c])]) H (Ret (.bool (decide (0 ≤ Lib.indexByte s c))) H) := fun H =>
 SpecH.rawP (R := fun r => r = .bool (decide (0 ≤ Lib.indexByte s c))) (callOk Tryz.func112 (by kernel_rfl) rfl)
  (fun w _ => (Tryz.strings_Contains_one (bs s) c w).mono fun e w' ⟨he, hw⟩ => ⟨_, he, by rw [bs_list], by subst hw; exact Below.refl _ _⟩) fun r hr => by subst hr; exact ⟨rfl, rfl⟩
theorem Has_c (s p : List UInt8) (hs : s.length < 4294967281) : ∀ H, (∀ w, Facts H w → MaxF w) → SpecH Tryz.prog 112 (pvs [.string (bs s), .string (bs p)]) H (Ret (.bool (Lib.contains s p)) H) := fun H hF =>
 SpecH.rawP (R := fun r => r = .bool (Lib.contains s p)) (callOk Tryz.func112 (by kernel_rfl) rfl)
  (fun w hw => by
   obtain ⟨m, hm⟩ := hF w hw
   exact (Tryz.strings_Contains (bs s) (bs p) m w (by rw [bs_size]; exact hs) hm).mono fun e w' ⟨he, hw⟩ => ⟨_, he, by rw [bs_list, bs_list], by subst hw; exact Below.refl _ _⟩) fun r hr => by subst hr; exact ⟨rfl, rfl⟩
def ScanF (w : World) : Prop := MaxF w ∧ Lib.TabIs Tryz.prog w "strings.asciiSpace" .u8 Lib.asciiSpaceTab
theorem IsKeyword_c (s : List UInt8) (hs : s.length ≤ 200000000000000) : ∀ H, (∀ w, Facts H w → MaxF w) → SpecH Tryz.prog 76 (pvs [.string (bs s)]) H (Ret (.bool (kwB s)) H) := by
 refine factC hm Tryz.func76 (by kernel_rfl) rfl rfl ?_
 have hz := bs_size s
 cases s with
 | nil =>
  refine wX ?_
  exact ret_b (by simp [kwB])
 | cons c r =>
  refine wX ?_
  refine call1 (Has1_c (c :: r) 32 _) ?_
  cases h : decide (0 ≤ Lib.indexByte (c :: r) 32) with
  | true =>
   refine wX ?_
   exact ret_b (by simp only [kwB, h]; simp)
  | false =>
   refine wX ?_
   have hlen : (c :: r).length ≤ 200000000000000 := hs
   rw [show (⟨#[32]⟩ : ByteArray) = bs [32] from rfl]
   refine Nd.mk (by rw [bs_size, bs_size]; show 1 + _ < _; omega) ?_
   rw [bs_app]
   refine wX ?_
   try rw [show (⟨#[32]⟩ : ByteArray) = bs [32] from rfl]
   refine Nd.mk (by rw [bs_size, List.length_append]; show 1 + _ + 1 < _; omega) ?_
   try rw [bs_app]
   refine wX ?_
   refine call1 (Has_c kws (32 :: (c :: r) ++ [32]) (by decide) _ (fun w hw => hw.1)) ?_
   refine wX ?_
   exact ret_b (by simp only [kwB, h]; simp)
end Go.Proofs.YtpikpjlhdkkigaaGreatDoor
namespace Go.Proofs.YtpikpjlhdkkigaaGreatDoor
open Go.ChangeShapes Go.WideShapes Go.ChangeAt Go.RowKit Go.AX
set_option maxRecDepth 100000
def laid3 : List (String × DataW Unit) := [("unicode.White_Space", Rows.laid_unicode_White_Space), ("strings.asciiSpace", Rows.laid_strings_asciiSpace)]
theorem door_met (os : Os) (args : Array Value) : laidMetH Tryz.prog laid3 ((World.laidAll Tryz.prog os laid3).forCall (fun _ _ => 0) ⟨#[], args, []⟩).memory := by
 rw [MakeChecks.laidMetH_plain _ _ _ (by kernel_rfl)]; exact laidMet_laidAll _ (by kernel_rfl) (by kernel_rfl)
theorem space_of {W : World} (h : laidMetH Tryz.prog laid3 W) : Lib.TabIs Tryz.prog W "strings.asciiSpace" .u8 Lib.asciiSpaceTab := by
 rw [MakeChecks.laidMetH_plain _ _ _ (by kernel_rfl)] at h
 exact Lib.tabIs_of_head (g := 0) (t := 122) (e := 5) (n := 256) (by kernel_rfl) (by kernel_rfl) (by kernel_rfl) (by kernel_rfl) (by kernel_rfl) (by kernel_rfl) (laid_tail h)
theorem scan_of {W : World} (h : W.ShapedOpen Tryz.prog) (hL : laidMetH Tryz.prog laid3 W) : ScanF W := ⟨max_of h, space_of hL⟩
theorem scan_imm {W : World} (h : ScanF W) : Imm (fun b => b < W.heap.size) W ScanF := (max_imm h.1).and (tab_imm h.2)
end Go.Proofs.YtpikpjlhdkkigaaGreatDoor
namespace Go.Tree
set_option maxRecDepth 20000
structure TP where
 op : Int
 name : List UInt8
 n : Int
 a : Option Addr
 kids : List TP
 cap : Nat
mutual
def TP.sz : TP → Nat
 | ⟨_, _, _, _, ks, _⟩ => 1 + szs ks
termination_by structural x => x
def szs : List TP → Nat
 | [] => 0
 | k :: ks => TP.sz k + szs ks
termination_by structural x => x
end
mutual
def TP.dp : TP → Nat
 | ⟨_, _, _, _, ks, _⟩ => 1 + dps ks
termination_by structural x => x
def dps : List TP → Nat
 | [] => 0
 | k :: ks => max (TP.dp k) (dps ks)
termination_by structural x => x
end
mutual
def TP.us : TP → Nat
 | ⟨o, _, _, _, ks, _⟩ => (if o = 45 then 1 else 0) + uss ks
termination_by structural x => x
def uss : List TP → Nat
 | [] => 0
 | k :: ks => TP.us k + uss ks
termination_by structural x => x
end
mutual
def TP.er : TP → TP
 | ⟨o, nm, n, _, ks, _⟩ => ⟨o, nm, n, none, ers ks, 0⟩
termination_by structural x => x
def ers : List TP → List TP
 | [] => []
 | k :: ks => TP.er k :: ers ks
termination_by structural x => x
end
theorem sz_eq (t : TP) : t.sz = 1 + szs t.kids := by cases t; rfl
theorem dp_eq (t : TP) : t.dp = 1 + dps t.kids := by cases t; rfl
theorem us_eq (t : TP) : t.us = (if t.op = 45 then 1 else 0) + uss t.kids := by cases t; rfl
theorem er_eq (t : TP) : t.er = ⟨t.op, t.name, t.n, none, ers t.kids, 0⟩ := by cases t; rfl
theorem ers_map (l : List TP) : ers l = l.map TP.er := by
 induction l with
 | nil => rfl
 | cons k l ih => rw [ers, ih]; rfl
theorem sz_pos (t : TP) : 1 ≤ t.sz := by rw [sz_eq]; omega
theorem szs_app (l m : List TP) : szs (l ++ m) = szs l + szs m := by
 induction l with
 | nil => simp [szs]
 | cons k l ih => rw [List.cons_append, szs, szs, ih]; omega
theorem dps_app (l m : List TP) : dps (l ++ m) = max (dps l) (dps m) := by
 induction l with
 | nil => simp [dps]
 | cons k l ih => rw [List.cons_append, dps, dps, ih]; omega
theorem uss_app (l m : List TP) : uss (l ++ m) = uss l + uss m := by
 induction l with
 | nil => simp [uss]
 | cons k l ih => rw [List.cons_append, uss, uss, ih]; omega
theorem szs_mem {l : List TP} {k : TP} (h : k ∈ l) : k.sz ≤ szs l := by
 induction l with
 | nil => cases h
 | cons x l ih =>
  rw [szs]
  rcases List.mem_cons.1 h with rfl | h
  ·omega
  ·have := ih h; omega
theorem sz_kid {t k : TP} (h : k ∈ t.kids) : k.sz < t.sz := by
 have := szs_mem h
 rw [sz_eq t]
 omega
theorem len_szs (l : List TP) : l.length ≤ szs l := by
 induction l with
 | nil => simp
 | cons k l ih => have := sz_pos k; rw [szs, List.length_cons]; omega
theorem dps_mem {l : List TP} {k : TP} (h : k ∈ l) : k.dp ≤ dps l := by
 induction l with
 | nil => cases h
 | cons x l ih =>
  rw [dps]
  rcases List.mem_cons.1 h with rfl | h
  ·omega
  ·have := ih h; omega
theorem TP.ind {P : TP → Prop} (h : ∀ t : TP, (∀ k ∈ t.kids, P k) → P t) : ∀ t, P t := by
 have hall : ∀ n (t : TP), t.sz ≤ n → P t := by
  intro n
  induction n with
  | zero => intro t ht; have := sz_pos t; omega
  | succ n ih => exact fun t ht => h t fun k hk => ih k (by have := sz_kid hk; omega)
 exact fun t => hall t.sz t (Nat.le_refl _)
theorem take_szs {l : List TP} {i : Nat} {k : TP} (h : l[i]? = some k) : szs (l.take (i + 1)) = szs (l.take i) + k.sz := by
 rw [List.take_add_one, h, szs_app]
 simp [szs]
theorem take_uss {l : List TP} {i : Nat} {k : TP} (h : l[i]? = some k) : uss (l.take (i + 1)) = uss (l.take i) + k.us := by
 rw [List.take_add_one, h, uss_app]
 simp [uss]
theorem szs_take (l : List TP) (i : Nat) : szs (l.take i) ≤ szs l := by
 have h := szs_app (l.take i) (l.drop i)
 rw [List.take_append_drop] at h
 omega
end Go.Tree
namespace Go.AX
open Go.ChangeShapes Go.WideShapes Go.ChangeAt Go.RowKit
section
variable {H : Type} {enc : TypeId × Value → H} {P : Program} {w : World}
end
end Go.AX
namespace Go.AX
open Go.ChangeShapes Go.WideShapes Go.ChangeAt Go.RowKit
section
variable {H : Type} {enc : TypeId × Value → H} {P : Program} {w : World}
end
theorem Imm.all {α : Type} {S : Nat → Prop} {w : World} {l : List α} {F : α → World → Prop} (h : ∀ x ∈ l, Imm S w (F x)) : Imm S w fun w => ∀ x ∈ l, F x w :=
 ⟨fun x hx => (h x hx).1, fun w' hw x hx => (h x hx).2 w' hw⟩
end Go.AX
namespace Go.AX
theorem setEK_self : ∀ {H : List Ent} {i : Nat} {e : Ent} {K : List Ent → Prop}, nthE H i = some e → setEK H i e K → K H
 | [], _, _, _, h, _ => by cases h
 | x :: H, 0, e, K, h, hk => by
  have : x = e := Option.some.inj h
  subst this
  exact hk
 | x :: H, i + 1, e, K, h, hk => setEK_self (H := H) (i := i) (K := fun ys => K (x :: ys)) h hk
theorem app_any {H : List Ent} {e : TypeId} {inf : TypeInfo} {n cap b0 m : Nat} {sa : Option Addr} {K : AV → List Ent → Prop} (i : Nat) (xs ys : List Value) (he : nthE H i = some (.app e inf.size xs (some ⟨b0, 0, none⟩) n cap)) (hn : n ≤ cap) (hsa : 0 < m → sa.isSome = true)
  (hlen : ys.length = m * inf.size) (hone : ∀ u ∈ ys, oneV u = true) (hok : ∀ w, Facts H w → ∀ j v, ys[j]? = some v → w.cell? ((sa.getD default).add j) = some v) (hroom : room n m inf.bytes ∧ inf.size ≠ 0)
  (next : ∀ b cap' : Nat, n + m ≤ cap' → setEK H i (.app e inf.size (xs ++ ys) (some ⟨b, 0, none⟩) (n + m) cap') fun H' => K (.c (.v (.slice (some ⟨b, 0, none⟩) (n + m) cap'))) H') :
  brd (Nat.beq m 0) (appendZ H (.c (.v (.slice (some ⟨b0, 0, none⟩) n cap))) (forceA (.c (.v (.slice (some ⟨b0, 0, none⟩) n cap))) fun x => K x H)) (Nd (sa.isSome = true) (ApN H (sa.getD default) m inf.size fun news => appendTo e inf H (.c (.v (.slice (some ⟨b0, 0, none⟩) n cap))) m news K)) := by
 cases m with
 | zero =>
  have h0 : ys = [] := List.eq_nil_of_length_eq_zero (by omega)
  subst h0
  have := next b0 cap (by omega)
  rw [List.append_nil, Nat.add_zero] at this
  exact ⟨hn, setEK_self he this⟩
 | succ m =>
  refine ⟨hsa (by omega), ⟨ys, hlen, hone, hok, ?_⟩⟩
  exact AppN.grow i xs ys he (plains_vs _) ⟨by omega, hroom⟩ fun b c h _ => next b c h
end Go.AX
namespace Go.AX
theorem appB_get {H : List Ent} {b : Nat} (h : appB H b) : ∃ (i : Nat) (e : Ent), H[i]? = some e ∧ e.isApp = true ∧ ∀ ρ j, entB ρ j e b := by
 rcases h with ⟨T, sz, xs, a, n, cap, h1, h2⟩ | ⟨es, c, h1⟩ | ⟨B, F, h1, h2⟩
 ·obtain ⟨i, hi⟩ := List.getElem?_of_mem h1
  exact ⟨i, _, hi, rfl, fun _ _ => h2⟩
 ·obtain ⟨i, hi⟩ := List.getElem?_of_mem h1
  exact ⟨i, _, hi, rfl, fun _ _ => rfl⟩
 ·obtain ⟨i, hi⟩ := List.getElem?_of_mem h1
  exact ⟨i, _, hi, rfl, fun _ _ => h2⟩
theorem Sat.dull {ρ : List Loc} {S : Nat → Prop} {H G : List Ent} {w : World} (h : Sat ρ S H w) (hl : G.length = H.length) (hg : ∀ (i : Nat) (e : Ent), G[i]? = some e → H[i]? = some e ∨ e = .dead) : Sat ρ S G w := by
 have hb : ∀ (i : Nat) (e : Ent) (b : Nat), G[i]? = some e → entB ρ i e b → H[i]? = some e := fun i e b he hb => by
  rcases hg i e he with h1 | rfl
  ·exact h1
  ·cases hb
 refine ⟨by rw [h.len, hl], fun i e he => ?_, fun i j e f b he hf h1 h2 => h.inj i j e f b (hb i e b he h1) (hb j f b hf h2) h1 h2, fun b ⟨i, e, he, h1⟩ => h.out b ⟨i, e, hb i e b he h1, h1⟩, h.low⟩
 rcases hg i e he with h1 | rfl
 ·exact h.ent i e h1
 ·trivial
end Go.AX
namespace Go.AX
end Go.AX
namespace Go.AX
section
variable {P : Program} {ops : Array Oper} {C : World → Prop} {kn : List Nat}
theorem anyC_read {Q : Exit → Act → World → Prop} {i : Nat} {oi : Oper} {v : Value} (hi : ops[i]? = some oi) (hsel : ∀ (j : Nat) (o : Oper) cs b, ops[j]? = some o → o.op ≠ .select cs b)
  (hQ : ∀ c a w, Q (.panic c) (a.put oi.dst v) w → Q (.panic c) a w) :
  ∀ (f : Nat) (ls : Array Bool) (a : Act) (w : World),
   (∀ j oj, ops[j]? = some oj → j ≠ i → ls.getD j true = false → (∀ e ∈ oj.after, Region.binds .any e = true → e.on ≠ i) → oi.apart ops oj = true) →
   i ∈ Region.ready .any ops ls → YR P ops C oi v a → AnyC P ops Q C [] f (ls.setIfInBounds i true) (a.put oi.dst v) w → AnyC P ops Q C [] (f + 1) ls a w := by
 have nl : ∀ ls : Array Bool, ∀ t ∈ ([] : List Nat), ls.getD t false = false := fun _ t h => by cases h
 have own : ∀ (f : Nat) (ls : Array Bool) (a : Act) (w : World), YR P ops C oi v a → AnyC P ops Q C [] f (ls.setIfInBounds i true) (a.put oi.dst v) w → wpOp P ops Q i (AnyC P ops Q C [] f (ls.setIfInBounds i true)) a w := fun f ls a w hy hH => by
  unfold wpOp
  simp only [hi]
  rcases hy with ⟨hw, hv⟩ | ⟨hw, rfl⟩
  ·rw [if_pos hw]
   refine .inl ?_
   unfold Oper.wp
   rw [hv w (hH.cls (nl _))]
   exact hH
  ·rw [if_neg (by simp [hw])]; exact hH
 intro f
 induction f with
 | zero =>
  intro ls a w _ hr hy hL
  refine ⟨fun _ => hL.cls (nl _), fun h0 => (by rw [h0] at hr; cases hr), fun j hj => ?_⟩
  by_cases hji : j = i
  ·subst hji; exact own 0 ls a w hy hL
  ·have := ready_mono hj hji; rw [hL.2.1] at this; cases this
 | succ f ih =>
  intro ls a w hfree hr hy hH
  have hun := (mem_ready.1 hr).1
  refine ⟨fun _ => hH.cls (nl _), fun h0 => (by rw [h0] at hr; cases hr), fun j hj => ?_⟩
  by_cases hji : j = i
  ·subst hji; exact own (f + 1) ls a w hy hH
  ·obtain ⟨hjun, oj, hoj, hall⟩ := mem_ready.1 hj
   have hno : ∀ e ∈ oj.after, Region.binds .any e = true → e.on ≠ i := fun e he hb he2 => by
    have := hall e he hb
    rw [he2, getD_both hun] at this
    cases this
   have h1 := wpOp_swap hoj (hfree j oj hoj hji hjun hno) (fun cs b => hsel i oi cs b hi) (fun cs b => hsel j oj cs b hoj) hQ hy (hH.2.2 j (ready_mono hj hji))
   refine wpOp_mono (fun a' w' h3 => ih (ls.setIfInBounds j true) a' w' (fun k ok hk hki hun' hno' => ?_) (ready_mono hr (Ne.symm hji)) h3.1 ?_) h1
   ·refine hfree k ok hk hki ?_ hno'
    by_cases hjk : j = k
    ·subst hjk; exact hjun
    ·rw [getD_set_ne true hjk] at hun'; exact hun'
   ·rw [Array.setIfInBounds_comm _ _ hji]; exact h3.2
variable {K : Ex → List AV → List Ent → Prop} {ρ0 : List Loc} {S0 : Nat → Prop} {H0 : List Ent} {w0 : World} {dfs : List Deferred}
end
end Go.AX
namespace Go.AX
def restK : List Ent → List Ent → List Ent
 | [], _ => []
 | h :: H, [] => h :: restK H []
 | h :: H, .fact _ :: G => h :: restK H G
 | h :: H, .dead :: G => h :: restK H G
 | .fact F :: H, _ :: G => .fact F :: restK H G
 | _ :: H, _ :: G => .dead :: restK H G
theorem restK_len : ∀ H G : List Ent, (restK H G).length = H.length
 | [], _ => rfl
 | _ :: H, [] => by simp [restK, restK_len H []]
 | h :: H, g :: G => by cases g <;> cases h <;> simp [restK, restK_len H G]
theorem restK_get : ∀ (H G : List Ent) (i : Nat) (e : Ent), (restK H G)[i]? = some e → H[i]? = some e ∨ e = .dead
 | [], _, _, _, h => by cases h
 | h :: H, [], 0, e, he => .inl he
 | h :: H, [], i + 1, e, he => restK_get H [] i e he
 | h :: H, g :: G, 0, e, he => by cases g <;> cases h <;> first | exact .inl he | exact .inr (Option.some.inj he).symm
 | h :: H, g :: G, i + 1, e, he => restK_get H G i e (by cases g <;> cases h <;> exact he)
theorem restK_stay : ∀ (H G : List Ent) (i : Nat) (e f : Ent) (ρ : List Loc) (b : Nat), entB ρ i e b → f.isApp = true → G[i]? = some e → (restK H G)[i]? = some f → False
 | [], _, _, _, _, _, _, _, _, _, h => by cases h
 | h :: H, [], _, _, _, _, _, _, _, h1, _ => by cases h1
 | h :: H, g :: G, 0, e, f, ρ, b, he, hf, h1, h2 => by
  obtain rfl := Option.some.inj h1
  cases g <;> first | (cases he; done) | (cases h <;> (obtain rfl := Option.some.inj h2; cases hf))
 | h :: H, g :: G, i + 1, e, f, ρ, b, he, hf, h1, h2 => restK_stay H G i e f (ρ.drop 1) b (by
   revert he
   cases e <;> simp [entB]) hf h1 (by cases g <;> cases h <;> exact h2)
def SealE (R : World → Prop) (h g : Ent) : Prop := g = .dead ∨ g = h ∨ ∃ Γ, g = .fact Γ ∧ ∀ w, R w → Γ w
def SealR (R : World → Prop) : List Ent → List Ent → Prop
 | [], [] => True
 | h :: H, g :: G => SealE R h g ∧ SealR R H G
 | _, _ => False
theorem SealR.get {R : World → Prop} : ∀ {H G : List Ent}, SealR R H G → G.length = H.length ∧ ∀ (i : Nat) (g : Ent), G[i]? = some g → ∃ h, H[i]? = some h ∧ SealE R h g
 | [], [], _ => ⟨rfl, fun _ _ h => by cases h⟩
 | h :: H, g :: G, hs => by
  obtain ⟨h1, h2⟩ := SealR.get hs.2
  refine ⟨by simp [h1], fun i e he => ?_⟩
  cases i with
  | zero => obtain rfl := Option.some.inj he; exact ⟨h, rfl, hs.1⟩
  | succ i => exact h2 i e he
 | [], _ :: _, h => h.elim
 | _ :: _, [], h => h.elim
theorem turnS {H G : List Ent} (h : SealR (Facts (restK H G)) H G) : TurnS H G := by
 obtain ⟨hl, hg⟩ := h.get
 refine ⟨hl, fun ρ S w hs => ?_⟩
 have h1 := hs.dull (restK_len H G) (restK_get H G)
 have hno : ∀ (i : Nat) (e : Ent) (b : Nat), G[i]? = some e → entB ρ i e b → H[i]? = some e := fun i e b he hb => by
  obtain ⟨f, hf, h2⟩ := hg i e he
  rcases h2 with rfl | rfl | ⟨Γ, rfl, _⟩
  ·cases hb
  ·exact hf
  ·cases hb
 have hmb : ∀ b, mb ρ G b → mb ρ H b := fun b ⟨i, e, he, hb⟩ => ⟨i, e, hno i e b he hb, hb⟩
 refine ⟨fun b => S b ∨ appB (restK H G) b, ⟨by rw [hs.len, hl], fun i e he => ?_, fun i j e f b he hf hb hc => hs.inj i j e f b (hno i e b he hb) (hno j f b hf hc) hb hc, fun b ⟨i, e, he, hb⟩ hS => ?_, fun b hb => ?_⟩, ⟨[], by simp⟩, rfl, rfl, rfl, Nat.le_refl _, fun _ _ _ => rfl, fun b hb => ?_, fun b hb => .inl (hmb b hb)⟩
 ·obtain ⟨f, hf, h2⟩ := hg i e he
  rcases h2 with rfl | rfl | ⟨Γ, rfl, hΓ⟩
  ·trivial
  ·exact (hs.ent i _ hf).grow fun b hb => .inl hb
  ·exact h1.imm.mono hΓ
 ·have a1 := hno i e b he hb
  rcases hS with hS | hS
  ·exact hs.out b ⟨i, _, a1, hb⟩ hS
  ·obtain ⟨j, f, hf, hfa, hfb⟩ := appB_get hS
   rcases restK_get H G j f hf with hH | rfl
   ·obtain rfl := hs.inj i j _ f b a1 hH hb (hfb ρ j)
    exact restK_stay H G i e f ρ b hb hfa he hf
   ·cases hfa
 ·rcases hb with hb | hb
  ·exact hs.low b hb
  ·obtain ⟨i, e, he, heb⟩ := appB_mb (ρ := ρ) hb
   exact h1.blk_lt he heb
 ·rcases hb with hb | hb
  ·exact .inl hb
  ·obtain ⟨j, f, hf, hfa, hfb⟩ := appB_get hb
   rcases restK_get H G j f hf with hH | rfl
   ·exact .inr (.inl ⟨j, f, hH, hfb _ _⟩)
   ·cases hfa
theorem turn_refl (H : List Ent) : TurnS H H := ⟨rfl, fun ρ S w hs => ⟨S, hs, Ev.refl _ _ _ _⟩⟩
end Go.AX
namespace Go.AX
end Go.AX
namespace Go.AX
structure RowD where
 T : TypeId
 sz : Nat
 n : Nat
 xs : List Value
 b : Nat
 cap : Nat
def RowD.ok (r : RowD) (w : World) : Prop := RowF r.T r.sz r.n r.xs r.b r.cap w
def RowD.app (r : RowD) : Ent := .app r.T r.sz r.xs (some ⟨r.b, 0, none⟩) r.n r.cap
def famB (l : List RowD) (b : Nat) : Prop := ∃ r ∈ l, r.b = b
def famF (l : List RowD) (w : World) : Prop := (l.map RowD.b).Nodup ∧ ∀ r ∈ l, r.ok w
def famE (l : List RowD) : Ent := .fam (famB l) (famF l)
theorem famF.imm {l : List RowD} {w : World} (h : famF l w) : Imm (famB l) w (famF l) :=
 ⟨h, fun _ hw => ⟨h.1, fun r hr => (h.2 r hr).move (hw r.b ⟨r, hr, rfl⟩)⟩⟩
theorem rowF_lt {T : TypeId} {sz n : Nat} {xs : List Value} {b cap : Nat} {w : World} (h : RowF T sz n xs b cap w) : b < w.heap.size := by
 obtain ⟨arr, fr, ⟨h1, _⟩, _⟩ := h
 exact (Array.getElem?_eq_some_iff.1 h1).1
theorem famE_ok {ρ : List Loc} {S : Nat → Prop} {w : World} {i : Nat} {l : List RowD} (h : famF l w) : EntOk ρ S w i (famE l) :=
 ⟨h.imm, fun _ ⟨r, hr, hb⟩ => hb ▸ rowF_lt (h.2 r hr)⟩
theorem famF_nil (w : World) : famF [] w := ⟨List.nodup_nil, fun r h => by cases h⟩
def TurnE (H G : List Ent) : Prop := G.length = H.length ∧ ∀ (ρ : List Loc) (S : Nat → Prop) (w : World), Sat ρ S H w → Sat ρ S G w ∧ Ev ρ S H w ρ S G w
theorem TurnE.s {H G : List Ent} (h : TurnE H G) : TurnS H G := ⟨h.1, fun ρ S w hs => ⟨S, h.2 ρ S w hs⟩⟩
theorem TurnE.trans {H G J : List Ent} (h : TurnE H G) (k : TurnE G J) : TurnE H J :=
 ⟨k.1.trans h.1, fun ρ S w hs => by
  obtain ⟨h1, e1⟩ := h.2 ρ S w hs
  obtain ⟨h2, e2⟩ := k.2 ρ S w h1
  exact ⟨h2, e1.trans e2⟩⟩
theorem TurnS.trans {H G J : List Ent} (h : TurnS H G) (k : TurnS G J) : TurnS H J :=
 ⟨k.1.trans h.1, fun ρ S w hs => by
  obtain ⟨S1, h1, e1⟩ := h.2 ρ S w hs
  obtain ⟨S2, h2, e2⟩ := k.2 ρ S1 w h1
  exact ⟨S2, h2, e1.trans e2⟩⟩
theorem TurnS.wk {H G : List Ent} (hl : G.length = H.length) (hw : wkH H G) (hk : okHB G.length G = true) : TurnS H G :=
 ⟨hl, fun ρ S w hs => by
  obtain ⟨h1, h2⟩ := hs.weak hw (okHB_eq hk)
  rw [hl, ← hs.len, List.take_length] at h1 h2
  exact ⟨S, h1, ⟨⟨[], by simp⟩, rfl, rfl, rfl, Nat.le_refl _, fun _ _ _ => rfl, fun _ h => .inl h, fun b hb => .inl (h2 b hb)⟩⟩⟩
theorem Sat.two {ρ : List Loc} {S : Nat → Prop} {H : List Ent} {w : World} (h : Sat ρ S H w) {i j : Nat} {e f e' f' : Ent} (hi : H[i]? = some e) (hj : H[j]? = some f) (hne : i ≠ j)
  (hb : ∀ b, entB ρ i e' b ∨ entB ρ j f' b → entB ρ i e b ∨ entB ρ j f b) (hx : ∀ b, entB ρ i e' b → ¬ entB ρ j f' b) (ke : EntOk ρ S w i e') (kf : EntOk ρ S w j f') :
  Sat ρ S ((H.set i e').set j f') w ∧ Ev ρ S H w ρ S ((H.set i e').set j f') w := by
 have hil := (List.getElem?_eq_some_iff.1 hi).1
 have hjl := (List.getElem?_eq_some_iff.1 hj).1
 have hcase : ∀ (k : Nat) (g : Ent), ((H.set i e').set j f')[k]? = some g → (k = i ∧ g = e') ∨ (k = j ∧ g = f') ∨ (k ≠ i ∧ k ≠ j ∧ H[k]? = some g) := fun k g hk => by
  by_cases h2 : k = j
  ·subst h2
   rw [List.getElem?_set_self (by rw [List.length_set]; exact hjl)] at hk
   exact .inr (.inl ⟨rfl, (Option.some.inj hk).symm⟩)
  ·rw [List.getElem?_set_ne (fun e => h2 e.symm)] at hk
   by_cases h1 : k = i
   ·subst h1
    rw [List.getElem?_set_self hil] at hk
    exact .inl ⟨rfl, (Option.some.inj hk).symm⟩
   ·rw [List.getElem?_set_ne (fun e => h1 e.symm)] at hk
    exact .inr (.inr ⟨h1, h2, hk⟩)
 have hown : ∀ (k : Nat) (g : Ent) (b : Nat), ((H.set i e').set j f')[k]? = some g → entB ρ k g b → (k = i ∨ k = j) ∧ (entB ρ i e b ∨ entB ρ j f b) ∨ (k ≠ i ∧ k ≠ j ∧ H[k]? = some g) := fun k g b hk hg => by
  rcases hcase k g hk with ⟨rfl, rfl⟩ | ⟨rfl, rfl⟩ | h3
  ·exact .inl ⟨.inl rfl, hb b (.inl hg)⟩
  ·exact .inl ⟨.inr rfl, hb b (.inr hg)⟩
  ·exact .inr h3
 have hno : ∀ (k : Nat) (g : Ent) (b : Nat), k ≠ i → k ≠ j → H[k]? = some g → entB ρ k g b → ¬ (entB ρ i e b ∨ entB ρ j f b) := fun k g b h1 h2 hk hg hh => by
  rcases hh with hh | hh
  ·exact h1 (h.inj k i g e b hk hi hg hh)
  ·exact h2 (h.inj k j g f b hk hj hg hh)
 have hmb : ∀ b, mb ρ ((H.set i e').set j f') b → mb ρ H b := fun b ⟨k, g, hk, hg⟩ => by
  rcases hown k g b hk hg with ⟨_, h1 | h1⟩ | ⟨_, _, h1⟩
  ·exact ⟨i, e, hi, h1⟩
  ·exact ⟨j, f, hj, h1⟩
  ·exact ⟨k, g, h1, hg⟩
 refine ⟨⟨by rw [List.length_set, List.length_set]; exact h.len, fun k g hk => ?_, fun k l g g2 b hk hl hg hg2 => ?_, fun b hb => h.out b (hmb b hb), h.low⟩, ⟨⟨[], by simp⟩, rfl, rfl, rfl, Nat.le_refl _, fun _ _ _ => rfl, fun _ h => .inl h, fun b hb => .inl (hmb b hb)⟩⟩
 ·rcases hcase k g hk with ⟨rfl, rfl⟩ | ⟨rfl, rfl⟩ | ⟨_, _, h3⟩
  ·exact ke
  ·exact kf
  ·exact h.ent k g h3
 ·rcases hcase k g hk with ⟨rfl, rfl⟩ | ⟨rfl, rfl⟩ | ⟨k1, k2, h3⟩ <;> rcases hcase l g2 hl with ⟨rfl, rfl⟩ | ⟨rfl, rfl⟩ | ⟨l1, l2, h4⟩
  ·rfl
  ·exact absurd hg2 (hx b hg)
  ·exact absurd (hb b (.inl hg)) (hno l g2 b l1 l2 h4 hg2)
  ·exact absurd hg (hx b hg2)
  ·rfl
  ·exact absurd (hb b (.inr hg)) (hno l g2 b l1 l2 h4 hg2)
  ·exact absurd (hb b (.inl hg2)) (hno k g b k1 k2 h3 hg)
  ·exact absurd (hb b (.inr hg2)) (hno k g b k1 k2 h3 hg)
  ·exact h.inj k l g g2 b h3 h4 hg hg2
theorem famTake {H : List Ent} (i j : Nat) {l l' : List RowD} (r : RowD) (hi : nthE H i = some (famE l)) (hj : nthE H j = some .dead) (hne : Nat.beq i j = false) (hp : l.Perm (r :: l')) : TurnE H ((H.set i (famE l')).set j r.app) := by
 rw [nthE_eq] at hi hj
 refine ⟨by rw [List.length_set, List.length_set], fun ρ S w hs => ?_⟩
 have hF : famF l w := (hs.ent i _ hi).1.1
 have hn : (r.b :: l'.map RowD.b).Nodup := (hp.map RowD.b).nodup_iff.1 hF.1
 have hn2 := List.nodup_cons.1 hn
 refine hs.two hi hj (Nat.ne_of_beq_eq_false hne) (fun b hb => .inl ?_) (fun b ⟨q, hq, hqb⟩ hb => ?_) (famE_ok ⟨hn2.2, fun q hq => hF.2 q (hp.mem_iff.2 (by simp [hq]))⟩) (.inr ⟨r.b, rfl, hF.2 r (hp.mem_iff.2 (by simp))⟩)
 ·rcases hb with ⟨q, hq, hqb⟩ | hb
  ·exact ⟨q, hp.mem_iff.2 (by simp [hq]), hqb⟩
  ·exact ⟨r, hp.mem_iff.2 (by simp), Option.some.inj hb⟩
 ·have : r.b = b := Option.some.inj hb
  exact hn2.1 (List.mem_map.2 ⟨q, hq, by rw [hqb, this]⟩)
theorem famPut {H : List Ent} (i j : Nat) {l l' : List RowD} {T : TypeId} {sz n b cap : Nat} {xs : List Value} (hi : nthE H i = some (famE l)) (hj : nthE H j = some (.app T sz xs (some ⟨b, 0, none⟩) n cap)) (hne : Nat.beq i j = false) (hp : (⟨T, sz, n, xs, b, cap⟩ :: l).Perm l') : TurnE H ((H.set i (famE l')).set j .dead) := by
 rw [nthE_eq] at hi hj
 refine ⟨by rw [List.length_set, List.length_set], fun ρ S w hs => ?_⟩
 have hF : famF l w := (hs.ent i _ hi).1.1
 have hij := Nat.ne_of_beq_eq_false hne
 rcases hs.ent j _ hj with ⟨h0, _⟩ | ⟨b', hb', hrow⟩
 ·cases h0
 cases hb'
 have hnb : b ∉ l.map RowD.b := fun hm => by
  obtain ⟨r, hr, hrb⟩ := List.mem_map.1 hm
  exact hij (hs.inj i j _ _ b hi hj ⟨r, hr, hrb⟩ rfl)
 have hF' : famF l' w := ⟨(hp.map RowD.b).nodup_iff.1 (List.nodup_cons.2 ⟨hnb, hF.1⟩), fun q hq => by
  rcases List.mem_cons.1 (hp.mem_iff.2 hq) with rfl | hq
  ·exact hrow
  ·exact hF.2 q hq⟩
 refine hs.two hi hj hij (fun c hc => ?_) (fun _ _ hb => hb) (famE_ok hF') trivial
 rcases hc with ⟨q, hq, hqb⟩ | hc
 ·rcases List.mem_cons.1 (hp.mem_iff.2 hq) with rfl | hq
  ·exact .inr (congrArg some hqb)
  ·exact .inl ⟨q, hq, hqb⟩
 ·exact hc.elim
theorem famNew {H : List Ent} (i : Nat) (hi : nthE H i = some .dead) : TurnE H (H.set i (famE [])) := by
 rw [nthE_eq] at hi
 refine ⟨by rw [List.length_set], fun ρ S w hs => ?_⟩
 have hget : ∀ (j : Nat) (f : Ent), (H.set i (famE []))[j]? = some f → f = famE [] ∨ H[j]? = some f := fun j f hf => by
  by_cases hj : i = j
  ·subst hj
   rw [List.getElem?_set_self (List.getElem?_eq_some_iff.1 hi).1] at hf
   exact .inl (Option.some.inj hf).symm
  ·rw [List.getElem?_set_ne hj] at hf
   exact .inr hf
 have hb : ∀ (j : Nat) (f : Ent) (b : Nat), (H.set i (famE []))[j]? = some f → entB ρ j f b → H[j]? = some f := fun j f b hf hfb => by
  rcases hget j f hf with rfl | h1
  ·obtain ⟨r, hr, _⟩ := hfb; cases hr
  ·exact h1
 have hmb : ∀ b, mb ρ (H.set i (famE [])) b → mb ρ H b := fun b ⟨j, f, hf, hfb⟩ => ⟨j, f, hb j f b hf hfb, hfb⟩
 exact ⟨⟨by simp [hs.len], fun j f hf => by
   rcases hget j f hf with rfl | h1
   ·exact famE_ok (famF_nil w)
   ·exact hs.ent j f h1,
  fun j k f g b hf hg hfb hgb => hs.inj j k f g b (hb j f b hf hfb) (hb k g b hg hgb) hfb hgb, fun b hbb => hs.out b (hmb b hbb), hs.low⟩,
  ⟨⟨[], by simp⟩, rfl, rfl, rfl, Nat.le_refl _, fun _ _ _ => rfl, fun _ h => .inl h, fun b hbb => .inl (hmb b hbb)⟩⟩
theorem SpecH.turnS {P : Program} {f : FuncId} {args : List AV} {H : List Ent} {K : Out → List Ent → Prop} {G : List Ent} (t : TurnS H G) (h : SpecH P f args G K) : SpecH P f args H K := by
 refine ⟨h.ok, fun ρ S w vs hs hr => ?_⟩
 obtain ⟨S', hs', hev⟩ := t.2 ρ S w hs
 exact (h.run ρ S' w vs hs' hr).mono fun e w' ⟨ρ2, S2, H2, out, a1, a2, a3, a4⟩ => ⟨ρ2, S2, H2, out, a1, hev.trans a2, a3, a4⟩
end Go.AX
namespace Go.AX
def optRow (T : TypeId) (sz n : Nat) (xs : List Value) (ob : Option Nat) (cap : Nat) : List RowD := match ob with | some b => [⟨T, sz, n, xs, b, cap⟩] | none => []
end Go.AX
