/-
  Lemmas (Ax14 Ax15 Ax16 Ax17 Ax13 Ax18 Ax19 Ax20 Ax34 Ax24 Ax21 Ax22 LB1 T1 Ax23 LB2 R0 P1 P2 P3 P4 P5 P6 P7 P8 P10 Ax26 Ax28 Ax29 Ax25 Ax30 Ax31 Ax32).
-/
import Derived.Below
import Derived.DataElems
import Derived.WalkKit
import Derived.ProofKit
import Derived.OpenShut
import Derived.ShutString
import Derived.ChangeOld
import Derived.Carry
import Derived.HandedShaped
import Derived.SliceStrings
import Derived.ChangeSlices
import Derived.SizedLaws
import Derived.MakeChecks
import Derived.LaidMore
import Derived.LaidLaws
import Derived.LaidHandle
import Derived.Lib.LaidTab
import Derived.SevenTiedAt
import Derived.Laws.IdiomStrings
import Derived.Shelf.Vars
import Derived.Lib.AppendStr
import Derived.Lib.UnsafeStr
import Derived.Lib.Builder
import Derived.Laws.Externs
import Derived.Test.YtgogonnnojcioaaGreatDoorChecked
import Derived.Shelf.Strings.Builder1
import Derived.Shelf.Strings.Builder2
import Derived.Shelf.Strings.Trim
import Derived.Shelf.Small.Utf8
import Derived.Shelf.Small.Bits
import Derived.Shelf.Small.Strs
import Derived.Shelf.Strings.BuilderF
import Derived.Shelf.Strings.BuilderK
import Derived.Shelf.Strings.Builder2Cap
import Derived.Shelf.Strconv.Itoa0
import Derived.Shelf.Strconv.Itoa1
import Derived.Shelf.LaysM
import Derived.Shelf.Strconv.Itoa2
import Derived.Shelf.Strconv.Itoa3
import Derived.Shelf.Strings.Search1
import Derived.Shelf.Sort.Plain
import Derived.Shelf.Strings.Prefix
import Derived.Shelf.Unicode.Decode
import Derived.Shelf.Strings.Runes
import Derived.Shelf.Strings.AsciiSet
import Derived.Shelf.Bits.Mul64
import Derived.Shelf.Unicode.DecodeSlow
import Derived.Shelf.Unicode.DecodeAny
import Derived.Shelf.Strings.BuilderCap
import Derived.Shelf.Slices.Turned
import Derived.Shelf.Slices.CompactS
import Derived.Shelf.Slices.Cells
import Derived.Shelf.Slices.In.SortNone
import Derived.Test.YtgogonnnojcioaaGreatDoorProg
import Derived.Lib.MakeNoZero
import Derived.Lib.CutLaws
import Derived.Lib.ReplaceLaws
import Derived.Test.YtgogonnnojcioaaGreatDoorRows
import Derived.LaidOnce
import Derived.WideMake
import Derived.Laws.IdiomCopy
import Derived.Laws.MakeOwn
import Derived.Lib.AppendZerosOnto
import Derived.Test.YtgogonnnojcioaaGreatDoorMde3
set_option linter.unusedVariables false
set_option linter.unusedSimpArgs false
namespace Go.AX
open Go.RowKit
theorem Imm.mono {S : Nat -> Prop} {w : World} {F G : World -> Prop} (h : Imm S w F) (hk : ∀ w, F w -> G w) : Imm S w G := ⟨hk w h.1, fun w' hw => hk w' (h.2 w' hw)⟩
theorem Imm.grow {S S' : Nat -> Prop} {w : World} {F : World -> Prop} (h : Imm S w F) (hs : ∀ b, S b -> S' b) : Imm S' w F := ⟨h.1, fun w' hw => h.2 w' fun b hb => hw b (hs b hb)⟩
theorem Imm.and {S : Nat -> Prop} {w : World} {F G : World -> Prop} (h : Imm S w F) (k : Imm S w G) : Imm S w fun w => F w /\ G w := ⟨⟨h.1, k.1⟩, fun w' hw => ⟨h.2 w' hw, k.2 w' hw⟩⟩
theorem Imm.triv (S : Nat -> Prop) (w : World) : Imm S w fun _ => True := ⟨trivial, fun _ _ => trivial⟩
theorem EntOk.grow {ρ : List Loc} {S S' : Nat -> Prop} {w : World} {i : Nat} {e : Ent} (h : EntOk ρ S w i e) (hs : ∀ b, S b -> S' b) : EntOk ρ S' w i e := by
 cases e with
 | fact F => exact Imm.grow h hs
 | fz => exact ⟨h.1, Imm.grow h.2 hs⟩
 | _ => exact h
theorem Qd0 {ρ : List Loc} {S : Nat -> Prop} {w : World} : ∀ {H : List Ent}, (∀ e ∈ H, ∃ i, EntOk ρ S w i e /\ match e with | .app _ _ _ a _ _ => ∀ b, a.map Addr.block = some b -> S b | .mp b _ _ => S b | .fam B _ => ∀ b, B b -> S b | _ => True) -> Imm S w (Qax H)
 | [], _ => Imm.triv S w
 | .fact F :: es, h => by
  obtain ⟨i, hi, _⟩ := h (.fact F) (by simp)
  exact Imm.and hi (Qd0 fun e he => h e (by simp [he]))
 | .fz T sz n xs b cap :: es, h => by
  obtain ⟨i, hi, _⟩ := h (.fz T sz n xs b cap) (by simp)
  exact Imm.and hi.2 (Qd0 fun e he => h e (by simp [he]))
 | .blk .. :: es, h => Qd0 (H := es) fun e he => h e (by simp [he])
 | .row .. :: es, h => Qd0 (H := es) fun e he => h e (by simp [he])
 | .app T sz xs a n cap :: es, h => by
  obtain ⟨i, hi, hS⟩ := h (.app T sz xs a n cap) (by simp)
  have h1 : Imm S w (SlAt a (n * sz) xs) := ⟨Qzl hi, fun w' hw => by
   rcases hi with ⟨rfl, rfl, rfl, rfl⟩ | ⟨b, rfl, hr⟩
   ·rw [Nat.zero_mul]; exact SlAt.nil
   ·exact (hr.move (hw b (hS b rfl))).sl⟩
  exact Imm.and h1 (Qd0 fun e he => h e (by simp [he]))
 | .mp b es c :: H, h => by
  obtain ⟨i, hi, hS⟩ := h (.mp b es c) (by simp)
  have h1 : Imm S w (fun w => w.heap[b]? = some (.map es c)) := ⟨hi, fun w' hw => (hw b hS).trans hi⟩
  exact Imm.and h1 (Qd0 fun e he => h e (by simp [he]))
 | .fam B F :: H, h => by
  obtain ⟨i, hi, hS⟩ := h (.fam B F) (by simp)
  exact Imm.and ⟨hi.1.1, fun w' hw => hi.1.2 w' fun b hb => hw b (hS b hb)⟩ (Qd0 fun e he => h e (by simp [he]))
 | .dead :: es, h => Qd0 (H := es) fun e he => h e (by simp [he])
def appB (H : List Ent) (b : Nat) : Prop := (∃ T sz xs a n cap, Ent.app T sz xs a n cap ∈ H /\ a.map Addr.block = some b) \/ (∃ es c, Ent.mp b es c ∈ H) \/ ∃ B F, Ent.fam B F ∈ H /\ B b
theorem Qn4 {ρ : List Loc} {H : List Ent} {b : Nat} (h : appB H b) : mb ρ H b := by
 rcases h with ⟨T, sz, xs, a, n, cap, hm, hb⟩ | ⟨es, c, hm⟩ | ⟨B, F, hm, hb⟩
 ·obtain ⟨i, hi⟩ := List.getElem?_of_mem hm
  exact ⟨i, _, hi, hb⟩
 ·obtain ⟨i, hi⟩ := List.getElem?_of_mem hm
  exact ⟨i, _, hi, rfl⟩
 ·obtain ⟨i, hi⟩ := List.getElem?_of_mem hm
  exact ⟨i, _, hi, hb⟩
theorem Sat.imm {ρ : List Loc} {S : Nat -> Prop} {H : List Ent} {w : World} (h : Sat ρ S H w) : Imm (fun b => S b \/ appB H b) w (Qax H) :=
 Qd0 (ρ := ρ) fun e he => by
  obtain ⟨i, hi⟩ := List.getElem?_of_mem he
  refine ⟨i, (h.ent i e hi).grow fun b hb => .inl hb, ?_⟩
  cases e with
  | app T sz xs a n cap => exact fun b hb => .inr (.inl ⟨T, sz, xs, a, n, cap, he, hb⟩)
  | mp b es c => exact .inr (.inr (.inl ⟨es, c, he⟩))
  | fam B F => exact fun b hb => .inr (.inr (.inr ⟨B, F, he, hb⟩))
  | _ => trivial
def Qmq : List Ent -> World -> Prop
 | [], _ => True
 | .fz T sz n xs b cap :: es, w => RowF T sz n xs b cap w /\ Qmq es w
 | .fact F :: es, w => F w /\ Qmq es w
 | _ :: es, w => Qmq es w
theorem Qc3 {ρ : List Loc} {S : Nat -> Prop} {w : World} : ∀ {H : List Ent}, (∀ e ∈ H, ∃ i, EntOk ρ S w i e) -> Imm S w (Qmq H)
 | [], _ => Imm.triv S w
 | .fact F :: es, h => by
  obtain ⟨i, hi⟩ := h (.fact F) (by simp)
  exact Imm.and hi (Qc3 fun e he => h e (by simp [he]))
 | .fz T sz n xs b cap :: es, h => by
  obtain ⟨i, hi⟩ := h (.fz T sz n xs b cap) (by simp)
  exact Imm.and hi.2 (Qc3 fun e he => h e (by simp [he]))
 | .blk .. :: es, h => Qc3 (H := es) fun e he => h e (by simp [he])
 | .row .. :: es, h => Qc3 (H := es) fun e he => h e (by simp [he])
 | .app .. :: es, h => Qc3 (H := es) fun e he => h e (by simp [he])
 | .mp .. :: es, h => Qc3 (H := es) fun e he => h e (by simp [he])
 | .fam .. :: es, h => Qc3 (H := es) fun e he => h e (by simp [he])
 | .dead :: es, h => Qc3 (H := es) fun e he => h e (by simp [he])
theorem Sat.immP {ρ : List Loc} {S : Nat -> Prop} {H : List Ent} {w : World} (h : Sat ρ S H w) : Imm S w (Qmq H) :=
 Qc3 (ρ := ρ) fun e he => by
  obtain ⟨i, hi⟩ := List.getElem?_of_mem he
  exact ⟨i, h.ent i e hi⟩
structure SpecF (P : Program) (f : FuncId) (xs : List Value) (F : World -> Prop) (R : Value -> (World -> Prop) -> Prop) : Prop where
 ok : Qjl P f
 run : ∀ (S : Nat -> Prop) (w : World), Imm S w F -> (∀ b, S b -> b < w.heap.size) -> Calls P f xs.toArray w fun e w' =>
  ∃ v G S', e = .returned v /\ R v G /\ Imm S' w' G /\ (∀ b, S' b -> S b \/ w.heap.size <= b) /\ (∀ b, S' b -> b < w'.heap.size) /\ Below w.heap.size w w'
theorem Qj5 {ρ : List Loc} {S S' : Nat -> Prop} {H H' : List Ent} {w w' : World} (t : List Loc) (h : Below w.heap.size w w') (hS : ∀ b, S' b -> S b \/ w.heap.size <= b) (hm : ∀ b, mb (ρ ++ t) H' b -> mb ρ H b) : Ev ρ S H w (ρ ++ t) S' H' w' :=
 ⟨⟨t, rfl⟩, h.os, h.tape, h.output, h.size, fun b hb _ => h.block b hb, fun b hb => (hS b hb).elim .inl fun h => .inr (.inr h), fun b hb => .inl (hm b hb)⟩
theorem Sat.below {ρ : List Loc} {S : Nat -> Prop} {H : List Ent} {w w' : World} (hs : Sat ρ S H w) (h : Below w.heap.size w w') : Sat ρ S H w' :=
 ⟨hs.len, fun i e he => by
   have := (hs.ent i e he).move (w' := w') [] (fun b hb => h.block _ (hs.blk_lt he hb)) fun b hb => h.block b (hs.low b hb)
   simpa using this,
  hs.inj, hs.out, fun b hb => Nat.lt_of_lt_of_le (hs.low b hb) h.size⟩
theorem Sat.addFact {ρ : List Loc} {S S' : Nat -> Prop} {H : List Ent} {w w' : World} {G : World -> Prop} (hs : Sat ρ S H w) (h : Below w.heap.size w w') (hG : Imm S' w' G) (hS : ∀ b, S' b -> S b \/ w.heap.size <= b) (hl : ∀ b, S' b -> b < w'.heap.size) :
  Sat (ρ ++ [⟨0, 0⟩]) (fun b => S b \/ S' b) (H ++ [.fact G]) w' /\ ∀ b, mb (ρ ++ [⟨0, 0⟩]) (H ++ [.fact G]) b -> mb ρ H b := by
 have h1 := hs.below h
 have hcase : ∀ (i : Nat) (e : Ent), (H ++ [Ent.fact G])[i]? = some e -> (i < H.length /\ H[i]? = some e) \/ e = .fact G := fun i e he => by
  by_cases hi : i < H.length
  ·rw [Zrz hi] at he; exact .inl ⟨hi, he⟩
  ·rw [List.getElem?_append_right (by omega)] at he
   have : i - H.length < 1 := by have := (Zfz.1 he).1; simpa using this
   have h0 : i - H.length = 0 := by omega
   rw [h0] at he
   simp at he
   exact .inr he.symm
 have hb2 : ∀ (i : Nat) (e : Ent) (b : Nat), (H ++ [Ent.fact G])[i]? = some e -> entB (ρ ++ [⟨0, 0⟩]) i e b -> H[i]? = some e /\ entB ρ i e b := fun i e b he hb => by
  rcases hcase i e he with ⟨hi, he'⟩ | rfl
  ·rw [Qdb _ (by rw [hs.len]; exact hi)] at hb
   exact ⟨he', hb⟩
  ·cases hb
 have hmb : ∀ b, mb (ρ ++ [⟨0, 0⟩]) (H ++ [.fact G]) b -> mb ρ H b := by
  rintro b ⟨i, e, he, hb⟩
  exact ⟨i, e, hb2 i e b he hb⟩
 refine ⟨⟨by simp [hs.len], fun i e he => ?_, fun i j e f b he hf heb hfb => ?_, fun b hb hn => ?_, fun b hb => ?_⟩, hmb⟩
 ·rcases hcase i e he with ⟨hi, he'⟩ | rfl
  ·have := (hs.ent i e he').move (w' := w') [⟨0, 0⟩] (fun b hb => h.block _ (hs.blk_lt he' hb)) fun b hb => h.block b (hs.low b hb)
   exact this.grow fun b hb => .inl hb
  ·exact Imm.grow hG fun b hb => .inr hb
 ·have h1 := hb2 i e b he heb
  have h2 := hb2 j f b hf hfb
  exact hs.inj i j e f b h1.1 h2.1 h1.2 h2.2
 ·obtain ⟨i, e, he, heb⟩ := hmb b hb
  rcases hn with hn | hn
  ·exact hs.out _ ⟨i, e, he, heb⟩ hn
  ·rcases hS _ hn with h2 | h2
   ·exact hs.out _ ⟨i, e, he, heb⟩ h2
   ·have := hs.blk_lt he heb; omega
 ·rcases hb with hb | hb
  ·exact h1.low b hb
  ·exact hl b hb
theorem SpecF.call {P : Program} {f : FuncId} {xs : List Value} {F : World -> Prop} {R : Value -> (World -> Prop) -> Prop} {H : List Ent} {K : Out -> List Ent -> Prop} (h : SpecF P f xs F R) (hF : ∀ w, Qmq H w -> F w)
  (hk : ∀ v G, R v G -> Qfa H (.fact G) 0 fun H' _ => K (.val (.c (.v v))) H') : SpecH P f (pvs xs) H K := by
 simp only [Qco] at hk
 refine ⟨h.ok, fun ρ S w vs hs hr => ?_⟩
 obtain rfl := Qe9 hr
 refine (h.run S w (hs.immP.mono hF) hs.low).mono fun e w' ⟨v, G, S', he, hR, hG, hS, hlow, bel⟩ => ?_
 have hsat := hs.addFact bel hG hS hlow
 exact ⟨_, _, _, .val (.c (.v v)), hsat.1, Qj5 [⟨0, 0⟩] bel (fun b hb => hb.elim .inl (hS b)) hsat.2, ⟨v, he, rfl⟩, hk v G hR⟩
theorem SpecF.call0 {P : Program} {f : FuncId} {xs : List Value} {F : World -> Prop} {R : Value -> (World -> Prop) -> Prop} {H : List Ent} {K : Out -> List Ent -> Prop} (h : SpecF P f xs F R) (hF : ∀ w, Qax H w -> F w)
  (hk : ∀ v G, R v G -> K (.val (.c (.v v))) H) : SpecH P f (pvs xs) H K := by
 refine ⟨h.ok, fun ρ S w vs hs hr => ?_⟩
 obtain rfl := Qe9 hr
 refine (h.run _ w (hs.imm.mono hF) (fun b hb => hb.elim (hs.low b) fun hb => by obtain ⟨i, e, he, heb⟩ := Qn4 (ρ := ρ) hb; exact hs.blk_lt he heb)).mono fun e w' ⟨v, G, S', he, hR, hG, hS, hlow, bel⟩ => ?_
 exact ⟨ρ, S, H, .val (.c (.v v)), hs.below bel, by simpa using Qj5 (S := S) (S' := S) (ρ := ρ) (H := H) (H' := H) [] bel (fun b hb => .inl hb) (fun b hb => by simpa using hb), ⟨v, he, rfl⟩, hk v G hR⟩
def EntF (ρ : List Loc) (w : World) (i : Nat) : Ent -> Prop
 | .blk T cs => ∃ l arr, ρ[i]? = some l /\ w.heap[l.b]? = some (.cells arr T (0, 0)) /\ RelL ρ cs arr.toList
 | .row T sz n cs => ∃ l arr, ρ[i]? = some l /\ w.heap[l.b]? = some (.cells arr T (0, 0)) /\ cs.length = n * sz /\ n <= l.cap /\ l.cap <= maxLen /\ arr.size = l.cap * sz /\ RelL ρ cs (arr.toList.take (n * sz))
 | .fact F => F w
 | .fz T sz n xs b cap => ρ[i]? = some ⟨b, cap⟩ /\ RowF T sz n xs b cap w
 | .app T sz xs a n cap => (a = none /\ n = 0 /\ cap = 0 /\ xs = []) \/ ∃ b, a = some ⟨b, 0, none⟩ /\ RowF T sz n xs b cap w
 | .mp b es c => w.heap[b]? = some (.map es c)
 | .fam _ F => F w
 | .dead => True
def All (ρ : List Loc) (H : List Ent) (w : World) : Prop := ∀ i e, H[i]? = some e -> EntF ρ w i e
def Fin (R : Value -> (World -> Prop) -> Prop) (out : Out) (H : List Ent) : Prop :=
 ∀ ρ v w0, All ρ H w0 -> Qth ρ out (.returned v) -> ∃ G, R v G /\ ∀ w, All ρ H w -> G w
def Qo3 : Out -> Prop
 | .pan _ => False
 | _ => True
theorem Qfs {P : Program} {f : FuncId} {xs : List Value} {F : World -> Prop} {R : Value -> (World -> Prop) -> Prop} (h : SpecH P f (pvs xs) [.fact F] fun out H' => Qo3 out /\ Fin R out H') : SpecF P f xs F R := by
 refine ⟨h.ok, fun S w hF hlow => ?_⟩
 have nomb : ∀ b, ¬ mb [⟨0, 0⟩] [Ent.fact F] b := by
  rintro b ⟨i, e, he, ho⟩
  match i, he with
  | 0, he => simp at he; subst he; cases ho
 have hs : Sat [⟨0, 0⟩] S [.fact F] w := by
  refine ⟨rfl, fun i e he => ?_, fun i j e f b he hf heo => ?_, fun b hb => absurd hb (nomb b), hlow⟩
  ·match i, he with
   | 0, he => simp at he; subst he; exact hF
  ·match i, he with
   | 0, he => simp at he; subst he; cases heo
 refine (h.run _ S w xs hs (Qgl _ xs)).mono fun e w' ⟨ρ', S', H', out, hs', hev, hout, hn, hfin⟩ => ?_
 obtain ⟨v, rfl⟩ : ∃ v, e = .returned v := by
  cases out with
  | val av => obtain ⟨v, he, _⟩ := hout; exact ⟨v, he⟩
  | vals l => obtain ⟨v, he, _⟩ := hout; exact ⟨_, he⟩
  | pan c => exact hn.elim
 have hall : ∀ w'' : World, (∀ b, S' b \/ mb ρ' H' b -> w''.heap[b]? = w'.heap[b]?) -> All ρ' H' w'' := fun w'' hw i e he => by
  have hk := hs'.ent i e he
  cases e with
  | blk T cs => obtain ⟨l, arr, hl, hb, hr⟩ := hk; exact ⟨l, arr, hl, by rw [hw l.b (.inr ⟨i, _, he, Qf4 rfl hl⟩)]; exact hb, hr⟩
  | row T sz n cs => obtain ⟨l, arr, hl, hb, hr⟩ := hk; exact ⟨l, arr, hl, by rw [hw l.b (.inr ⟨i, _, he, Qf4 rfl hl⟩)]; exact hb, hr⟩
  | fact F => exact hk.2 w'' fun b hb => hw b (.inl hb)
  | fz => exact ⟨hk.1, hk.2.2 w'' fun b hb => hw b (.inl hb)⟩
  | app T sz xs a n cap =>
   rcases hk with hk | ⟨b, rfl, hk⟩
   ·exact .inl hk
   ·exact .inr ⟨b, rfl, hk.move (hw b (.inr ⟨i, _, he, rfl⟩))⟩
  | mp b es c => exact (hw b (.inr ⟨i, _, he, rfl⟩)).trans hk
  | fam B F => exact hk.1.2 w'' fun b hb => hw b (.inr ⟨i, _, he, hb⟩)
  | dead => trivial
 obtain ⟨G, hR, hG⟩ := hfin ρ' v w' (hall w' fun _ _ => rfl) hout
 refine ⟨v, G, fun b => S' b \/ mb ρ' H' b, rfl, hR, ⟨hG _ (hall w' fun _ _ => rfl), fun w'' hw => hG w'' (hall w'' hw)⟩, ?_, ?_, ⟨hev.os, hev.tape, hev.output, hev.size, fun b hb => hev.keep b hb (nomb b)⟩⟩
 ·rintro b (hb | hb)
  ·rcases hev.imm b hb with h | h | h
   ·exact .inl h
   ·exact absurd h (nomb b)
   ·exact .inr h
  ·rcases hev.own b hb with h | h
   ·exact absurd h (nomb b)
   ·exact .inr h
 ·rintro b (hb | hb)
  ·exact hs'.low b hb
  ·obtain ⟨i, e, he, heb⟩ := hb
   exact hs'.blk_lt he heb
theorem Qm2 {P : Program} (hm : P.follows .mixedOrders = true) {f : FuncId} {fn : Func} {c : Code} (hf : P.funcs[f]? = some fn) (hn : (fn.name == "runtime.NumGoroutine") = false) (hb : fn.body = some c)
  {xs : List Value} (hl : Nat.ble (pvs xs).length fn.ntmps = true) {F : World -> Prop} {R : Value -> (World -> Prop) -> Prop} (h : Qhq fn.ntmps (pvs xs) fun s => exec P c s [.fact F] (endK P fn.results.toList fun out H' => Qo3 out /\ Fin R out H')) : SpecF P f xs F R :=
 Qfs (Qas hm hf hn hb hl h)
theorem Ql0 {R : Value -> (World -> Prop) -> Prop} {x : Value} {H : List Ent} (h : R x fun _ => True) : Qo3 (.val (.c (.v x))) /\ Fin R (.val (.c (.v x))) H :=
 ⟨trivial, fun _ v _ _ hv => by
  obtain ⟨_, e, hr⟩ := hv
  obtain rfl := Ending.returned.inj e
  have : v = x := hr
  subst this
  exact ⟨_, h, fun _ _ => trivial⟩⟩
theorem Qmu {ρ : List Loc} : ∀ {xs vs' : List Value}, RelL ρ (vs xs) vs' -> vs' = xs
 | [], [], _ => rfl
 | x :: xs, v :: vs', h => by
  have h1 : v = x := h.1
  rw [h1, Qmu h.2]
 | [], _ :: _, h => h.elim
 | _ :: _, [], h => h.elim
theorem EntF.row {ρ : List Loc} {w : World} {i : Nat} {T : TypeId} {sz n : Nat} {xs : List Value} {l : Loc} (h : EntF ρ w i (.row T sz n (vs xs))) (hl : ρ[i]? = some l) : RowF T sz n xs l.b l.cap w := by
 obtain ⟨l', arr, hl', hb, h1, h2, h3, h4, hr⟩ := h
 obtain rfl := Zzz (hl'.symm.trans hl)
 exact ⟨arr, (0, 0), ⟨hb, .inl rfl⟩, by rwa [Qre] at h1, h2, h3, h4, Qmu hr⟩
theorem All.facts {ρ : List Loc} {H : List Ent} {w : World} (h : All ρ H w) : Qax H w := by
 refine Qed (ρ := ρ) (S := fun _ => True) fun e he => ?_
 obtain ⟨i, hi⟩ := List.getElem?_of_mem he
 have := h i e hi
 cases e with
 | fact F => exact this
 | fz => exact this.2
 | app T sz xs a n cap => exact Qzl (ρ := ρ) (S := fun _ => True) (i := i) this
 | _ => trivial
theorem Qfc {R : Value -> (World -> Prop) -> Prop} {x : Value} {H : List Ent} (G : World -> Prop) (h : R x G) (hG : ∀ w, Qax H w -> G w) : Qo3 (.val (.c (.v x))) /\ Fin R (.val (.c (.v x))) H :=
 ⟨trivial, fun ρ v _ _ hv => by
  obtain ⟨_, e, hr⟩ := hv
  obtain rfl := Ending.returned.inj e
  have : v = x := hr
  subst this
  exact ⟨_, h, fun w hall => hG w hall.facts⟩⟩
theorem Sat.dropRow {ρ : List Loc} {S : Nat -> Prop} {H : List Ent} {w : World} (h : Sat ρ S H w) {i : Nat} {T : TypeId} {sz n : Nat} {xs : List Value} (hi : H[i]? = some (.row T sz n (vs xs))) :
  ∃ b cap S', n <= cap /\ Sat ρ S' (H.set i (.fz T sz n xs b cap)) w /\ Ev ρ S H w ρ S' (H.set i (.fz T sz n xs b cap)) w := by
 have hilt : i < H.length := (Zfz.1 hi).1
 obtain ⟨l, arr, hl, hb, h1, h2, h3, h4, hr⟩ := h.ent i _ hi
 have hrow : RowF T sz n xs l.b l.cap w := ⟨arr, (0, 0), ⟨hb, .inl rfl⟩, by rwa [Qre] at h1, h2, h3, h4, Qmu hr⟩
 have hblk : entB ρ i (.row T sz n (vs xs)) l.b := Qf4 rfl hl
 refine ⟨l.b, l.cap, fun b => S b \/ b = l.b, h2, ?_⟩
 have hcase : ∀ (j : Nat) (f : Ent) (b : Nat), (H.set i (.fz T sz n xs l.b l.cap))[j]? = some f -> entB ρ j f b -> j ≠ i /\ H[j]? = some f := by
  intro j f b hf hfb
  by_cases hj : i = j
  ·subst hj
   simp [hilt] at hf
   subst hf
   cases hfb
  ·rw [Zyz hj] at hf
   exact ⟨Ne.symm hj, hf⟩
 refine ⟨⟨by simp [h.len], fun j f hf => ?_, fun j k f g b hf hg hfb hgb => ?_, fun b ⟨j, f, hf, hfb⟩ hn => ?_, fun b hb => ?_⟩,
  ⟨⟨[], by simp⟩, rfl, rfl, rfl, Zcz _, fun _ _ _ => rfl, fun b hb => ?_, fun b ⟨j, f, hf, hfb⟩ => .inl ⟨j, f, (hcase j f b hf hfb).2, hfb⟩⟩⟩
 ·by_cases hj : i = j
  ·subst hj
   simp [hilt] at hf
   subst hf
   exact ⟨hl, hrow, fun w' hw => hrow.move (hw _ (.inr rfl))⟩
  ·rw [Zyz hj] at hf
   exact (h.ent j f hf).grow fun b hb => .inl hb
 ·exact h.inj j k f g b (hcase j f b hf hfb).2 (hcase k g b hg hgb).2 hfb hgb
 ·have hjf := hcase j f b hf hfb
  rcases hn with hn | hn
  ·exact h.out b ⟨j, f, hjf.2, hfb⟩ hn
  ·exact hjf.1 (h.inj j i f _ b hjf.2 hi hfb (hn ▸ hblk))
 ·rcases hb with hb | hb
  ·exact h.low b hb
  ·subst hb; exact h.blk_lt hi hblk
 ·rcases hb with hb | hb
  ·exact .inl hb
  ·exact .inr (.inl ⟨i, _, hi, hb ▸ hblk⟩)
theorem SpecH.freeze {P : Program} {f : FuncId} {args : List AV} {H : List Ent} {K : Out -> List Ent -> Prop} (ok : Qjl P f) (i : Nat) {T : TypeId} {sz n : Nat} {cs : List CV} {xs : List Value} (hi : nthE H i = some (.row T sz n cs)) (hx : Qbr cs = some xs)
  (h : ∀ b cap, n <= cap -> Qd5 H i (.fz T sz n xs b cap) fun H' => SpecH P f args H' K) : SpecH P f args H K := by
 have hcs : ∀ {cs : List CV} {xs : List Value}, Qbr cs = some xs -> cs = vs xs := by
  intro cs
  induction cs with
  | nil => intro xs h; simp [Qbr] at h; subst h; rfl
  | cons c cs ih =>
   intro xs h
   cases c with
   | v x =>
    simp only [Qbr] at h
    split at h
    ·rename_i l hl
     cases h
     rw [ih hl]; rfl
    ·cases h
   | _ => simp [Qbr] at h
 rw [Qbp, hcs hx] at hi
 refine ⟨ok, fun ρ S w vs hs hr => ?_⟩
 obtain ⟨b, cap, S', hnc, hs', hev⟩ := hs.dropRow hi
 obtain ⟨_, h⟩ := Qa8 (h b cap hnc)
 exact (h.run ρ S' w vs hs' hr).mono fun e w' ⟨ρ2, S2, H2, out, a1, a2, a3, a4⟩ => ⟨ρ2, S2, H2, out, a1, hev.trans a2, a3, a4⟩
def Qru (H : List Ent) : CV -> Option Value
 | .v x => some x
 | .sl i m => match nthE H i with | some (.fz _ _ _ _ b cap) => some (.slice (some ⟨b, 0, none⟩) m cap) | _ => none
 | _ => none
def Qkx (H : List Ent) : List CV -> Option (List Value)
 | [] => some []
 | c :: cs => match Qru H c, Qkx H cs with | some x, some xs => some (x :: xs) | _, _ => none
def Qur (H : List Ent) : AV -> Option Value
 | .c c => Qru H c
 | .agg cs => match Qkx H cs with | some xs => some (.agg xs.toArray) | none => none
def Qkz (H : List Ent) : List AV -> Option (List Value)
 | [] => some []
 | c :: cs => match Qur H c, Qkz H cs with | some x, some xs => some (x :: xs) | _, _ => none
theorem Qme {ρ : List Loc} {S : Nat -> Prop} {H : List Ent} {w : World} (hs : Sat ρ S H w) {c : CV} {x v : Value} (h : Qru H c = some x) (hr : c.rel ρ v) : v = x := by
 cases c with
 | any => cases h
 | v y => cases h; exact hr
 | lp => cases h
 | sl i m =>
  simp only [Qru] at h
  split at h
  ·rename_i T sz n xs b cap he
   cases h
   rw [Qbp] at he
   obtain ⟨l, hl, rfl⟩ := hr
   have hl2 := (hs.ent i _ he).1
   obtain rfl := Zzz (hl.symm.trans hl2)
   rfl
  ·cases h
theorem Qkw {ρ : List Loc} {S : Nat -> Prop} {H : List Ent} {w : World} (hs : Sat ρ S H w) : ∀ {cs : List CV} {xs vs : List Value}, Qkx H cs = some xs -> RelL ρ cs vs -> vs = xs
 | [], xs, [], h, _ => by simp [Qkx] at h; exact h.symm
 | c :: cs, xs, v :: vs, h, hr => by
  simp only [Qkx] at h
  split at h
  ·rename_i x ys hx hy
   cases h
   rw [Qme hs hx hr.1, Qkw hs hy hr.2]
  ·cases h
 | [], _, _ :: _, _, hr => hr.elim
 | _ :: _, _, [], _, hr => hr.elim
theorem Qsu {ρ : List Loc} {S : Nat -> Prop} {H : List Ent} {w : World} (hs : Sat ρ S H w) {a : AV} {x v : Value} (h : Qur H a = some x) (hr : a.rel ρ v) : v = x := by
 cases a with
 | c c => exact Qme hs h hr
 | agg cs =>
  simp only [Qur] at h
  split at h
  ·rename_i xs hx
   cases h
   obtain ⟨ys, rfl, hy⟩ := hr
   rw [Qkw hs hx hy]
  ·cases h
theorem Qky {ρ : List Loc} {S : Nat -> Prop} {H : List Ent} {w : World} (hs : Sat ρ S H w) : ∀ {cs : List AV} {xs vs : List Value}, Qkz H cs = some xs -> RelS ρ cs vs -> vs = xs
 | [], xs, [], h, _ => by simp [Qkz] at h; exact h.symm
 | c :: cs, xs, v :: vs, h, hr => by
  simp only [Qkz] at h
  split at h
  ·rename_i x ys hx hy
   cases h
   rw [Qsu hs hx hr.1, Qky hs hy hr.2]
  ·cases h
 | [], _, _ :: _, _, hr => hr.elim
 | _ :: _, _, [], _, hr => hr.elim
theorem SpecH.plain {P : Program} {f : FuncId} {args : List AV} {H : List Ent} {K : Out -> List Ent -> Prop} {xs : List Value} (hx : Qkz H args = some xs) (h : SpecH P f (pvs xs) H K) : SpecH P f args H K :=
 ⟨h.ok, fun ρ S w vs hs hr => by
  obtain rfl := Qky hs hx hr
  exact h.run ρ S w vs hs (Qgl ρ vs)⟩
theorem Qe7 {P : Program} {T : TypeId} {w : World} {p : Addr} {x : Value} (hs : Qep P T = some none) (hc : w.cell? p = some x) : (loadVar T p).run P w = .ok x w := by
 unfold Qep at hs
 have key : ∀ d, P.underlying T = some d -> Qk6 d = false -> (loadVar T p).run P w = .ok x w := fun d hd hf => by
  unfold loadVar
  rw [Sem.run_bind, Qgg hd, hf]
  simp [hc]
 cases hd : P.underlying T with
 | none => rw [hd] at hs; simp at hs
 | some d =>
  rw [hd] at hs
  cases d <;> first
   | exact key _ hd rfl
   | (simp only at hs; split at hs <;> simp at hs)
theorem Qib {P : Program} {T : TypeId} {n : Nat} {w : World} {p : Addr} {xs : List Value} (hs : Qep P T = some (some n)) (hl : xs.length = n) (hc : ∀ j v, xs[j]? = some v -> w.cell? (p.add j) = some v) : (loadVar T p).run P w = .ok (.agg xs.toArray) w := by
  unfold Qep at hs
  have key : ∀ d i, P.underlying T = some d -> P.info? T = some i -> i.size = n -> Qk6 d = true -> (loadVar T p).run P w = .ok (.agg xs.toArray) w := fun d i hd hi hn hf => by
    have hcells := run_loadCells_list (P := P) w p xs hc
    rw [hl] at hcells
    unfold loadVar
    rw [Sem.run_bind, Qgg hd, hf]
    simp [sizeOf, typeInfo, hi, hn, hcells]
  cases hd : P.underlying T with
  | none => rw [hd] at hs; simp at hs
  | some d =>
    rw [hd] at hs
    cases d <;> first
      | (simp at hs; done)
      | (simp only at hs
         split at hs
         · rename_i i hi
           simp at hs
           exact key _ i hd hi hs rfl
         · cases hs)
theorem SlAt.cell {a : Option Addr} {k : Nat} {xs : List Value} {w : World} (h : SlAt a k xs w) {q : Nat} {x : Value} (hx : xs[q]? = some x) : w.cell? ((a.getD default).add q) = some x := by
 have : q < k := by rw [<- h.1]; exact (Zfz.1 hx).1
 rw [h.2.2 q this, hx]
theorem LdN.one {P : Program} {T : TypeId} {a : Option Addr} {q : Nat} {H : List Ent} {K : AV -> Prop} {k : Nat} {xs : List Value} (x : Value) (hT : Qep P T = some none) (hF : ∀ w, Qax H w -> SlAt a k xs w) (hx : xs[q]? = some x)
  (next : Qlb x fun x => K (.c (.v x))) : LdN P T (Qb8 a q) H K :=
 ⟨x, fun w hw => Qe7 hT ((hF w hw).cell hx), next⟩
theorem LdN.fld {P : Program} {T : TypeId} {a : Option Addr} {q fo : Nat} {H : List Ent} {K : AV -> Prop} {k : Nat} {xs : List Value} (x : Value) (hT : Qep P T = some none) (hF : ∀ w, Qax H w -> SlAt a k xs w) (hx : xs[q + fo]? = some x)
  (next : Qlb x fun x => K (.c (.v x))) : LdN P T ((Qb8 a q).add fo) H K :=
 ⟨x, fun w hw => Qe7 hT (by rw [Qb8, Addr.add_add]; exact (hF w hw).cell hx), next⟩
theorem LdN.agg {P : Program} {T : TypeId} {a : Option Addr} {q n : Nat} {H : List Ent} {K : AV -> Prop} {k : Nat} {xs : List Value} (ys : List Value) (hT : Qep P T = some (some n)) (hF : ∀ w, Qax H w -> SlAt a k xs w) (hl : ys.length = n)
  (hx : ∀ j, j < n -> xs[q + j]? = ys[j]?) (next : K (.c (.v (.agg ys.toArray)))) : LdN P T (Qb8 a q) H K :=
 ⟨.agg ys.toArray, fun w hw => Qib hT hl fun j v hv => by
  have hj : j < n := by rw [<- hl]; exact (Zfz.1 hv).1
  rw [Qb8, Addr.add_add]
  exact (hF w hw).cell ((hx j hj).trans hv), next⟩
theorem Qsb {α : Type} {g : α -> List Value} {m : Nat} (hg : ∀ a, (g a).length = m) : ∀ (l : List α) (i j : Nat), j < m -> (l.flatMap g)[i * m + j]? = (l[i]?).bind fun a => (g a)[j]?
 | [], i, j, _ => by simp
 | a :: l, 0, j, hj => by rw [List.flatMap_cons, Nat.zero_mul, Nat.zero_add, Zrz (by rw [hg]; exact hj)]; simp
 | a :: l, i + 1, j, hj => by
  rw [List.flatMap_cons, List.getElem?_append_right (by rw [hg, Nat.add_mul]; omega), hg, show (i + 1) * m + j - m = i * m + j by rw [Nat.add_mul]; omega, Qsb hg l i j hj]
  simp
def rnI : List Nat -> Nat -> Nat -> Nat
 | [], N, j => N + j
 | s :: _, _, 0 => s
 | _ :: σ, N, j + 1 => rnI σ N j
def rnC (σ : List Nat) (N : Nat) : CV -> CV
 | .lp i o => .lp (rnI σ N i) o
 | .sl i n => .sl (rnI σ N i) n
 | c => c
def rnCs (σ : List Nat) (N : Nat) : List CV -> List CV
 | [] => []
 | c :: cs => rnC σ N c :: rnCs σ N cs
def rnA (σ : List Nat) (N : Nat) : AV -> AV
 | .c c => .c (rnC σ N c)
 | .agg cs => .agg (rnCs σ N cs)
def rnS (σ : List Nat) (N : Nat) : List AV -> List AV
 | [] => []
 | a :: s => rnA σ N a :: rnS σ N s
def rnE (σ : List Nat) (N : Nat) : Ent -> Ent
 | .blk T cs => .blk T (rnCs σ N cs)
 | .row T sz n cs => .row T sz n (rnCs σ N cs)
 | e => e
def rnO (σ : List Nat) (N : Nat) : Out -> Out
 | .val a => .val (rnA σ N a)
 | .vals l => .vals (rnS σ N l)
 | .pan c => .pan c
def mrg (f : Ent -> Ent) : List Nat -> List Ent -> List Ent -> (List Ent -> Prop) -> Prop
 | [], [], H, K => K H
 | [], e :: es, H, K => Qfa H (f e) 0 fun H' _ => mrg f [] es H' K
 | s :: σ, e :: es, H, K => Qd5 H s (f e) fun H' => mrg f σ es H' K
 | _ :: _, [], _, _ => False
def part (σ : List Nat) (N : Nat) (H : List Ent) : List Nat -> List Ent -> Prop
 | [], [] => True
 | s :: τ, e :: es => nthE H s = some (rnE σ N e) /\ part σ N H τ es
 | _, _ => False
def ndB : List Nat -> Bool
 | [] => true
 | s :: σ => !(σ.any (Nat.beq s)) && ndB σ
theorem Qo7 : ∀ {σ : List Nat}, ndB σ = true -> σ.Nodup
 | [], _ => List.nodup_nil
 | s :: σ, h => by
  simp only [ndB, ZAz, Bool.not_eq_true', List.any_eq_false] at h
  exact Zxz.2 ⟨fun hm => h.1 s hm (by simp), Qo7 h.2⟩
theorem Qiv : ∀ {σ : List Nat} {N j s : Nat}, σ[j]? = some s -> rnI σ N j = s
 | _ :: _, _, 0, s, h => by simpa [rnI] using h
 | _ :: σ, N, j + 1, s, h => by simpa [rnI] using Qiv (σ := σ) (N := N) (by simpa using h)
 | [], _, _, _, h => by simp at h
theorem Qm6 : ∀ (σ : List Nat) (N j : Nat), rnI σ N (σ.length + j) = N + j
 | [], N, j => by simp [rnI]
 | _ :: σ, N, j => by
  rw [show (List.length (_ :: σ)) + j = (σ.length + j) + 1 by simp; omega]
  simpa [rnI] using Qm6 σ N j
section
variable {σ : List Nat} {N : Nat} {ρ ρ' : List Loc}
theorem Que (h : ∀ j, ρ'[rnI σ N j]? = ρ[j]?) (c : CV) (v : Value) : (rnC σ N c).rel ρ' v ↔ c.rel ρ v := by
 cases c <;> simp only [rnC, CV.rel, h]
theorem Qm7 (h : ∀ j, ρ'[rnI σ N j]? = ρ[j]?) : ∀ (cs : List CV) (vs : List Value), RelL ρ' (rnCs σ N cs) vs ↔ RelL ρ cs vs
 | [], [] => Iff.rfl
 | [], _ :: _ => Iff.rfl
 | _ :: _, [] => Iff.rfl
 | c :: cs, v :: vs => by simp only [rnCs, RelL, Que h, Qm7 h cs vs]
theorem Quf (h : ∀ j, ρ'[rnI σ N j]? = ρ[j]?) (a : AV) (v : Value) : (rnA σ N a).rel ρ' v ↔ a.rel ρ v := by
 cases a with
 | c c => exact Que h c v
 | agg cs => simp only [rnA, AV.rel, Qm7 h]
theorem Qqe (h : ∀ j, ρ'[rnI σ N j]? = ρ[j]?) : ∀ (cs : List AV) (vs : List Value), RelS ρ' (rnS σ N cs) vs ↔ RelS ρ cs vs
 | [], [] => Iff.rfl
 | [], _ :: _ => Iff.rfl
 | _ :: _, [] => Iff.rfl
 | c :: cs, v :: vs => by simp only [rnS, RelS, Quf h, Qqe h cs vs]
theorem Qrj : ∀ cs : List CV, (rnCs σ N cs).length = cs.length
 | [] => rfl
 | _ :: cs => by simp [rnCs, Qrj cs]
theorem Qxz (h : ∀ j, ρ'[rnI σ N j]? = ρ[j]?) (S : Nat -> Prop) (w : World) (j : Nat) (e : Ent) : EntOk ρ' S w (rnI σ N j) (rnE σ N e) ↔ EntOk ρ S w j e := by
 cases e <;> simp only [rnE, EntOk, Qm7 h, h, Qrj]
theorem Qfu (h : ∀ j, ρ'[rnI σ N j]? = ρ[j]?) (j : Nat) (e : Ent) : entB ρ' (rnI σ N j) (rnE σ N e) = entB ρ j e := by
 cases e <;> simp only [rnE, entB, h]
end
theorem Qrx {σ : List Nat} {N : Nat} {H : List Ent} : ∀ {τ : List Nat} {es : List Ent}, part σ N H τ es -> τ.length = es.length /\ ∀ (j : Nat) (s : Nat) (e : Ent), τ[j]? = some s -> es[j]? = some e -> H[s]? = some (rnE σ N e)
 | [], [], _ => ⟨rfl, fun j s e h => by simp at h⟩
 | s :: τ, e :: es, h => by
  obtain ⟨h1, h2⟩ := Qrx (τ := τ) (es := es) h.2
  refine ⟨by simp [h1], fun j s' e' hs he => ?_⟩
  cases j with
  | zero => simp at hs he; subst hs; subst he; rw [<- Qbp]; exact h.1
  | succ j => exact h2 j s' e' (by simpa using hs) (by simpa using he)
 | [], _ :: _, h => h.elim
 | _ :: _, [], h => h.elim
theorem Qnl (f : Ent -> Ent) : ∀ {σ : List Nat} {es H : List Ent} {K : List Ent -> Prop}, σ.Nodup -> mrg f σ es H K ->
  ∃ H', K H' /\ σ.length <= es.length /\ H'.length = H.length + (es.length - σ.length) /\ (∀ s ∈ σ, s < H.length) /\
   (∀ (j : Nat) (e : Ent), es[j]? = some e -> H'[rnI σ H.length j]? = some (f e)) /\ ∀ i, i < H.length -> i ∉ σ -> H'[i]? = H[i]?
 | [], [], H, K, _, h => ⟨H, h, Zcz _, by simp, fun _ h => by simp at h, fun j e h => by simp at h, fun _ _ _ => rfl⟩
 | [], e :: es, H, K, _, h => by
  simp only [mrg] at h
  rw [Qco] at h
  obtain ⟨H', hK, _, hl, _, hj, hi⟩ := Qnl f (σ := []) List.nodup_nil h
  refine ⟨H', hK, by simp, by simp at hl ⊢; omega, fun _ h => by simp at h, fun j e' he => ?_, fun i hi' _ => ?_⟩
  ·cases j with
   | zero =>
    simp at he; subst he
    simp only [rnI, Nat.add_zero]
    rw [hi H.length (by simp) (by simp)]; simp
   | succ j =>
    have := hj j e' (by simpa using he)
    simp only [rnI, Zhz, Znz, List.length_nil] at this ⊢
    rw [show H.length + (j + 1) = H.length + (0 + 1) + j by omega]; exact this
  ·rw [hi i (by simp; omega) (by simp), Zrz hi']
 | s :: σ, e :: es, H, K, hn, h => by
  simp only [mrg] at h
  obtain ⟨hs, h⟩ := Qa8 h
  obtain ⟨hn1, hn2⟩ := Zxz.1 hn
  obtain ⟨H', hK, hlen, hl, hlt, hj, hi⟩ := Qnl f (σ := σ) hn2 h
  rw [List.length_set] at hl hlt hj hi
  refine ⟨H', hK, by simp; omega, by simp at hl ⊢; omega, fun t ht => ?_, fun j e' he => ?_, fun i hi' hni => ?_⟩
  ·cases ht with
   | head => exact hs
   | tail _ ht => exact hlt t ht
  ·cases j with
   | zero =>
    simp at he; subst he
    simp only [rnI]
    rw [hi s hs hn1]; simp [hs]
   | succ j => exact hj j e' (by simpa using he)
  ·simp only [List.mem_cons, not_or] at hni
   rw [hi i hi' hni.2, Zyz (Ne.symm hni.1)]
 | _ :: _, [], _, _, _, h => h.elim
theorem SpecH.at {P : Program} {f : FuncId} {args0 : List AV} {H0 : List Ent} {K0 : Out -> List Ent -> Prop} (h : SpecH P f args0 H0 K0) (σ : List Nat) {args : List AV} {H : List Ent} {K : Out -> List Ent -> Prop}
  (hn : ndB σ = true) (hp : part σ H.length H σ H0) (ha : args = rnS σ H.length args0)
  (hk : ∀ out H', K0 out H' -> mrg (rnE σ H.length) σ H' H fun G => K (rnO σ H.length out) G) : SpecH P f args H K := by
 subst ha
 refine ⟨h.ok, fun ρ S w vs hs hr => ?_⟩
 have nd := Qo7 hn
 obtain ⟨hlen, hget⟩ := Qrx hp
 generalize hN : H.length = N at *
 have hρN : ρ.length = N := by rw [hs.len, hN]
 have hσlt : ∀ (j s : Nat), σ[j]? = some s -> s < N := fun j s hj => by
  have hj2 : j < H0.length := by rw [<- hlen]; exact (Zfz.1 hj).1
  have := hget j s _ hj (Zbz hj2)
  rw [<- hN]; exact (Zfz.1 this).1
 have hρ0 : ∃ ρ0 : List Loc, ρ0.length = σ.length /\ ∀ (j s : Nat), σ[j]? = some s -> ρ0[j]? = ρ[s]? := by
  refine ⟨σ.map fun s => ρ.getD s ⟨0, 0⟩, by simp, fun j s hj => ?_⟩
  have hs' := hσlt j s hj
  rw [List.getElem?_map, hj, Option.map_some, Zlz, Zbz (by omega)]
  rfl
 obtain ⟨ρ0, hρl, hρg⟩ := hρ0
 have hre : ∀ j, ρ[rnI σ N j]? = ρ0[j]? := fun j => by
  by_cases hj : j < σ.length
  ·have hj' := Zbz hj
   rw [Qiv hj', <- hρg j _ hj']
  ·obtain ⟨k, rfl⟩ : ∃ k, j = σ.length + k := ⟨j - σ.length, by omega⟩
   rw [Qm6, List.getElem?_eq_none (by omega), List.getElem?_eq_none (by omega)]
 have hidx : ∀ (j : Nat) (e : Ent), H0[j]? = some e -> ∃ s, σ[j]? = some s /\ rnI σ N j = s /\ H[s]? = some (rnE σ N e) := fun j e he => by
  have hj : j < σ.length := by rw [hlen]; exact (Zfz.1 he).1
  have hj' := Zbz hj
  exact ⟨_, hj', Qiv hj', hget j _ e hj' he⟩
 have hsat0 : Sat ρ0 S H0 w := by
  refine ⟨by omega, fun j e he => ?_, fun i j e f b he hf heb hfb => ?_, fun b hb => ?_, hs.low⟩
  ·obtain ⟨s, _, h2, h3⟩ := hidx j e he
   have := hs.ent s _ h3
   rw [<- h2] at this
   exact (Qxz hre S w j e).1 this
  ·obtain ⟨s, a1, a2, a3⟩ := hidx i e he
   obtain ⟨t, b1, b2, b3⟩ := hidx j f hf
   have e1 : entB ρ s (rnE σ N e) b := by rw [<- a2, Qfu hre]; exact heb
   have e2 : entB ρ t (rnE σ N f) b := by rw [<- b2, Qfu hre]; exact hfb
   have := hs.inj s t _ _ b a3 b3 e1 e2
   subst this
   have hi' : i < σ.length := (Zfz.1 a1).1
   exact (List.getElem?_inj hi' nd).1 (a1.trans b1.symm)
  ·obtain ⟨j, e, he, heb⟩ := hb
   obtain ⟨s, _, h2, h3⟩ := hidx j e he
   exact hs.out b ⟨s, _, h3, by rw [<- h2, Qfu hre]; exact heb⟩
 have hmb0 : ∀ b, mb ρ0 H0 b -> ∃ s ∈ σ, ∃ e, H[s]? = some e /\ entB ρ s e b := fun b ⟨j, e, he, heb⟩ => by
  obtain ⟨s, h1, h2, h3⟩ := hidx j e he
  exact ⟨s, Ziz h1, _, h3, by rw [<- h2, Qfu hre]; exact heb⟩
 refine (h.run ρ0 S w vs hsat0 ((Qqe hre _ _).1 hr)).mono fun e w' ⟨ρ0', S', H0', out, hs', hev, hout, hK⟩ => ?_
 obtain ⟨G, hG, hσl, hGl, _, hGj, hGi⟩ := Qnl (rnE σ N) nd (hk out H0' hK)
 rw [hN] at hGl hGj hGi
 obtain ⟨t, ht⟩ := hev.pre
 have hl' : H0'.length = σ.length + t.length := by rw [<- hs'.len, ht, Zhz, hρl]
 have hre' : ∀ j, (ρ ++ t)[rnI σ N j]? = ρ0'[j]? := fun j => by
  rw [ht]
  by_cases hj : j < σ.length
  ·have hj' := Zbz hj
   have hlt := hσlt j _ hj'
   rw [Qiv hj', Zrz (by omega), Zrz (by omega), <- hρg j _ hj']
  ·obtain ⟨k, rfl⟩ : ∃ k, j = σ.length + k := ⟨j - σ.length, by omega⟩
   rw [Qm6, List.getElem?_append_right (by omega), List.getElem?_append_right (by omega), hρN, hρl]
   congr 1; omega
 have hcase : ∀ (i : Nat) (f : Ent), G[i]? = some f -> (∃ j e, H0'[j]? = some e /\ i = rnI σ N j /\ f = rnE σ N e) \/ (i < N /\ i ∉ σ /\ H[i]? = some f) := fun i f hf => by
  by_cases hi : i < N
  ·by_cases him : i ∈ σ
   ·obtain ⟨j, hj⟩ := List.getElem?_of_mem him
    have hjl : j < H0'.length := by have := (Zfz.1 hj).1; omega
    have he := Zbz hjl
    have h1 := hGj j _ he
    rw [Qiv hj] at h1
    exact .inl ⟨j, _, he, (Qiv hj).symm, Zzz (hf.symm.trans h1)⟩
   ·exact .inr ⟨hi, him, (hGi i hi him) ▸ hf⟩
  ·have hil : i < G.length := (Zfz.1 hf).1
   have hjl : σ.length + (i - N) < H0'.length := by omega
   have he := Zbz hjl
   have h1 := hGj _ _ he
   have hi2 : rnI σ N (σ.length + (i - N)) = i := by rw [Qm6]; omega
   rw [hi2] at h1
   exact .inl ⟨_, _, he, hi2.symm, Zzz (hf.symm.trans h1)⟩
 have houter : ∀ (i : Nat) (f : Ent) (b : Nat), i < N -> i ∉ σ -> H[i]? = some f -> entB (ρ ++ t) i f b -> entB ρ i f b /\ b < w.heap.size /\ ¬ mb ρ0 H0 b := fun i f b hi hni hf hfb => by
  rw [Qdb _ (by omega)] at hfb
  refine ⟨hfb, hs.blk_lt hf hfb, fun hm => ?_⟩
  obtain ⟨s, hsσ, e', he', heb⟩ := hmb0 b hm
  exact hni (hs.inj i s f e' b hf he' hfb heb ▸ hsσ)
 have hnS : ∀ b, S b -> b < w.heap.size /\ ¬ mb ρ0 H0 b := fun b hb => ⟨hs.low b hb, fun hm => hsat0.out b hm hb⟩
 have hmbG : ∀ b, mb (ρ ++ t) G b -> mb ρ H b \/ w.heap.size <= b := fun b ⟨i, f, hf, hfb⟩ => by
  rcases hcase i f hf with ⟨j, e, he, rfl, rfl⟩ | ⟨hi, hni, hf'⟩
  ·rw [Qfu hre'] at hfb
   rcases hev.own b ⟨j, e, he, hfb⟩ with h1 | h1
   ·obtain ⟨s, _, e', he', heb⟩ := hmb0 b h1
    exact .inl ⟨s, e', he', heb⟩
   ·exact .inr h1
  ·exact .inl ⟨i, f, hf', (houter i f b hi hni hf' hfb).1⟩
 refine ⟨ρ ++ t, fun b => S b \/ S' b, G, rnO σ N out, ⟨?_, fun i f hf => ?_, fun i j f g b hf hg hfb hgb => ?_, fun b hb hSb => ?_, fun b hb => ?_⟩,
  ⟨⟨t, rfl⟩, hev.os, hev.tape, hev.output, hev.size, fun b hb hn => hev.keep b hb fun hm => ?_, fun b hb => ?_, hmbG⟩, ?_, hG⟩
 ·rw [Zhz, hρN, hGl]; omega
 ·rcases hcase i f hf with ⟨j, e, he, rfl, rfl⟩ | ⟨hi, hni, hf'⟩
  ·exact ((Qxz hre' S' w' j e).2 (hs'.ent j e he)).grow fun b hb => .inr hb
  ·refine ((hs.ent i f hf').move t (fun b hb => ?_) fun b hb => ?_).grow fun b hb => .inl hb
   ·have := houter i f b hi hni hf' (by rw [Qdb _ (by omega)]; exact hb)
    exact hev.keep b this.2.1 this.2.2
   ·exact hev.keep b (hnS b hb).1 (hnS b hb).2
 ·rcases hcase i f hf with ⟨i', e, he, rfl, rfl⟩ | ⟨hi, hni, hf'⟩ <;> rcases hcase j g hg with ⟨j', e', he', rfl, rfl⟩ | ⟨hj, hnj, hg'⟩
  ·rw [Qfu hre'] at hfb hgb
   rw [hs'.inj i' j' e e' b he he' hfb hgb]
  ·rw [Qfu hre'] at hfb
   have := houter j g b hj hnj hg' hgb
   rcases hev.own b ⟨i', e, he, hfb⟩ with h1 | h1
   ·exact absurd h1 this.2.2
   ·omega
  ·rw [Qfu hre'] at hgb
   have := houter i f b hi hni hf' hfb
   rcases hev.own b ⟨j', e', he', hgb⟩ with h1 | h1
   ·exact absurd h1 this.2.2
   ·omega
  ·exact hs.inj i j f g b hf' hg' (houter i f b hi hni hf' hfb).1 (houter j g b hj hnj hg' hgb).1
 ·obtain ⟨i, f, hf, hfb⟩ := hb
  rcases hcase i f hf with ⟨j, e, he, rfl, rfl⟩ | ⟨hi, hni, hf'⟩
  ·rw [Qfu hre'] at hfb
   rcases hSb with hSb | hSb
   ·rcases hev.own b ⟨j, e, he, hfb⟩ with h1 | h1
    ·exact (hnS b hSb).2 h1
    ·have := (hnS b hSb).1; omega
   ·exact hs'.out b ⟨j, e, he, hfb⟩ hSb
  ·have h1 := houter i f b hi hni hf' hfb
   rcases hSb with hSb | hSb
   ·exact hs.out b ⟨i, f, hf', h1.1⟩ hSb
   ·rcases hev.imm b hSb with h2 | h2 | h2
    ·exact hs.out b ⟨i, f, hf', h1.1⟩ h2
    ·exact h1.2.2 h2
    ·omega
 ·rcases hb with hb | hb
  ·exact Nat.lt_of_lt_of_le (hs.low b hb) hev.size
  ·exact hs'.low b hb
 ·obtain ⟨s, _, e', he', heb⟩ := hmb0 b hm
  exact hn ⟨s, e', he', heb⟩
 ·rcases hb with hb | hb
  ·exact .inl hb
  ·rcases hev.imm b hb with h1 | h1 | h1
   ·exact .inl h1
   ·obtain ⟨s, _, e', he', heb⟩ := hmb0 b h1
    exact .inr (.inl ⟨s, e', he', heb⟩)
   ·exact .inr (.inr h1)
 ·cases out with
  | val a => obtain ⟨v, he, hv⟩ := hout; exact ⟨v, he, (Quf hre' a v).2 hv⟩
  | vals l => obtain ⟨xs, he, hv⟩ := hout; exact ⟨xs, he, (Qqe hre' l xs).2 hv⟩
  | pan c => exact hout
end Go.AX
namespace Go.AX
open Go.RowKit
theorem SpecH.rawP {P : Program} {f : FuncId} {xs : List Value} {H : List Ent} {K : Out -> List Ent -> Prop} {R : Value -> Prop} (ok : Qjl P f)
  (h : ∀ w, Qax H w -> Calls P f xs.toArray w fun e w' => ∃ r, e = .returned r /\ R r /\ Below w.heap.size w w') (hk : ∀ r, R r -> K (.val (.c (.v r))) H) : SpecH P f (pvs xs) H K := by
 refine ⟨ok, fun ρ S w vs hs hr => ?_⟩
 obtain rfl := Qe9 hr
 refine (h w hs.facts).mono fun e w' ⟨r, he, hR, bel⟩ => ?_
 exact ⟨ρ, S, H, .val (.c (.v r)), hs.below bel, by simpa using Qj5 (S := S) (S' := S) (ρ := ρ) (H := H) (H' := H) [] bel (fun b hb => .inl hb) (fun b hb => by simpa using hb), ⟨r, he, rfl⟩, hk r hR⟩
theorem SpecH.rawA {P : Program} {f : FuncId} {xs : List Value} {H : List Ent} {K : Out -> List Ent -> Prop} (ok : Qjl P f) (i : Nat) {T : TypeId} {sz : Nat} {ys : List Value} {b n cap : Nat} (hi : nthE H i = some (.app T sz ys (some ⟨b, 0, none⟩) n cap))
  {R : Value -> Nat -> List Value -> Prop}
  (h : ∀ w : World, RowF T sz n ys b cap w -> b < w.heap.size -> Calls P f xs.toArray w fun e w' => ∃ r n' ys', e = .returned r /\ R r n' ys' /\ RowF T sz n' ys' b cap w' /\ w.heap.size <= w'.heap.size /\
   (∀ k, k < w.heap.size -> k ≠ b -> w'.heap[k]? = w.heap[k]?) /\ w'.os = w.os /\ w'.tape = w.tape /\ w'.output = w.output)
  (hk : ∀ r n' ys', R r n' ys' -> Qd5 H i (.app T sz ys' (some ⟨b, 0, none⟩) n' cap) fun H' => K (.val (.c (.v r))) H') : SpecH P f (pvs xs) H K := by
 rw [Qbp] at hi
 refine ⟨ok, fun ρ S w vs hs hr => ?_⟩
 obtain rfl := Qe9 hr
 have hb : b < w.heap.size := hs.blk_lt hi rfl
 rcases hs.ent i _ hi with ⟨h0, _⟩ | ⟨b', hb', hrow⟩
 ·cases h0
 ·cases hb'
  refine (h w hrow hb).mono fun e w' ⟨r, n', ys', he, hR, hrow', hsz, hkeep, ho, ht, hu⟩ => ?_
  obtain ⟨_, hk⟩ := Qa8 (hk r n' ys' hR)
  have hS := hs.setG (e' := .app T sz ys' (some ⟨b, 0, none⟩) n' cap) hi rfl hsz hkeep ho ht hu (fun c hc => .inl (Zzz hc).symm) (.inr ⟨b, rfl, hrow'⟩)
  exact ⟨ρ, S, _, .val (.c (.v r)), hS.1, hS.2, ⟨r, he, rfl⟩, hk⟩
theorem Qhb {P : Program} {f : FuncId} {fn : Func} (hf : P.funcs[f]? = some fn) (hn : (fn.name == "runtime.NumGoroutine") = false) (hb : fn.body.isSome = true) : Qjl P f := ⟨fn, hf, hn, hb⟩
theorem Qem {P : Program} (hm : P.follows .mixedOrders = true) {f : FuncId} {fn : Func} {c : Code} (hf : P.funcs[f]? = some fn) (hn : (fn.name == "runtime.NumGoroutine") = false) (hb : fn.body = some c)
  {xs : List Value} (hl : Nat.ble (pvs xs).length fn.ntmps = true) {F : World -> Prop} {r : Value} (h : Qhq fn.ntmps (pvs xs) fun s => exec P c s [.fact F] (endK P fn.results.toList fun out _ => out = .val (.c (.v r)))) (H : List Ent) (hF : ∀ w, Qax H w -> F w) : SpecH P f (pvs xs) H (Ret r H) :=
 SpecF.call0 (R := fun v _ => v = r) (Qfs ((Qas hm hf hn hb hl h).mono fun out H' ho => by subst ho; exact Ql0 rfl)) hF fun v G hv => by subst hv; exact ⟨rfl, rfl⟩
theorem QBp {P : Program} (hm : P.follows .mixedOrders = true) {f : FuncId} {fn : Func} {c : Code} (hf : P.funcs[f]? = some fn) (hn : (fn.name == "runtime.NumGoroutine") = false) (hb : fn.body = some c)
  {xs : List Value} (hl : Nat.ble (pvs xs).length fn.ntmps = true) {F : World -> Prop} {R : Value -> Prop} (h : Qhq fn.ntmps (pvs xs) fun s => exec P c s [.fact F] (endK P fn.results.toList fun out _ => ∃ x, out = .val (.c (.v x)) /\ R x)) (H : List Ent) (hF : ∀ w, Qax H w -> F w) : SpecH P f (pvs xs) H (RetR R H) :=
 SpecF.call0 (R := fun v _ => R v) (Qfs ((Qas hm hf hn hb hl h).mono fun out H' ho => by obtain ⟨x, rfl, hx⟩ := ho; exact Ql0 hx)) hF fun v G hv => ⟨v, rfl, hv, rfl⟩
end Go.AX
namespace Go.AX
open Go.ChangeShapes Go.WideShapes Go.ChangeAt Go.RowKit
section
variable {H : Type} {enc : TypeId × Value -> H} {P : Program}
theorem Qhh {w : World} {base : Nat} {sp : Nat -> Bool} {held : Bool} : ∀ {ts : List TypeId} {vs : List Value} {ds : List (DataW H)} {ps : List MemPlace}, DataW.TrodAll enc P w base sp held ts vs ds ps -> ds.length = ts.length /\ vs.length = ts.length
 | [], [], [], _, _ => ⟨rfl, rfl⟩
 | t :: ts, v :: vs, d :: ds, _, ⟨_, _, _, h, _⟩ => by have := Qhh h; simp [this]
 | [], _ :: _, _, _, h => h.elim
 | [], [], _ :: _, _, h => h.elim
 | _ :: _, [], _, _, h => h.elim
 | _ :: _, _ :: _, [], _, h => h.elim
theorem Qjd (hl : laidOutB P = true) {W W' : World} (hb : Below W.heap.size W W') : ∀ {ts : List TypeId} {vs : List Value} {ds : List (DataW H)} {ps : List MemPlace},
  (ts.all fun t => P.readableRec t && decide (t < P.types.size)) = true -> DataW.TrodAll enc P W 0 (fun _ => true) true ts vs ds ps -> DataW.TrodAll enc P W' 0 (fun b => decide (b < W.heap.size)) true ts vs ds ps
 | [], [], [], _, _, h => h
 | t :: ts, v :: vs, d :: ds, _, hp, ⟨p, q, h1, h2, e⟩ => by
  simp only [List.all_cons, ZAz, ZBz] at hp
  have lt : ∀ x ∈ p, x.block < W.heap.size := by obtain ⟨m, hm⟩ := h1; exact DataW.trod_lt m _ _ _ hm
  exact ⟨p, q, Below.trod hl hp.1.1 hp.1.2 h1 hb lt, Qjd hl hb (by simpa using hp.2) h2, e⟩
 | [], _ :: _, _, _, _, h => h.elim
 | [], [], _ :: _, _, _, h => h.elim
 | _ :: _, [], _, _, _, h => h.elim
 | _ :: _, _ :: _, [], _, _, h => h.elim
def Walk (P : Program) (f : FuncId) (args : Array Value) (W : World) : Prop :=
 Calls P f args W fun e W' => e = .returned (.bool true) /\ Below W.heap.size W W'
structure Known (enc : TypeId × Value -> H) (P : Program) (fn : Func) (W : World) (base : Nat) (args : Array Value) (ds : List (DataW H)) (p : List MemPlace) : Prop where
 val : ∀ (j : Nat) t v, fn.params[j]? = some t -> args[j]? = some v -> Value.okWide P W .any base t v
 trod : DataW.TrodAll enc P W 0 (fun _ => true) true fn.params.toList args.toList ds p
 weights : (DataW.weightsEach P fn.params.toList ds).all (· <= reachBytes) = true
 shaped : W.ShapedOpen P
end
end Go.AX
namespace Go.AX
theorem arr2 {α : Type} {a : Array α} (h : a.toList.length = 2) : ∃ x y, a = #[x, y] := by
 match a, h with
 | ⟨[x, y]⟩, _ => exact ⟨x, y, rfl⟩
end Go.AX
namespace Go.AX
open Go.ChangeShapes Go.WideShapes Go.ChangeAt Go.RowKit
theorem cell?_keep {w w' : World} {a : Addr} {x : Value} (h : w.cell? a = some x) (hb : w'.heap[a.block]? = w.heap[a.block]?) : w'.cell? a = some x := by
 simp only [World.cell?] at h ⊢
 rw [hb]; exact h
theorem cell?_lt {w : World} {a : Addr} {x : Value} (h : w.cell? a = some x) : a.block < w.heap.size := by
 simp only [World.cell?] at h
 rcases hc : w.heap[a.block]? with _ | o
 ·rw [hc] at h; cases h
 ·exact (Zjz.1 hc).1
theorem SlAt.imm {w : World} {a : Option Addr} {k : Nat} {xs : List Value} (h : SlAt a k xs w) : Imm (fun b => b < w.heap.size) w (SlAt a k xs) := by
 refine ⟨h, fun w' hw => ⟨h.1, h.2.1, fun j hj => ?_⟩⟩
 have h1 := h.2.2 j hj
 have hj' : j < xs.length := by rw [h.1]; exact hj
 rw [Zbz hj'] at h1 ⊢
 exact cell?_keep h1 (hw _ (cell?_lt h1))
theorem QBe {P : Program} {f : FuncId} {vs : List Value} {w : World} (H : List Ent) (hF : ∀ e ∈ H, ∃ F, e = .fact F /\ Imm (fun b => b < w.heap.size) w F)
  (h : SpecH P f (pvs vs) H (Ret (.bool true) H)) : Walk P f vs.toArray w := by
 have hn : ∀ (ρ : List Loc) (i : Nat) (e : Ent) (b : Nat), H[i]? = some e -> entB ρ i e b -> False := fun ρ i e b he hb => by
  obtain ⟨F, rfl, _⟩ := hF e (Ziz he)
  cases hb
 have hm : ∀ (ρ : List Loc) b, ¬ mb ρ H b := fun ρ b ⟨i, e, he, hb⟩ => hn ρ i e b he hb
 have hs : Sat (H.map fun _ => ⟨0, 0⟩) (fun b => b < w.heap.size) H w := by
  refine ⟨by simp, fun i e he => ?_, fun i j e f b he hf hb _ => (hn _ i e b he hb).elim, fun b hb => (hm _ b hb).elim, fun b hb => hb⟩
  obtain ⟨F, rfl, hi⟩ := hF e (Ziz he)
  exact hi
 refine (h.run _ _ w vs hs (Qgl _ vs)).mono fun e w' ⟨ρ', S', H', out, hs', hev, hout, hx, hH⟩ => ?_
 subst hx
 obtain ⟨v, rfl, hv⟩ := hout
 have : v = .bool true := hv
 subst this
 exact ⟨rfl, hev.os, hev.tape, hev.output, hev.size, fun b hb => hev.keep b hb (hm _ b)⟩
section
variable {H : Type} {enc : TypeId × Value -> H} {P : Program} {w : World}
def SlOk (w : World) (a : Option Addr) (n : Nat) (xs : List Value) : Prop := n <= 200000000000000 /\ (a.isSome = true \/ n = 0) /\ Imm (fun b => b < w.heap.size) w (SlAt a n xs)
theorem Qsz {t e : TypeId} {k : IntKind} {v : Value} {d : DataW H} {ps : List MemPlace} {ts : List TypeId} {ds : List (DataW H)} {j : Nat} (ht : P.underlying t = some (.slice e)) (he : P.underlying e = some (.int k)) (hc : P.cellsOf e = 1) (hb : 1 <= P.bytesOf e)
  (hsz : (DataW.weightsEach P ts ds).all (· <= reachBytes) = true) (hj : ts[j]? = some t) (hd : ds[j]? = some d)
  {r : Reach} {b : Nat} (hv : Value.okWide P w r b t v) (h : DataW.Trod enc P w 0 (fun _ => true) true t v d ps) : ∃ (a : Option Addr) (l : List Int) (cap : Nat), v = .slice a l.length cap /\ SlOk w a l.length (l.map (Value.int k)) /\ l.length <= cap /\ ∀ n ∈ l, (Lit.int k n).wf = true := by
 obtain ⟨a, n, c, rfl⟩ := okWide_slice ht hv
 obtain ⟨fuel, hf⟩ := h
 rcases open_ints ht he hc hf with ⟨h1, h2⟩ | ⟨a, len, cap, zs, h1, _, hl, hm, hlen, h2, h3, h4⟩
 ·refine ⟨none, [], 0, ?_, ⟨by simp, .inr rfl, SlAt.nil.imm⟩, by simp, by simp⟩
  simpa [Value.cells] using h1
 ·simp at hlen
  simp only [Prod.mk.injEq] at h2
  rw [h2.1] at hd
  have hs := sized_slice hsz hj hd ht
  have hr : reachBytes < 200000000000000 := by decide
  have hlz : (zs.take len).length = len := by rw [List.length_take]; omega
  have hb' : len <= reachBytes := by
   have h5 : (lits (H := H) k (zs.take len)).length = len := by simp [lits]; omega
   rw [h5] at hs
   exact Zwz (Zwz (Nat.le_add_right _ _) (Nat.le_mul_of_pos_right _ hb)) hs
  refine ⟨some a, zs.take len, cap, ?_, ⟨by rw [hlz]; omega, .inl rfl, ?_⟩, by rw [hlz]; exact hl, fun n hn => h4 n (List.mem_of_mem_take hn)⟩
  ·rw [hlz]
   simpa [Value.cells] using h1
  ·refine SlAt.imm ⟨by simp, fun _ => rfl, fun j hj => ?_⟩
   rw [hlz] at hj
   have := h3 j (by omega)
   show w.cell? (a.add j) = _
   rw [this, List.getElem?_map, List.getElem?_take_of_lt hj, Zbz (by omega)]
   simp [List.getD, Zbz (show j < zs.length by omega)]
theorem Qkg {base : Nat} {sp : Nat -> Bool} {held : Bool} : ∀ {ts : List TypeId} {vs : List Value} {ds : List (DataW H)} {ps : List MemPlace}, DataW.TrodAll enc P w base sp held ts vs ds ps ->
  ∀ (j : Nat) t v, ts[j]? = some t -> vs[j]? = some v -> ∃ d p, ds[j]? = some d /\ DataW.Trod enc P w base sp held t v d p
 | [], [], [], _, _, j, t, v, h, _ => by simp at h
 | t :: ts, v :: vs, d :: ds, _, ⟨p, _, h1, h, _⟩, 0, t', v', ht, hv => by
  simp only [List.getElem?_cons_zero, Option.some.injEq] at ht hv
  subst ht; subst hv
  exact ⟨d, p, rfl, h1⟩
 | t :: ts, v :: vs, d :: ds, _, ⟨_, _, _, h, _⟩, j + 1, t', v', ht, hv => by
  simp only [List.getElem?_cons_succ] at ht hv ⊢
  exact Qkg h j t' v' ht hv
 | [], _ :: _, _, _, h, _, _, _, _, _ => h.elim
 | [], [], _ :: _, _, h, _, _, _, _, _ => h.elim
 | _ :: _, [], _, _, h, _, _, _, _, _ => h.elim
 | _ :: _, _ :: _, [], _, h, _, _, _, _, _ => h.elim
variable {fn : Func} {base : Nat} {args : Array Value} {ds : List (DataW H)} {p : List MemPlace}
structure Known0 (enc : TypeId × Value -> H) (P : Program) (fn : Func) (W : World) (base : Nat) (args : Array Value) (ds : List (DataW H)) (p : List MemPlace) : Prop where
 val : ∀ (j : Nat) t v, fn.params[j]? = some t -> args[j]? = some v -> Value.okWide P W .any base t v
 trod : DataW.TrodAll enc P W 0 (fun _ => true) true fn.params.toList args.toList ds p
 weights : (DataW.weightsEach P fn.params.toList ds).all (· <= reachBytes) = true
theorem Known.low (k : Known enc P fn w base args ds p) : Known0 enc P fn w base args ds p := ⟨k.val, k.trod, k.weights⟩
theorem Known0.int (k : Known0 enc P fn w base args ds p) (j : Nat) {t : TypeId} {v : Value} {i : IntKind} (hj : fn.params[j]? = some t) (hv : args[j]? = some v) (ht : P.underlying t = some (.int i)) : ∃ n, v = .int i n := okWide_int ht (k.val j t v hj hv)
theorem Known0.ints (k : Known0 enc P fn w base args ds p) (j : Nat) {t e : TypeId} {v : Value} {i : IntKind} (hj : fn.params[j]? = some t) (hv : args[j]? = some v) (ht : P.underlying t = some (.slice e)) (he : P.underlying e = some (.int i)) (hc : P.cellsOf e = 1) (hb : 1 <= P.bytesOf e) :
  ∃ (a : Option Addr) (l : List Int) (cap : Nat), v = .slice a l.length cap /\ SlOk w a l.length (l.map (Value.int i)) /\ l.length <= cap /\ ∀ n ∈ l, (Lit.int i n).wf = true := by
 obtain ⟨d, q, hd, h⟩ := Qkg k.trod j t v (by simpa using hj) (by simpa using hv)
 exact Qsz ht he hc hb k.weights (by simpa using hj) hd (k.val j t v hj hv) h
end
end Go.AX
namespace Go.AX
open Go.ChangeShapes Go.WideShapes Go.ChangeAt Go.RowKit
section
variable {H : Type} {enc : TypeId × Value -> H}
end
end Go.AX
namespace Go.AX
open Go.RowKit
theorem ReadW.val {P : Program} {o : Oper} {s : List AV} {H : List Ent} {K : AV -> Prop} (x : Value) (hsel : ∀ cs b, o.op ≠ .select cs b) (hp : Qar s o.op.operands.toList = true)
  (ok : ∀ w, Qax H w -> (execOp (Qat s) o).run P w = .ok (.value x) w) (hk : K (.c (.v x))) : ReadW P o s H K :=
 ⟨_, hk, fun ρ S w a hs hr => ⟨x, by rw [execOp_congr o hsel (ρ' := Qat s) fun x hx => Qby hr _ hp x (Array.mem_toList_iff.2 hx)]; exact ok w hs.facts, rfl⟩⟩
theorem Qbc {s : List AV} {x : Operand} {v : Value} (h : opv s x = .c (.v v)) : Qat s x = v := by simp [Qat, h]
theorem Qeh {P : Program} {o : Oper} {ev : Operand -> Value} {t : TypeId} {x : Operand} {lo hi mx : Option Operand} {r : Value} {w : World} (ho : o.op = .slice t x lo hi mx)
  (h : (Instr.sliceAt t (ev x) (lo.map ev) (hi.map ev) (mx.map ev)).run P w = .ok r w) : (execOp ev o).run P w = .ok (.value r) w := by
 unfold execOp; simp only [ho, Sem.run_bind, h, ZCz, Sem.run_pure]
theorem Qhk {P : Program} (w : World) (t : TypeId) (s : ByteArray) (ht : P.underlying t = some .string) (kl kh : IntKind) (l h : Int) (h0 : 0 <= l) (h1 : l <= h) (h2 : h <= s.size) :
  (Instr.slice t (.string s) (some (.int kl l)) (some (.int kh h)) none).run P w = .ok (.string (s.extract l.toNat h.toNat)) w := by
 have eh : (h.toNat : Int) = h := Int.toNat_of_nonneg (by omega)
 simp [Instr.slice, run_underlying ht, Instr.sliceBounds, run_sliceBound, *, (by omega : 0 <= h)]
section
variable {P : Program} {o : Oper} {s : List AV} {H : List Ent} {K : AV -> Prop} {t : TypeId} {x y z : Operand} {b : ByteArray} {k k' : IntKind} {i j : Int}
theorem ReadW.str_lh (ho : o.op = .slice t x (some y) (some z) none) (hu : P.underlying t = some .string) (hx : opv s x = .c (.v (.string b))) (hy : opv s y = .c (.v (.int k i))) (hz : opv s z = .c (.v (.int k' j)))
  (h : 0 <= i /\ i <= j /\ j <= b.size) (hk : K (.c (.v (.string (b.extract i.toNat j.toNat))))) : ReadW P o s H K :=
 ReadW.val _ (fun cs b e => by rw [ho] at e; cases e) (by rw [ho]; show Qar s [x, y, z] = true; simp [Qar, hx, hy, hz])
  (fun w _ => Qeh ho (by simp only [Option.map, Qbc hx, Qbc hy, Qbc hz]; rw [run_sliceAt_string w t _ _ _ _ hu, Qhk w t b hu k k' i j h.1 h.2.1 h.2.2])) hk
theorem ReadW.str_l (ho : o.op = .slice t x (some y) none none) (hu : P.underlying t = some .string) (hx : opv s x = .c (.v (.string b))) (hy : opv s y = .c (.v (.int k i)))
  (h : 0 <= i /\ i <= b.size) (hk : K (.c (.v (.string (b.extract i.toNat b.size))))) : ReadW P o s H K :=
 ReadW.val _ (fun cs b e => by rw [ho] at e; cases e) (by rw [ho]; show Qar s [x, y] = true; simp [Qar, hx, hy])
  (fun w _ => Qeh ho (by simp only [Option.map, Qbc hx, Qbc hy]; rw [run_sliceAt_string w t _ _ _ _ hu, run_slice_string_l w t b hu k i h.1 h.2])) hk
theorem ReadW.str_h (ho : o.op = .slice t x none (some z) none) (hu : P.underlying t = some .string) (hx : opv s x = .c (.v (.string b))) (hz : opv s z = .c (.v (.int k j)))
  (h : 0 <= j /\ j <= b.size) (hk : K (.c (.v (.string (b.extract 0 j.toNat))))) : ReadW P o s H K :=
 ReadW.val _ (fun cs b e => by rw [ho] at e; cases e) (by rw [ho]; show Qar s [x, z] = true; simp [Qar, hx, hz])
  (fun w _ => Qeh ho (by simp only [Option.map, Qbc hx, Qbc hz]; rw [run_sliceAt_string w t _ _ _ _ hu, run_slice_string_h w t b hu k j h.1 h.2])) hk
end
def u8s (l : List UInt8) : List Value := l.map fun b => .int .u8 (b.toNat : Int)
theorem ReadW.bytes {P : Program} {o : Oper} {s : List AV} {H : List Ent} {K : AV -> Prop} {src dst e : TypeId} {x : Operand} {a : Option Addr} {cap n : Nat} (l : List UInt8) (hn : l.length = n) (ho : o.op = .convert src dst x) (hs : P.underlying src = some (.slice e))
  (he : P.underlying e = some (.int .u8)) (hd : P.underlying dst = some .string) (hx : opv s x = .c (.v (.slice a n cap))) (hF : ∀ w, Qax H w -> SlAt a n (u8s l) w) (hk : K (.c (.v (.string ⟨l.toArray⟩)))) : ReadW P o s H K := by
 subst hn
 exact ReadW.val _ (fun cs b e => by rw [ho] at e; cases e) (by rw [ho]; show Qar s [x] = true; simp [Qar, hx])
  (fun w hw => by
   unfold execOp
   have hS := hF w hw
   have hrun : (convert src dst (.slice a l.length cap)).run P w = .ok (.string ⟨l.toArray⟩) w := by
    cases a with
    | some a =>
     refine run_convert_bytes_back w src dst e a cap l hs he hd ?_
     intro j hj
     have := hS.2.2 j hj
     simpa [u8s, hj] using this
    | none =>
     have hl : l = [] := by
      cases l with
      | nil => rfl
      | cons c l => exact absurd (hS.2.1 (by simp)) (by simp)
     subst hl
     have := run_convert_bytes_string w src dst e none 0 cap hs he hd
     simp [this, Conv.bytesToString]
     rfl
   simp only [ho, Qbc hx, Sem.run_bind, hrun, ZCz, Sem.run_pure]) hk
theorem EffW.app {P : Program} {o : Oper} {s : List AV} {H : List Ent} {K : AV -> List Ent -> Prop} {Ty T : TypeId} {x y : Operand} {sz n cap b q i : Nat} {xs ys : List Value} {inf : TypeInfo} (ho : o.op = .store Ty x y)
  (hx : opv s x = .c (.v (.pointer (some ⟨b, q, none⟩)))) (hi : nthE H i = some (.app T sz xs (some ⟨b, 0, none⟩) n cap)) (hy : Qdz (opv s y) = some (vs ys)) (hone : Qk0 (vs ys) = true) (hinf : P.info? Ty = some inf) (hlen : ys.length = inf.size)
  (hq : q + ys.length <= n * sz) (hk : Qd5 H i (.app T sz (xs.take q ++ ys ++ xs.drop (q + ys.length)) (some ⟨b, 0, none⟩) n cap) fun H' => K (.c .any) H') : EffW P o s H K := by
 rw [Qbp] at hi
 obtain ⟨_, hk⟩ := Qa8 hk
 refine Effs.w (fun ρ S w a hs hr => ?_) hk
 have hxr : a.eval x = .pointer (some ⟨b, q, none⟩) := by have := Qah hr x; rw [hx] at this; exact this
 have hyr := Qd9 hy (Qah hr y)
 have hys : (a.eval y).cells.toList = ys := by
  have : ∀ (l : List Value) (m : List Value), RelL ρ (vs l) m -> m = l := by
   intro l
   induction l with
   | nil => intro m h; cases m with
    | nil => rfl
    | cons _ _ => exact h.elim
   | cons v l ih => intro m h; cases m with
    | nil => exact h.elim
    | cons u m => rw [show u = v from h.1, ih m h.2]
  exact this _ _ hyr
 rcases hs.ent i _ hi with ⟨h0, _⟩ | ⟨b', hb', arr, fr, ⟨hb, hfr⟩, hxl, hnc, hcm, hasz, htk⟩
 ·cases h0
 cases hb'
 have hnl : n * sz <= arr.size := by rw [hasz]; exact Nat.mul_le_mul_right _ hnc
 have hsz : (a.eval y).cells.size = inf.size := by rw [<- hlen, <- hys]; simp
 have hfit : q + (a.eval y).cells.toList.length <= arr.size := by rw [hys]; omega
 have hrun := Qje (P := P) hb hfr hinf hsz hfit (Qh8 hone hyr)
 obtain ⟨f1, f2, f3, f4, f5⟩ := Qef w b (arr.toList.take q ++ (a.eval y).cells.toList ++ arr.toList.drop (q + (a.eval y).cells.toList.length)).toArray
 have hE : EntOk ρ S (w.setRow b (arr.toList.take q ++ (a.eval y).cells.toList ++ arr.toList.drop (q + (a.eval y).cells.toList.length)).toArray) i (.app T sz (xs.take q ++ ys ++ xs.drop (q + ys.length)) (some ⟨b, 0, none⟩) n cap) := by
  have e0 : (arr.toList.take q ++ (a.eval y).cells.toList ++ arr.toList.drop (q + (a.eval y).cells.toList.length)).toArray.size = arr.size := by rw [hys]; simp; omega
  refine .inr ⟨b, rfl, _, fr, ⟨setRow_heap w b arr _ T _ hb, by rw [e0]; exact hfr⟩, ?_, hnc, hcm, ?_, ?_⟩
  ·simp; omega
  ·rw [hys]; simp; omega
  ·rw [hys]
   have e : (arr.toList.take q ++ ys ++ arr.toList.drop (q + ys.length)).toArray.toList.take (n * sz) = (arr.toList.take (n * sz)).take q ++ ys ++ (arr.toList.take (n * sz)).drop (q + ys.length) := by
    apply List.ext_getElem?
    intro j
    simp only [List.getElem?_take, List.getElem?_append, List.getElem?_drop, Zhz, List.length_take, Array.length_toList]
    by_cases h1 : j < q
    ·have : min q arr.size = q := by omega
     have h2 : min q (min (n * sz) arr.size) = q := by omega
     simp [this, h2, h1, show j < q + ys.length by omega, show j < n * sz by omega]
    ·have : min q arr.size = q := by omega
     have h2 : min q (min (n * sz) arr.size) = q := by omega
     by_cases h3 : j < q + ys.length
     ·simp [this, h2, h1, h3, show j < n * sz by omega]
     ·simp only [this, h2, h1, h3, if_false]
      by_cases h4 : j < n * sz
      ·simp [h4, show q + ys.length + (j - (q + ys.length)) = j by omega]
      ·simp [h4]; omega
   rw [e, htk]
 have hS := hs.setG (e' := .app T sz (xs.take q ++ ys ++ xs.drop (q + ys.length)) (some ⟨b, 0, none⟩) n cap) hi rfl (Nat.le_of_eq f1.symm) (fun k _ hne => f2 k hne) f3 f4 f5 (fun c hc => .inl (Zzz hc).symm) hE
 refine ⟨.skip, undef, ρ, _, ?_, .inr ⟨rfl, rfl⟩, hS.1, hS.2, trivial⟩
 unfold execOp
 simp only [ho, hxr, Instr.storeAt, Instr.sureAddr, Sem.run_bind, Sem.run_pure, ZCz, hrun]
end Go.AX
namespace Go.AX
structure WQ (q : Prop) : Prop where
 out : q
theorem wX {p q : Prop} (h : q) (e : WQ q -> p := by intro hq; (((conv => whnf); (repeat ((first | refine BoxN.own ?_ | refine RwN.own ?_ | refine VrN.norm (Qaf (by omega)) ?_ | refine VrN.keep ?_ | refine DrawN.calm (by decide +kernel) ?_ | refine Nd.mk (by decide +kernel) ?_ | refine Nd.mk (by omega) ?_ | (refine Nd.mk ?_ ?_; focus ((repeat' (first | exact trivial | exact Qaa _ | refine And.intro ?_ ?_)); done)) | refine RdN.intro _ rfl (by rfl) ?_); (conv => whnf))))); exact hq.out) : p := e ⟨h⟩
theorem wZ {p : Prop} (e : p := by ((conv => whnf); (repeat ((first | refine BoxN.own ?_ | refine RwN.own ?_ | refine VrN.norm (Qaf (by omega)) ?_ | refine VrN.keep ?_ | refine DrawN.calm (by decide +kernel) ?_ | refine Nd.mk (by decide +kernel) ?_ | refine Nd.mk (by omega) ?_ | (refine Nd.mk ?_ ?_; focus ((repeat' (first | exact trivial | exact Qaa _ | refine And.intro ?_ ?_)); done)) | refine RdN.intro _ rfl (by rfl) ?_); (conv => whnf))))) : p := e
theorem wXB {p q : Prop} (h : q) (e : WQ q -> p := by intro hq; (((conv => whnf); (repeat ((first | refine RwN.own ?_ | refine VrN.norm (Qaf (by omega)) ?_ | refine VrN.keep ?_ | refine DrawN.calm (by decide +kernel) ?_ | refine Nd.mk (by decide +kernel) ?_ | refine Nd.mk (by omega) ?_ | (refine Nd.mk ?_ ?_; focus ((repeat' (first | exact trivial | exact Qaa _ | refine And.intro ?_ ?_)); done)) | refine RdN.intro _ rfl (by rfl) ?_); (conv => whnf))))); exact hq.out) : p := e ⟨h⟩
theorem wZB {p : Prop} (e : p := by ((conv => whnf); (repeat ((first | refine RwN.own ?_ | refine VrN.norm (Qaf (by omega)) ?_ | refine VrN.keep ?_ | refine DrawN.calm (by decide +kernel) ?_ | refine Nd.mk (by decide +kernel) ?_ | refine Nd.mk (by omega) ?_ | (refine Nd.mk ?_ ?_; focus ((repeat' (first | exact trivial | exact Qaa _ | refine And.intro ?_ ?_)); done)) | refine RdN.intro _ rfl (by rfl) ?_); (conv => whnf))))) : p := e
theorem wXD {p q : Prop} (h : q) (e : WQ q -> p := by intro hq; (((conv => whnf); (repeat ((first | refine BoxN.own ?_ | refine RwN.own ?_ | refine VrN.norm (Qaf (by omega)) ?_ | refine VrN.keep ?_ | refine Nd.mk (by decide +kernel) ?_ | refine Nd.mk (by omega) ?_ | (refine Nd.mk ?_ ?_; focus ((repeat' (first | exact trivial | exact Qaa _ | refine And.intro ?_ ?_)); done)) | refine RdN.intro _ rfl (by rfl) ?_); (conv => whnf))))); exact hq.out) : p := e ⟨h⟩
theorem wZD {p : Prop} (e : p := by ((conv => whnf); (repeat ((first | refine BoxN.own ?_ | refine RwN.own ?_ | refine VrN.norm (Qaf (by omega)) ?_ | refine VrN.keep ?_ | refine Nd.mk (by decide +kernel) ?_ | refine Nd.mk (by omega) ?_ | (refine Nd.mk ?_ ?_; focus ((repeat' (first | exact trivial | exact Qaa _ | refine And.intro ?_ ?_)); done)) | refine RdN.intro _ rfl (by rfl) ?_); (conv => whnf))))) : p := e
theorem wXE {p q : Prop} (h : q) (e : WQ q -> p := by intro hq; (((conv => whnf); (repeat ((first | refine LdN.one (a := some ⟨_, 0, none⟩) (q := 0) (xs := [_, _, _, _, _]) _ rfl (fun w hw => hw.2.1) rfl ?_ | refine LdN.one (a := some ⟨_, 0, none⟩) (q := 1) (xs := [_, _, _, _, _]) _ rfl (fun w hw => hw.2.1) rfl ?_ | refine LdN.one (a := some ⟨_, 0, none⟩) (q := 2) (xs := [_, _, _, _, _]) _ rfl (fun w hw => hw.2.1) rfl ?_ | refine LdN.one (a := some ⟨_, 0, none⟩) (q := 3) (xs := [_, _, _, _, _]) _ rfl (fun w hw => hw.2.1) rfl ?_ | refine LdN.one (a := some ⟨_, 0, none⟩) (q := 4) (xs := [_, _, _, _, _]) _ rfl (fun w hw => hw.2.1) rfl ?_ | refine RwN.own ?_ | refine VrN.norm (Qaf (by omega)) ?_ | refine VrN.keep ?_ | refine DrawN.calm (by decide +kernel) ?_ | refine Nd.mk (by decide +kernel) ?_ | refine Nd.mk (by omega) ?_ | (refine Nd.mk ?_ ?_; focus ((repeat' (first | exact trivial | exact Qaa _ | refine And.intro ?_ ?_)); done)) | refine RdN.intro _ rfl (by rfl) ?_); (conv => whnf))))); exact hq.out) : p := e ⟨h⟩
theorem wZE {p : Prop} (e : p := by ((conv => whnf); (repeat ((first | refine LdN.one (a := some ⟨_, 0, none⟩) (q := 0) (xs := [_, _, _, _, _]) _ rfl (fun w hw => hw.2.1) rfl ?_ | refine LdN.one (a := some ⟨_, 0, none⟩) (q := 1) (xs := [_, _, _, _, _]) _ rfl (fun w hw => hw.2.1) rfl ?_ | refine LdN.one (a := some ⟨_, 0, none⟩) (q := 2) (xs := [_, _, _, _, _]) _ rfl (fun w hw => hw.2.1) rfl ?_ | refine LdN.one (a := some ⟨_, 0, none⟩) (q := 3) (xs := [_, _, _, _, _]) _ rfl (fun w hw => hw.2.1) rfl ?_ | refine LdN.one (a := some ⟨_, 0, none⟩) (q := 4) (xs := [_, _, _, _, _]) _ rfl (fun w hw => hw.2.1) rfl ?_ | refine RwN.own ?_ | refine VrN.norm (Qaf (by omega)) ?_ | refine VrN.keep ?_ | refine DrawN.calm (by decide +kernel) ?_ | refine Nd.mk (by decide +kernel) ?_ | refine Nd.mk (by omega) ?_ | (refine Nd.mk ?_ ?_; focus ((repeat' (first | exact trivial | exact Qaa _ | refine And.intro ?_ ?_)); done)) | refine RdN.intro _ rfl (by rfl) ?_); (conv => whnf))))) : p := e
theorem wXF {p q : Prop} (h : q) (e : WQ q -> p := by intro hq; (((conv => whnf); (repeat ((first | refine LdN.one (a := some ⟨_, 0, none⟩) (q := 0) (xs := [_, _, _, _, _]) _ rfl (fun w hw => hw.2.2.2.1) rfl ?_ | refine LdN.one (a := some ⟨_, 0, none⟩) (q := 1) (xs := [_, _, _, _, _]) _ rfl (fun w hw => hw.2.2.2.1) rfl ?_ | refine LdN.one (a := some ⟨_, 0, none⟩) (q := 2) (xs := [_, _, _, _, _]) _ rfl (fun w hw => hw.2.2.2.1) rfl ?_ | refine LdN.one (a := some ⟨_, 0, none⟩) (q := 3) (xs := [_, _, _, _, _]) _ rfl (fun w hw => hw.2.2.2.1) rfl ?_ | refine LdN.one (a := some ⟨_, 0, none⟩) (q := 4) (xs := [_, _, _, _, _]) _ rfl (fun w hw => hw.2.2.2.1) rfl ?_ | refine RwN.own ?_ | refine VrN.norm (Qaf (by omega)) ?_ | refine VrN.keep ?_ | refine Nd.mk (by decide +kernel) ?_ | refine Nd.mk (by omega) ?_ | (refine Nd.mk ?_ ?_; focus ((repeat' (first | exact trivial | exact Qaa _ | refine And.intro ?_ ?_)); done)) | refine RdN.intro _ rfl (by rfl) ?_); (conv => whnf))))); exact hq.out) : p := e ⟨h⟩
theorem wZF {p : Prop} (e : p := by ((conv => whnf); (repeat ((first | refine LdN.one (a := some ⟨_, 0, none⟩) (q := 0) (xs := [_, _, _, _, _]) _ rfl (fun w hw => hw.2.2.2.1) rfl ?_ | refine LdN.one (a := some ⟨_, 0, none⟩) (q := 1) (xs := [_, _, _, _, _]) _ rfl (fun w hw => hw.2.2.2.1) rfl ?_ | refine LdN.one (a := some ⟨_, 0, none⟩) (q := 2) (xs := [_, _, _, _, _]) _ rfl (fun w hw => hw.2.2.2.1) rfl ?_ | refine LdN.one (a := some ⟨_, 0, none⟩) (q := 3) (xs := [_, _, _, _, _]) _ rfl (fun w hw => hw.2.2.2.1) rfl ?_ | refine LdN.one (a := some ⟨_, 0, none⟩) (q := 4) (xs := [_, _, _, _, _]) _ rfl (fun w hw => hw.2.2.2.1) rfl ?_ | refine RwN.own ?_ | refine VrN.norm (Qaf (by omega)) ?_ | refine VrN.keep ?_ | refine Nd.mk (by decide +kernel) ?_ | refine Nd.mk (by omega) ?_ | (refine Nd.mk ?_ ?_; focus ((repeat' (first | exact trivial | exact Qaa _ | refine And.intro ?_ ?_)); done)) | refine RdN.intro _ rfl (by rfl) ?_); (conv => whnf))))) : p := e
theorem wXR {p q : Prop} (h : q) (e : WQ q -> p := by intro hq; (((conv => whnf); (repeat ((first | refine BoxN.own ?_ | refine VrN.norm (Qaf (by omega)) ?_ | refine VrN.keep ?_ | refine DrawN.calm (by decide +kernel) ?_ | refine Nd.mk (by decide +kernel) ?_ | refine Nd.mk (by omega) ?_ | (refine Nd.mk ?_ ?_; focus ((repeat' (first | exact trivial | exact Qaa _ | refine And.intro ?_ ?_)); done)) | refine RdN.intro _ rfl (by rfl) ?_); (conv => whnf))))); exact hq.out) : p := e ⟨h⟩
theorem wZR {p : Prop} (e : p := by ((conv => whnf); (repeat ((first | refine BoxN.own ?_ | refine VrN.norm (Qaf (by omega)) ?_ | refine VrN.keep ?_ | refine DrawN.calm (by decide +kernel) ?_ | refine Nd.mk (by decide +kernel) ?_ | refine Nd.mk (by omega) ?_ | (refine Nd.mk ?_ ?_; focus ((repeat' (first | exact trivial | exact Qaa _ | refine And.intro ?_ ?_)); done)) | refine RdN.intro _ rfl (by rfl) ?_); (conv => whnf))))) : p := e
theorem wXK {p q : Prop} (h : q) (e : WQ q -> p := by intro hq; (((conv => whnf); (repeat ((first | refine VrN.norm (Qaf (by omega)) ?_ | refine VrN.keep ?_ | refine DrawN.calm (by decide +kernel) ?_ | refine Nd.mk (by decide +kernel) ?_ | refine Nd.mk (by omega) ?_ | (refine Nd.mk ?_ ?_; focus ((repeat' (first | exact trivial | exact Qaa _ | refine And.intro ?_ ?_)); done)) | refine RdN.intro _ rfl (by rfl) ?_); (conv => whnf))))); exact hq.out) : p := e ⟨h⟩
theorem wZK {p : Prop} (e : p := by ((conv => whnf); (repeat ((first | refine VrN.norm (Qaf (by omega)) ?_ | refine VrN.keep ?_ | refine DrawN.calm (by decide +kernel) ?_ | refine Nd.mk (by decide +kernel) ?_ | refine Nd.mk (by omega) ?_ | (refine Nd.mk ?_ ?_; focus ((repeat' (first | exact trivial | exact Qaa _ | refine And.intro ?_ ?_)); done)) | refine RdN.intro _ rfl (by rfl) ?_); (conv => whnf))))) : p := e
theorem wXS {p q : Prop} (h : q) (e : WQ q -> p := by intro hq; (((conv => whnf); (repeat ((first | refine SeqN.plain ?_ | refine BoxN.own ?_ | refine RwN.own ?_ | refine VrN.norm (Qaf (by omega)) ?_ | refine VrN.keep ?_ | refine DrawN.calm (by decide +kernel) ?_ | refine Nd.mk (by decide +kernel) ?_ | refine Nd.mk (by omega) ?_ | (refine Nd.mk ?_ ?_; focus ((repeat' (first | exact trivial | exact Qaa _ | refine And.intro ?_ ?_)); done)) | refine RdN.intro _ rfl (by rfl) ?_); (conv => whnf))))); exact hq.out) : p := e ⟨h⟩
theorem wZS {p : Prop} (e : p := by ((conv => whnf); (repeat ((first | refine SeqN.plain ?_ | refine BoxN.own ?_ | refine RwN.own ?_ | refine VrN.norm (Qaf (by omega)) ?_ | refine VrN.keep ?_ | refine DrawN.calm (by decide +kernel) ?_ | refine Nd.mk (by decide +kernel) ?_ | refine Nd.mk (by omega) ?_ | (refine Nd.mk ?_ ?_; focus ((repeat' (first | exact trivial | exact Qaa _ | refine And.intro ?_ ?_)); done)) | refine RdN.intro _ rfl (by rfl) ?_); (conv => whnf))))) : p := e
theorem wXP {p q : Prop} (h : q) (e : WQ q -> p := by intro hq; (((conv => whnf); (repeat ((first | refine Nd.mk (fun w hw => hw.1.1) ?_ | refine Nd.mk (fun w hw => hw.1) ?_ | refine Nd.mk (fun w hw => hw.2.1) ?_ | refine Nd.mk (fun w hw => hw.2.2.1) ?_ | refine Nd.mk (fun w hw => hw.2.2.2.1) ?_ | refine Nd.mk (fun w hw => hw.2.2.2.2.1) ?_ | refine Nd.mk (fun w hw => hw.2.2.2.2.2.1) ?_ | refine Nd.mk (fun w hw => hw.2.2.2.2.2.2.1) ?_ | refine Nd.mk (fun w hw => hw.2.2.2.2.2.2.2.1) ?_ | refine Nd.mk (fun w hw => hw.2.2.2.2.2.2.2.2.1) ?_ | refine Nd.mk (fun w hw => hw.2.2.2.2.2.2.2.2.2.1) ?_ | refine Nd.mk (fun w hw => ⟨hw.1, hw.2.1⟩) ?_ | refine Nd.mk (fun w hw => hw.1.cell rfl) ?_ | refine VrN.norm (Qaf (by omega)) ?_ | refine VrN.keep ?_ | refine Nd.mk (by decide +kernel) ?_ | refine Nd.mk (by omega) ?_ | refine RdN.intro _ rfl (by rfl) ?_); (conv => whnf))))); exact hq.out) : p := e ⟨h⟩
theorem wZP {p : Prop} (e : p := by ((conv => whnf); (repeat ((first | refine Nd.mk (fun w hw => hw.1.1) ?_ | refine Nd.mk (fun w hw => hw.1) ?_ | refine Nd.mk (fun w hw => hw.2.1) ?_ | refine Nd.mk (fun w hw => hw.2.2.1) ?_ | refine Nd.mk (fun w hw => hw.2.2.2.1) ?_ | refine Nd.mk (fun w hw => hw.2.2.2.2.1) ?_ | refine Nd.mk (fun w hw => hw.2.2.2.2.2.1) ?_ | refine Nd.mk (fun w hw => hw.2.2.2.2.2.2.1) ?_ | refine Nd.mk (fun w hw => hw.2.2.2.2.2.2.2.1) ?_ | refine Nd.mk (fun w hw => hw.2.2.2.2.2.2.2.2.1) ?_ | refine Nd.mk (fun w hw => hw.2.2.2.2.2.2.2.2.2.1) ?_ | refine Nd.mk (fun w hw => ⟨hw.1, hw.2.1⟩) ?_ | refine Nd.mk (fun w hw => hw.1.cell rfl) ?_ | refine VrN.norm (Qaf (by omega)) ?_ | refine VrN.keep ?_ | refine Nd.mk (by decide +kernel) ?_ | refine Nd.mk (by omega) ?_ | refine RdN.intro _ rfl (by rfl) ?_); (conv => whnf))))) : p := e
theorem wXO {p q : Prop} (h : q) (e : WQ q -> p := by intro hq; (((conv => whnf); (repeat ((first | refine Nd.mk (fun w hw => hw.1.1) ?_ | refine Nd.mk (fun w hw => hw.1) ?_ | refine Nd.mk (fun w hw => hw.2.1) ?_ | refine Nd.mk (fun w hw => hw.2.2.1) ?_ | refine Nd.mk (fun w hw => hw.2.2.2.1) ?_ | refine Nd.mk (fun w hw => hw.2.2.2.2.1) ?_ | refine Nd.mk (fun w hw => hw.2.2.2.2.2.1) ?_ | refine Nd.mk (fun w hw => hw.2.2.2.2.2.2.1) ?_ | refine Nd.mk (fun w hw => hw.2.2.2.2.2.2.2.1) ?_ | refine Nd.mk (fun w hw => hw.2.2.2.2.2.2.2.2.1) ?_ | refine Nd.mk (fun w hw => hw.2.2.2.2.2.2.2.2.2.1) ?_ | refine Nd.mk (fun w hw => ⟨hw.1, hw.2.1⟩) ?_ | refine Nd.mk (fun w hw => hw.1.cell rfl) ?_ | refine ReadC.nil rfl rfl ?_ | refine RwN.own ?_ | refine VrN.norm (Qaf (by omega)) ?_ | refine VrN.keep ?_ | refine Nd.mk (by decide +kernel) ?_ | refine Nd.mk (by omega) ?_ | refine RdN.intro _ rfl (by rfl) ?_); (conv => whnf))))); exact hq.out) : p := e ⟨h⟩
theorem wZO {p : Prop} (e : p := by ((conv => whnf); (repeat ((first | refine Nd.mk (fun w hw => hw.1.1) ?_ | refine Nd.mk (fun w hw => hw.1) ?_ | refine Nd.mk (fun w hw => hw.2.1) ?_ | refine Nd.mk (fun w hw => hw.2.2.1) ?_ | refine Nd.mk (fun w hw => hw.2.2.2.1) ?_ | refine Nd.mk (fun w hw => hw.2.2.2.2.1) ?_ | refine Nd.mk (fun w hw => hw.2.2.2.2.2.1) ?_ | refine Nd.mk (fun w hw => hw.2.2.2.2.2.2.1) ?_ | refine Nd.mk (fun w hw => hw.2.2.2.2.2.2.2.1) ?_ | refine Nd.mk (fun w hw => hw.2.2.2.2.2.2.2.2.1) ?_ | refine Nd.mk (fun w hw => hw.2.2.2.2.2.2.2.2.2.1) ?_ | refine Nd.mk (fun w hw => ⟨hw.1, hw.2.1⟩) ?_ | refine Nd.mk (fun w hw => hw.1.cell rfl) ?_ | refine ReadC.nil rfl rfl ?_ | refine RwN.own ?_ | refine VrN.norm (Qaf (by omega)) ?_ | refine VrN.keep ?_ | refine Nd.mk (by decide +kernel) ?_ | refine Nd.mk (by omega) ?_ | refine RdN.intro _ rfl (by rfl) ?_); (conv => whnf))))) : p := e
theorem wKK {p : Prop} (e : p := by ((repeat' (first | exact trivial | refine And.intro (by with_reducible rfl) ?_ | (with_reducible exact Qay _) | (with_reducible exact Qaq _) | refine And.intro ?_ ?_))); all_goals (first | rfl | exact Qes (by first | omega | (rw [Qaf (by omega)]; omega)))) : p := e
theorem wHH {p : Prop} (e : p := by (repeat' (first | exact trivial | exact Qaa _ | refine And.intro ?_ ?_))) : p := e
end Go.AX
namespace Go.AX
open Go.ChangeShapes Go.WideShapes Go.ChangeAt Go.RowKit
section
variable {H : Type} {enc : TypeId × Value -> H}
theorem Qi3 {a : Assume} {C : Checked} {os : Os} {f : FuncId} {fn : Func} {s : ChangeSpec} {conds : List PathCond} {apart fresh handsOn again : Bool} {X : World -> Array Value -> Prop}
  (hX : ∀ (w w' : World) (args : Array Value), w.heap = w'.heap -> X w args -> X w' args)
  (own : ownKnob C.prog.godebug = none) (started : os.Started) (noInit : C.prog.inits.idxOf? f = none) (hfn : C.prog.funcs[f]? = some fn)
  (witness : ∃ (w : World) (tape : Tape) (i : Input), w.os = os /\ (w.forCall tape i).Shaped C.prog /\ i.vars = [] /\ Input.okWide C.prog (w.forCall tape i) .any w.heap.size f i /\
   ((s.pre enc C.prog fn conds apart (w.forCall tape i).memory i.args /\ X (w.forCall tape i).memory i.args) /\ sizedMet enc C.prog fn (OpenSpec.ofChange s) apart (w.forCall tape i).memory i.args) /\ a.holds C.prog (lone (Frame.enter C.prog f i.args .normal) [] (w.forCall tape i)))
  (contract : ∀ (W : World) (base : Nat) (args : Array Value) (ds gs : List (DataW H)) (before : List MemPlace),
   (∀ (j : Nat) t v, fn.params[j]? = some t -> args[j]? = some v -> Value.okWide C.prog W .any base t v) ->
   DataW.Whole enc C.prog fn.params.toList s.vars apart W args.toList ds gs before ->
   conds.all (PathCond.test C.prog ⟨fn.params.toList, ds, s.plain.varTypes C.prog, gs⟩) = true ->
   (DataW.weightsEach C.prog (fn.params.toList ++ s.plain.varTypes C.prog) (ds ++ gs)).all (· <= reachBytes) = true -> X W args -> W.ShapedOpen C.prog ->
   Calls C.prog f args W fun e W' => ∃ v, e = .returned v /\ s.post enc C.prog fn apart fresh handsOn again W args v W') :
  ReturnsInHanded a C os f .any (fun w args => (s.pre enc C.prog fn conds apart w args /\ X w args) /\ sizedMet enc C.prog fn (OpenSpec.ofChange s) apart w args) (s.post enc C.prog fn apart fresh handsOn again) := by
 refine returnsInHanded_of_calls own started noInit witness ?_
 intro w tape i _ hsh _ hok hpre _
 obtain ⟨_, _, _, fn', hfn', _, _, _, _, hval⟩ := hok
 have e : fn' = fn := Zzz (hfn'.symm.trans hfn)
 subst e
 obtain ⟨⟨⟨ds, gs, before, hw, hc⟩, hx⟩, hz⟩ := hpre
 have hw' := DataW.Whole.of_heap (w' := w.forCall tape i) (by rfl) hw
 refine (contract (w.forCall tape i) w.heap.size i.args ds gs before hval hw' hc (hz.weights hw) (hX _ _ _ (by rfl) hx) hsh).mono fun e W' ⟨v, he, hp⟩ => ?_
 subst he
 exact ChangeSpec.post_blind hp
theorem QBl {C : Checked} {os : Os} {f : FuncId} {fn : Func} {s : ChangeSpec} {conds : List PathCond} {laid : List (String × DataW Unit)} (own : ownKnob C.prog.godebug = none) (started : os.Started) (noInit : C.prog.inits.idxOf? f = none)
  (hfn : C.prog.funcs[f]? = some fn)
  (witness : ∃ (w : World) (tape : Tape) (i : Input), w.os = os /\ (w.forCall tape i).Shaped C.prog /\ i.vars = [] /\ Input.okWide C.prog (w.forCall tape i) .any w.heap.size f i /\
   ((s.pre enc C.prog fn conds false (w.forCall tape i).memory i.args /\ laidMetH C.prog laid (w.forCall tape i).memory) /\ sizedMet enc C.prog fn (OpenSpec.ofChange s) false (w.forCall tape i).memory i.args) /\ ({} : Assume).holds C.prog (lone (Frame.enter C.prog f i.args .normal) [] (w.forCall tape i)))
  (hlaid : laidOutB C.prog = true) (hvars : s.vars = []) {t : TypeId} (hres : fn.resultTypes = #[t]) (hbool : C.prog.underlying t = some .bool)
  (hpar : (fn.params.toList.all fun t => C.prog.readableRec t && decide (t < C.prog.types.size)) = true)
  (hspec : ∀ ds : List (DataW H), ds.length = fn.params.toList.length -> s.fn H ds = { results := [.lit (.bool true)], args := ds })
  (walk : ∀ (W : World) (base : Nat) (args : Array Value) (ds : List (DataW H)) (p : List MemPlace), Known enc C.prog fn W base args ds p -> laidMetH C.prog laid W -> Walk C.prog f args W) :
  ReturnsInHanded {} C os f .any (fun w args => (s.pre enc C.prog fn conds false w args /\ laidMetH C.prog laid w) /\ sizedMet enc C.prog fn (OpenSpec.ofChange s) false w args) (s.post enc C.prog fn false true false false) := by
 refine Qi3 (X := fun w _ => laidMetH C.prog laid w) (fun _ _ _ hh h => h.of_heap hh) own started noInit hfn witness ?_
 intro W base args ds gs before hval hW _ hwt hL hsh
 have hW' := hW
 obtain ⟨p, q, hA, hV, rfl, hfz, hnd⟩ := hW
 rw [hvars] at hV
 obtain ⟨rfl, rfl⟩ := trodVars_none hV
 have hvt : s.plain.varTypes C.prog = [] := by simp [DataSpec.varTypes, ChangeSpec.plain, hvars]
 rw [hvt, List.append_nil, List.append_nil] at hwt
 refine (walk W base args ds p ⟨hval, hA, hwt, hsh⟩ hL).mono fun e W' ⟨he, bel⟩ => ?_
 subst he
 have hs := hspec ds (Qhh hA).1
 refine ⟨_, rfl, ds, [], p ++ [], [], p, [], hW', ?_, ?_, ?_, bel.frame _, fun h => by cases h⟩
 ·rw [List.append_nil, hs, hres]
  exact trodAll_mk1 (shut_bool hbool _)
 ·rw [List.append_nil, hs]
  exact Qjd hlaid bel hpar hA
 ·rw [List.append_nil, hs, hvars]
  rfl
end
end Go.AX
namespace Go.AX
theorem Qhi (b : ByteArray) : Lib.strCells b = u8s b.data.toList := rfl
theorem Qym (l : List UInt8) : (u8s l).length = l.length := by simp [u8s]
def at0 (ob : Option Nat) : Option Addr := ob.map fun b => ⟨b, 0, none⟩
theorem Sat.setNil0 {ρ : List Loc} {S : Nat -> Prop} {H : List Ent} {w : World} {i : Nat} {e : Ent} (h : Sat ρ S H w) (hi : H[i]? = some e) : Sat ρ S (H.set i .dead) w /\ Ev ρ S H w ρ S (H.set i .dead) w := by
 have hget : ∀ (j : Nat) (f : Ent), (H.set i .dead)[j]? = some f -> f = .dead \/ H[j]? = some f := fun j f hf => by
  by_cases hj : i = j
  ·subst hj
   rw [List.getElem?_set_self (Zfz.1 hi).1] at hf
   exact .inl (Zzz hf).symm
  ·rw [Zyz hj] at hf
   exact .inr hf
 have hb : ∀ (j : Nat) (f : Ent) (b : Nat), (H.set i .dead)[j]? = some f -> entB ρ j f b -> H[j]? = some f := fun j f b hf hfb => by
  rcases hget j f hf with rfl | h1
  ·cases hfb
  ·exact h1
 have hmb : ∀ b, mb ρ (H.set i .dead) b -> mb ρ H b := fun b ⟨j, f, hf, hfb⟩ => ⟨j, f, hb j f b hf hfb, hfb⟩
 exact ⟨⟨by simp [h.len], fun j f hf => by
   rcases hget j f hf with rfl | h1
   ·trivial
   ·exact h.ent j f h1,
  fun j k f g b hf hg hfb hgb => h.inj j k f g b (hb j f b hf hfb) (hb k g b hg hgb) hfb hgb, fun b hbb => h.out b (hmb b hbb), h.low⟩,
  ⟨⟨[], by simp⟩, rfl, rfl, rfl, Zcz _, fun _ _ _ => rfl, fun _ h => .inl h, fun b hbb => .inl (hmb b hbb)⟩⟩
def Qzh (P : Program) (e : TypeId) : Bool := match P.info? e with
 | some i => (match i.zero with | some (.int .u8 n) => n == 0 | _ => false) && (Nat.beq i.size 1 && Nat.beq i.bytes 1)
 | none => false
theorem Qtc {P : Program} {e : TypeId} (h : Qzh P e = true) : ∃ i, P.info? e = some i /\ i.zero = some (.int .u8 0) /\ i.size = 1 /\ i.bytes = 1 := by
 unfold Qzh at h
 split at h
 ·rename_i i hi
  simp only [ZAz] at h
  obtain ⟨h1, h2, h3⟩ := h
  split at h1
  ·rename_i n hz
   exact ⟨i, hi, by rw [hz, beq_iff_eq.1 h1], Nat.eq_of_beq_eq_true h2, Nat.eq_of_beq_eq_true h3⟩
  ·cases h1
 ·cases h
def QA9 (w : World) (e : TypeId) (v : Value) (n : Nat) (xs : List Value) : Prop :=
 xs.length = n /\ ((v = .slice none 0 0 /\ n = 0) \/ ∃ g cap cur fr, v = .slice (some ⟨g, 0, none⟩) n cap /\ (w.heap[g]? = some (.cells cur e fr) /\ NoFr fr cur.size) /\ n <= cap /\ cap <= maxLen /\ cur.size = cap /\ cur.toList.take n = xs)
theorem Qez {P : Program} (w : World) (t u ty e : TypeId) (i : TypeInfo) (ht : P.underlying t = some (.slice e)) (hu : P.underlying u = some .string) (hi : P.info? e = some i) (hs1 : i.size = 1)
  (g sLen sCap : Nat) (cur : Array Value) (fr : Nat × Nat) (hg : w.heap[g]? = some (.cells cur e fr)) (hfr : NoFr fr cur.size) (s : ByteArray) (hroom : sLen + s.size <= sCap) (hfit : sLen + s.size <= cur.size) :
  (Builtin.append_ #[t, u] ty #[.slice (some ⟨g, 0, none⟩) sLen sCap, .string s]).run P w =
   .ok (.slice (some ⟨g, 0, none⟩) (sLen + s.size) sCap) (w.setRow g (cur.toList.take sLen ++ Lib.strCells s ++ cur.toList.drop (sLen + s.size)).toArray) := by
 have hf := Lib.run_firstCells_string (P := P) w 1 s
 have hst := Qc0 P g sLen e fr (Lib.strCells s) 0 cur w hg hfr (by simpa [Lib.strCells_length] using hfit) (Lib.strCells_oneCell s)
 simp only [Nat.add_zero, Lib.strCells_length] at hst
 simp [Builtin.append_, run_underlying ht, run_underlying hu, sizeOf, typeInfo, hi, hs1, Builtin.lenOf, hroom, hf, Addr.add_lit, hst]
theorem Qtd {P : Program} (w : World) (t u ty e : TypeId) (inf : TypeInfo) (ht : P.underlying t = some (.slice e)) (hu : P.underlying u = some .string) (hi : P.info? e = some inf) (hz : inf.zero = some (.int .u8 0)) (hs1 : inf.size = 1) (hby : inf.bytes = 1)
  {ρ : List Loc} {S : Nat -> Prop} {i : Nat} {xs : List Value} {a : Option Addr} {n cap : Nat} (h : EntOk ρ S w i (.app e 1 xs a n cap)) (s : ByteArray) (room : n + s.size <= 140737488355328) :
  ∃ v' w', (Builtin.append_ #[t, u] ty #[.slice a n cap, .string s]).run P w = .ok v' w' /\ QA9 w' e v' (n + s.size) (xs ++ Lib.strCells s) /\ w.grownBy w' (a.map Addr.block) /\ (v' = .slice none 0 0 ↔ Value.slice a n cap = .slice none 0 0 /\ s.size = 0) := by
 rcases h with ⟨rfl, rfl, rfl, rfl⟩ | ⟨g, rfl, arr, fr, ⟨hb, hfr⟩, hxl, hnc, hcm, hasz, htk⟩
 ·obtain ⟨v', w', h1, h2, h3, h4⟩ := Lib.run_append_own_string (P := P) w 0 t u ty e inf ht hu hi hz hs1 hby (.slice none 0 0) 0 [] (World.ownsRow_nil w 0 e 1) s (by simp only [maxLen]; omega) room (Zkz _)
  refine ⟨v', w', h1, ⟨by simpa using h2.1, ?_⟩, h3, h4⟩
  rcases h2.2 with h | ⟨g, c, cur, hv, _, h1, h2, h3, h4, h5⟩
  ·exact .inl h
  ·exact .inr ⟨g, c, cur, (0, 0), hv, ⟨h1, .inl rfl⟩, h2, h3, by simpa using h4, by simpa using h5⟩
 ·rw [Nat.mul_one] at hxl hasz htk
  by_cases hroom : n + s.size <= cap
  ·refine ⟨_, _, Qez w t u ty e inf ht hu hi hs1 g n cap arr fr hb hfr s hroom (by omega), ⟨by simp [hxl, Lib.strCells_length], .inr ⟨g, cap, _, fr, rfl, ⟨setRow_heap w g arr _ e _ hb, ?_⟩, hroom, hcm, ?_, ?_⟩⟩, ?_, ?_⟩
   ·have e0 : (arr.toList.take n ++ Lib.strCells s ++ arr.toList.drop (n + s.size)).toArray.size = arr.size := by simp [Lib.strCells_length]; omega
    rw [e0]; exact hfr
   ·simp [Lib.strCells_length]; omega
   ·rw [<- htk]
    have e0 : (arr.toList.take n ++ Lib.strCells s).length = n + s.size := by simp [Lib.strCells_length]; omega
    rw [List.take_append_of_le_length (by omega), <- e0, Ztz]
   ·obtain ⟨f1, f2, f3, f4, f5⟩ := Qef w g (arr.toList.take n ++ Lib.strCells s ++ arr.toList.drop (n + s.size)).toArray
    exact ⟨f3, f4, f5, Nat.le_of_eq f1.symm, fun k _ hne => f2 k fun h => hne (by rw [h]; rfl)⟩
   ·simp
  ·have holds : ∀ j v, xs[j]? = some v -> w.cell? ((⟨g, 0, none⟩ : Addr).add j) = some v := fun j v hv => by
    rw [add_lit, Nat.zero_add, cell_of_row w g j arr e fr hb]
    rw [<- htk, List.getElem?_take] at hv
    split at hv
    ·simpa using hv
    ·cases hv
   have hr := Lib.run_append_grow_string (P := P) w t u ty e inf (.int .u8 0) ht hu hi hz ⟨g, 0, none⟩ n cap xs (by rw [hs1]; omega) holds s (by omega) (by omega) (by rw [hby]; exact growslice_fits (by omega) (by omega))
   have hge := grownCap_ge w (n + s.size) cap e
   have hgm := grownCap_le_maxLen w (n + s.size) cap e (by simp only [maxLen]; omega)
   refine ⟨_, _, hr, ⟨by simp [hxl, Lib.strCells_length], .inr ⟨w.heap.size, _, _, (0, 0), rfl, ⟨heap_alloc_new w.drew _, .inl rfl⟩, hge, hgm, ?_, ?_⟩⟩, ?_, ?_⟩
   ·simp only [Array.size_append, List.size_toArray, size_zeroCells, hxl, Lib.strCells_length]
    simp [Value.cells]
    omega
   ·have e0 : (xs ++ Lib.strCells s).length = n + s.size := by simp [hxl, Lib.strCells_length]
    simp only [Array.toList_append]
    rw [<- e0, List.take_append_of_le_length (by simp), Zpz (by simp)]
   ·exact ⟨rfl, rfl, rfl, by show w.heap.size <= (w.heap.push _).size; simp, fun k hk _ => by show (w.heap.push _)[k]? = _; rw [Array.getElem?_push, if_neg (by omega)]⟩
   ·simp
theorem EffW.appStr {P : Program} {o : Oper} {s : List AV} {H : List Ent} {K : AV -> List Ent -> Prop} {T U e : TypeId} {x y : Operand} {args : Array Operand} {ts : Array TypeId} {a : Option Addr} {n cap : Nat} {b : ByteArray} (i : Nat) {xs : List Value}
  (ho : o.op = .call { callee := .builtin .append, args := args, argTypes := ts }) (ha : args.toList = [x, y]) (ht : ts.toList = [T, U])
  (hT : P.underlying T = some (.slice e)) (hU : P.underlying U = some .string) (hB : Qzh P e = true)
  (hx : opv s x = .c (.v (.slice a n cap))) (hy : opv s y = .c (.v (.string b))) (he : nthE H i = some (.app e 1 xs a n cap)) (room : n + b.size <= 140737488355328)
  (next : ∀ (ob : Option Nat) (cap' : Nat), (ob = none -> n + b.size = 0 /\ cap' = 0) -> n + b.size <= cap' -> (cap' = 0 -> cap = 0 /\ a = at0 ob) -> Qd5 H i (.app e 1 (xs ++ u8s b.data.toList) (at0 ob) (n + b.size) cap') fun H' => K (.c (.v (.slice (at0 ob) (n + b.size) cap'))) H') : EffW P o s H K := by
 obtain ⟨inf, hi, hz, hsz, hby⟩ := Qtc hB
 intro ρ S w ac hs hr
 rw [Qbp] at he
 have e1 : args = #[x, y] := by rw [<- Array.toArray_toList (xs := args), ha]
 have e2 : ts = #[T, U] := by rw [<- Array.toArray_toList (xs := ts), ht]
 subst e1; subst e2
 have hxr := Qah hr x
 have hyr := Qah hr y
 rw [hx] at hxr; rw [hy] at hyr
 have hx2 : ac.eval x = .slice a n cap := hxr
 have hy2 : ac.eval y = .string b := hyr
 have hent := hs.ent i _ he
 obtain ⟨v', w', hrun, hown, hg, hnil⟩ := Qtd (P := P) w T U o.type e inf hT hU hi hz hsz hby hent b room
 rw [Qhi] at hown
 have hexec : (execOp ac.eval o).run P w = .ok (.value v') w' := by
  unfold execOp
  simp only [ho, resolve, invoke, builtin, Sem.run_bind, Sem.run_pure, ZCz, List.map_toArray, List.map_cons, List.map_nil, hx2, hy2, hrun]
 have hv : ∃ (ob : Option Nat) (cap' : Nat), v' = .slice (at0 ob) (n + b.size) cap' /\ (ob = none -> n + b.size = 0 /\ cap' = 0) /\ n + b.size <= cap' /\ EntOk ρ S w' i (.app e 1 (xs ++ u8s b.data.toList) (at0 ob) (n + b.size) cap') := by
  obtain ⟨hl, hc⟩ := hown
  rcases hc with ⟨rfl, h0⟩ | ⟨g, c, cur, fr, rfl, h1, h2, h3, h4, h5⟩
  ·refine ⟨none, 0, by rw [h0]; rfl, fun _ => ⟨h0, rfl⟩, by omega, .inl ⟨rfl, h0, rfl, ?_⟩⟩
   exact Zez (by rw [hl, h0])
  ·exact ⟨some g, c, rfl, fun h => (by cases h), h2, .inr ⟨g, rfl, cur, fr, h1, by rw [Nat.mul_one]; exact hl, h2, h3, by rw [Nat.mul_one]; exact h4, by rw [Nat.mul_one]; exact h5⟩⟩
 obtain ⟨ob, cap', rfl, h1, h2, h3⟩ := hv
 have h9 : cap' = 0 -> cap = 0 /\ a = at0 ob := fun hc => by
  have hb0 : b.size = 0 := by omega
  have hn0 : n = 0 := by omega
  subst hn0
  have hf := Lib.run_firstCells_string (P := P) w 1 b
  have hd : Lib.strCells b = [] := by rw [Qhi, Zez (show b.data.toList.length = 0 by simpa using hb0)]; rfl
  rw [hd, hb0] at hf
  have h0 : (Builtin.append_ #[T, U] o.type #[.slice a 0 cap, .string b]).run P w = .ok (.slice a 0 cap) w := by
   cases a with
   | none => simp [Builtin.append_, run_underlying hT, run_underlying hU, sizeOf, typeInfo, hi, hsz, Builtin.lenOf, hb0, hf]
   | some p => simp [Builtin.append_, run_underlying hT, run_underlying hU, sizeOf, typeInfo, hi, hsz, Builtin.lenOf, hb0, hf, storeCells]
  rw [h0] at hrun
  injection hrun with hv _
  injection hv with ha _ hc'
  exact ⟨by omega, ha⟩
 obtain ⟨hilt, hk⟩ := Qa8 (next ob cap' h1 h2 h9)
 have hS : Sat ρ S (H.set i (.app e 1 (xs ++ u8s b.data.toList) (at0 ob) (n + b.size) cap')) w' /\ Ev ρ S H w ρ S (H.set i (.app e 1 (xs ++ u8s b.data.toList) (at0 ob) (n + b.size) cap')) w' := by
  rcases hent with ⟨rfl, rfl, rfl, rfl⟩ | ⟨g, rfl, hrow⟩
  ·-- it was nil: nothing turned, or one new block
   by_cases hb0 : b.size = 0
   ·have hdat : b.data.toList = [] := Zez (by simpa using hb0)
    have hvn : Value.slice (at0 ob) (0 + b.size) cap' = .slice none 0 0 := hnil.2 ⟨rfl, hb0⟩
    have hat : at0 ob = none := by injection hvn
    have hw : w' = w := by
     have hf := Lib.run_firstCells_string (P := P) w 1 b
     have hd : Lib.strCells b = [] := by rw [Qhi, hdat]; rfl
     rw [hd, hb0] at hf
     have h0 : (Builtin.append_ #[T, U] o.type #[.slice none 0 0, .string b]).run P w = .ok (.slice none 0 0) w := by
      simp [Builtin.append_, run_underlying hT, run_underlying hU, sizeOf, typeInfo, hi, hsz, Builtin.lenOf, hb0, hf]
     rw [h0] at hrun
     injection hrun with _ h
     exact h.symm
    subst hw
    have hset : H.set i (.app e 1 ([] ++ u8s b.data.toList) (at0 ob) (0 + b.size) cap') = H := by
     have : cap' = 0 := by injection hvn
     rw [hat, hdat, hb0, this]
     exact Qkl he
    rw [hset]
    exact ⟨hs, Ev.refl _ _ _ _⟩
   ·have hr := run_append_nil_string (P := P) w T U o.type e inf (.int .u8 0) hT hU hi hz b (by omega) (by omega) (by rw [hby]; omega)
    rw [hr] at hrun
    injection hrun with hv hw
    subst hw
    have hat : at0 ob = some ⟨w.heap.size, 0, none⟩ := by injection hv with h _ _; exact h.symm
    exact hs.setNil (e' := .app e 1 ([] ++ u8s b.data.toList) (at0 ob) (0 + b.size) cap') he (fun _ h => by cases h) rfl rfl rfl rfl (fun c hc => by rw [hat] at hc; exact (Zzz hc).symm) h3
  ·refine hs.setG (c := g) he rfl hg.size (fun k hk hne => hg.block k hk (by simpa [Value.ownBlock] using hne)) hg.os hg.tape hg.output (fun c hc => ?_) h3
   cases ob with
   | none => cases hc
   | some g' =>
    obtain rfl : g' = c := Zzz hc
    by_cases hroom : n + b.size <= cap
    ·obtain ⟨arr, fr, ⟨hb, hfr⟩, hxl, hnc, hcm, hasz, htk⟩ := hrow
     have hr := Qez (P := P) w T U o.type e inf hT hU hi hsz g n cap arr fr hb hfr b hroom (by omega)
     rw [hr] at hrun
     injection hrun with hv _
     injection hv with hv _ _
     injection hv with hv
     injection hv with hv _ _
     exact .inl hv.symm
    ·have hrow' := hrow
     obtain ⟨arr, fr, ⟨hb, hfr⟩, hxl, hnc, hcm, hasz, htk⟩ := hrow
     have holds : ∀ j v, xs[j]? = some v -> w.cell? ((⟨g, 0, none⟩ : Addr).add j) = some v := fun j v hv => by
      have := (RowF.sl hrow').2.2 j (by have := (Zfz.1 hv).1; omega)
      rw [hv] at this
      exact this
     have hr := Lib.run_append_grow_string (P := P) w T U o.type e inf (.int .u8 0) hT hU hi hz ⟨g, 0, none⟩ n cap xs (by rw [hsz]; exact hxl) holds b (by omega) (by omega) (by rw [hby]; exact growslice_fits (by omega) (by omega))
     rw [hr] at hrun
     injection hrun with hv _
     injection hv with hv _ _
     injection hv with hv
     injection hv with hv _ _
     exact .inr (by omega)
 exact ⟨_, _, hk, _, _, _, _, hexec, .inl rfl, hS.1, hS.2, rfl⟩
def ptrB (P : Program) (T : TypeId) : Bool := match P.underlying T with | some (.pointer e) => (P.info? e).isSome | _ => false
theorem Qow {P : Program} {T : TypeId} (h : ptrB P T = true) : ∃ e i, P.underlying T = some (.pointer e) /\ P.info? e = some i := by
 unfold ptrB at h
 split at h
 ·rename_i e he
  exact ⟨e, _, he, (Option.some_get h).symm⟩
 ·cases h
theorem Qkn {P : Program} {T e : TypeId} (hT : P.underlying T = some (.pointer e)) (a : Addr) (w : World) : (binOp .eql T (.pointer (some a)) (.pointer none)).run P w = .ok (.bool false) w /\ (binOp .neq T (.pointer (some a)) (.pointer none)).run P w = .ok (.bool true) w := by
 have h : ∀ d : Nat, (Op.equalIn (d + 1) T (.pointer (some a)) (.pointer none)).run P w = .ok false w := fun d => by
  simp [Op.equalIn, run_underlying hT]
 constructor <;> simp only [binOp] <;> simp [Op.equal, Op.maxDepth, h 9999]
theorem ReadW.lp_nil {P : Program} {o : Oper} {s : List AV} {H : List Ent} {K : AV -> Prop} {op : BinOp} {T U : TypeId} {x y : Operand} {i off : Nat} (ho : o.op = .binOp op T x y U) (hT : ptrB P T = true)
  (hx : opv s x = .c (.lp i off)) (hy : opv s y = .c (.v (.pointer none))) (b : Bool) (hop : op = .eql /\ b = false \/ op = .neq /\ b = true) (h : K (.c (.v (.bool b)))) : ReadW P o s H K := by
 obtain ⟨e, inf, hT, -⟩ := Qow hT
 refine ⟨_, h, fun ρ S w a hs hr => ⟨.bool b, ?_, rfl⟩⟩
 have hxr := Qah hr x
 have hyr := Qah hr y
 rw [hx] at hxr; rw [hy] at hyr
 obtain ⟨l, hl, hxe⟩ := hxr
 have hye : a.eval y = .pointer none := hyr
 refine Qev ho ?_ ?_
 ·rw [hxe, hye]; rcases hop with ⟨rfl, _⟩ | ⟨rfl, _⟩ <;> rfl
 ·rw [hxe, hye]
  rcases hop with ⟨rfl, rfl⟩ | ⟨rfl, rfl⟩
  ·exact (Qkn hT _ w).1
  ·exact (Qkn hT _ w).2
theorem ReadW.lp_same {P : Program} {o : Oper} {s : List AV} {H : List Ent} {K : AV -> Prop} {op : BinOp} {T U : TypeId} {x y : Operand} {i off : Nat} (ho : o.op = .binOp op T x y U) (hT : ptrB P T = true)
  (hx : opv s x = .c (.lp i off)) (hy : opv s y = .c (.lp i off)) (b : Bool) (hop : op = .eql /\ b = true \/ op = .neq /\ b = false) (h : K (.c (.v (.bool b)))) : ReadW P o s H K := by
 obtain ⟨e, inf, hT, hi⟩ := Qow hT
 refine ⟨_, h, fun ρ S w a hs hr => ⟨.bool b, ?_, rfl⟩⟩
 have hxr := Qah hr x
 have hyr := Qah hr y
 rw [hx] at hxr; rw [hy] at hyr
 obtain ⟨l, hl, hxe⟩ := hxr
 obtain ⟨l', hl', hye⟩ := hyr
 have : l' = l := Zzz (hl'.symm.trans hl)
 subst this
 refine Qev ho ?_ ?_
 ·rw [hxe, hye]; rcases hop with ⟨rfl, _⟩ | ⟨rfl, _⟩ <;> rfl
 ·rw [hxe, hye]
  rcases hop with ⟨rfl, rfl⟩ | ⟨rfl, rfl⟩
  ·exact run_eql_ptr_same w _ hT hi
  ·exact Lib.run_neq_ptr_same w _ hT hi
def Qwo (P : Program) (t : TypeId) : Bool := match P.info? t with | some i => !Nat.beq i.size 0 | none => false
theorem Ql5 {P : Program} {t : TypeId} (h : Qwo P t = true) : ∃ inf, P.info? t = some inf /\ inf.size ≠ 0 := by
 unfold Qwo at h
 split at h
 ·rename_i i hi
  exact ⟨i, hi, fun e => by rw [e] at h; cases h⟩
 ·cases h
theorem ReadW.toUnsafe {P : Program} {o : Oper} {s : List AV} {H : List Ent} {K : AV -> Prop} {src dst T : TypeId} {x : Operand} {i off : Nat} {cs : List CV} (t : TypeId) (ho : o.op = .convert src dst x) (hs : P.underlying src = some (.pointer t)) (hd : P.underlying dst = some .unsafePointer)
  (hj : Qwo P t = true) (hx : opv s x = .c (.lp i off)) (he : nthE H i = some (.blk T cs)) (hoff : off < cs.length) (h : K (.c (.lp i off))) : ReadW P o s H K := by
 obtain ⟨inf, ht, hj⟩ := Ql5 hj
 rw [Qbp] at he
 refine ⟨_, h, fun ρ S w a hsat hr => ?_⟩
 have hxr := Qah hr x
 rw [hx] at hxr
 obtain ⟨l, hl, hxe⟩ := hxr
 obtain ⟨l', arr, hl', hb, hrel⟩ := hsat.ent i _ he
 have : l' = l := Zzz (hl'.symm.trans hl)
 subst this
 have hsz : arr.size = cs.length := by rw [Qb9 hrel]; simp
 have hsh : w.shape? l'.b = some (T, arr.size) := by simp [World.shape?, hb]
 refine ⟨_, ?_, l', hl, rfl⟩
 unfold execOp
 simp only [ho, hxe, Sem.run_bind, Lib.run_to_unsafe w ⟨l'.b, off, none⟩ hs hd ht hj hsh (by show off < _; omega), ZCz, Sem.run_pure]
theorem ReadW.fromUnsafe {P : Program} {o : Oper} {s : List AV} {H : List Ent} {K : AV -> Prop} {src dst T : TypeId} {x : Operand} {i off : Nat} {cs : List CV} (u : TypeId) (ho : o.op = .convert src dst x) (hs : P.underlying src = some .unsafePointer) (hd : P.underlying dst = some (.pointer u))
  (hu : Qwo P u = true) (hx : opv s x = .c (.lp i off)) (he : nthE H i = some (.blk T cs)) (hlies : liesAt P P.depth T (cs.length / P.cellsOf T) off u 1 = true) (h : K (.c (.lp i off))) : ReadW P o s H K := by
 obtain ⟨inf, hu, -⟩ := Ql5 hu
 rw [Qbp] at he
 refine ⟨_, h, fun ρ S w a hsat hr => ?_⟩
 have hxr := Qah hr x
 rw [hx] at hxr
 obtain ⟨l, hl, hxe⟩ := hxr
 obtain ⟨l', arr, hl', hb, hrel⟩ := hsat.ent i _ he
 have : l' = l := Zzz (hl'.symm.trans hl)
 subst this
 have hsz : arr.size = cs.length := by rw [Qb9 hrel]; simp
 have hsh : w.shape? l'.b = some (T, cs.length) := by simp [World.shape?, hb, hsz]
 refine ⟨_, ?_, l', hl, rfl⟩
 unfold execOp
 simp only [ho, hxe, Sem.run_bind, Lib.run_from_unsafe w ⟨l'.b, off, none⟩ hs hd hu hsh hlies, ZCz, Sem.run_pure]
theorem EffW.ext {P : Program} {o : Oper} {s : List AV} {H : List Ent} {K : AV -> List Ent -> Prop} {f : FuncId} {fn : Func} {e : Array Value -> Sem Value} {args : Array Operand} {ts : Array TypeId} (ho : o.op = .call { callee := .value (.func f), args := args, argTypes := ts })
  (hf : P.funcs[f]? = some fn) (hname : (fn.name == "runtime.NumGoroutine") = false) (hb : fn.body.isNone = true) (hn : Extern.findNext fn = none) (he : Extern.find fn = some e) (av : AV) (h : K av H)
  (hrun : ∀ (ρ : List Loc) (vs : List Value), RelS ρ (opvs s args.toList) vs -> ∃ v, av.rel ρ v /\ ∀ w, (e vs.toArray).run P w = .ok v w) : EffW P o s H K := by
 intro ρ S w a hs hr
 obtain ⟨v, hv, hrun⟩ := hrun ρ _ (Qjx hr args.toList)
 refine ⟨av, H, h, .value v, v, ρ, w, ?_, .inl rfl, hs, Ev.refl _ _ _ _, hv⟩
 have hc := run_callFunc_extern hf hname hb hn he (args.toList.map a.eval).toArray w
 rw [hrun w] at hc
 have he2 : args.map a.eval = (args.toList.map a.eval).toArray := by apply Array.ext'; simp
 unfold execOp
 simp only [ho, resolve, Deferred.ofValue, invoke, Act.eval, Sem.run_bind, Sem.run_pure, ZCz, he2]
 simpa using hc
theorem ReadW.sliceData {P : Program} {o : Oper} {s : List AV} {H : List Ent} {K : AV -> Prop} {args : Array Operand} {ts : Array TypeId} {x : Operand} {ob : Option Nat} {n cap : Nat} (ho : o.op = .call { callee := .builtin .unsafeSliceData, args := args, argTypes := ts }) (ha : args.toList = [x])
  (hx : opv s x = .c (.v (.slice (at0 ob) n cap))) (hc : ob ≠ none -> cap ≠ 0) (h : K (.c (.v (.pointer (at0 ob))))) : ReadW P o s H K := by
 refine ⟨_, h, fun ρ S w a _ hr => ⟨_, Qcd ho fun consts => ?_, rfl⟩⟩
 have hxr := Qah hr x
 rw [hx] at hxr
 have hxe : a.eval x = .slice (at0 ob) n cap := hxr
 rw [ha]
 simp only [builtin, List.map_cons, List.map_nil, hxe, Sem.run_bind]
 cases ob with
 | none => rw [show at0 none = none from rfl, Lib.run_unsafeSliceData_nil w]; rfl
 | some b => rw [show at0 (some b) = some ⟨b, 0, none⟩ from rfl, Lib.run_unsafeSliceData_row w _ _ _ _ _ (hc (by simp))]; rfl
theorem EffW.usStr {P : Program} {o : Oper} {s : List AV} {H : List Ent} {K : AV -> List Ent -> Prop} {args : Array Operand} {ts : Array TypeId} {pt it e : TypeId} {x y : Operand} {ob : Option Nat} {cap n : Nat} (i : Nat) (l : List UInt8) (hn : l.length = n)
  (ho : o.op = .call { callee := .builtin .unsafeString, args := args, argTypes := ts }) (ha : args.toList = [x, y]) (ht : ts.toList = [pt, it]) (hp : P.underlying pt = some (.pointer e)) (hc : P.cellsOf e = 1)
  (hx : opv s x = .c (.v (.pointer (at0 ob)))) (hy : opv s y = .c (.v (.int .i64 (n : Int)))) (he : nthE H i = some (.app e 1 (u8s l) (at0 ob) n cap))
  (next : Qd5 H i .dead fun H' => K (.c (.v (.string ⟨l.toArray⟩))) H') : EffW P o s H K := by
 intro ρ S w a hs hr
 subst hn
 rw [Qbp] at he
 have e1 : args = #[x, y] := by rw [<- Array.toArray_toList (xs := args), ha]
 have e2 : ts = #[pt, it] := by rw [<- Array.toArray_toList (xs := ts), ht]
 subst e1; subst e2
 obtain ⟨hilt, hk⟩ := Qa8 next
 have hxr := Qah hr x
 have hyr := Qah hr y
 rw [hx] at hxr; rw [hy] at hyr
 have hxe : a.eval x = .pointer (at0 ob) := hxr
 have hye : a.eval y = .int .i64 (l.length : Int) := hyr
 have hexec : ∀ v w', (Builtin.unsafeString_ #[pt, it] o.type #[.pointer (at0 ob), .int .i64 l.length]).run P w = .ok v w' -> (execOp a.eval o).run P w = .ok (.value v) w' := fun v w' h => by
  unfold execOp
  simp only [ho, resolve, invoke, builtin, Sem.run_bind, Sem.run_pure, ZCz, List.map_toArray, List.map_cons, List.map_nil, hxe, hye, h]
 rcases hs.ent i _ he with ⟨h1, h2, h3, h4⟩ | ⟨g, h1, hrow⟩
 ·have hl : l = [] := Zez h2
  subst hl
  have hrun := Lib.run_unsafeString_none (P := P) w pt it o.type (at0 ob)
  have hS := hs.setNil0 he
  exact ⟨_, _, hk, _, _, _, _, hexec _ _ hrun, .inl rfl, hS.1, hS.2, rfl⟩
 ·by_cases hl : l = []
  ·subst hl
   have hrun := Lib.run_unsafeString_none (P := P) w pt it o.type (at0 ob)
   have hS := hs.setG (w' := w) (e' := .dead) he (c := g) (by simp [entB, h1]) (Zcz _) (fun _ _ _ => rfl) rfl rfl rfl (fun b hb => by cases hb) trivial
   exact ⟨_, _, hk, _, _, _, _, hexec _ _ hrun, .inl rfl, hS.1, hS.2, rfl⟩
  ·have hrow' := hrow
   obtain ⟨arr, fr, ⟨hb, hfr⟩, hxl, hnc, hcm, hasz, htk⟩ := hrow
   have hsh : w.shape? g = some (e, arr.size) := by simp [World.shape?, hb]
   have hcell : ∀ j x, l[j]? = some x -> w.cell? ((⟨g, 0, none⟩ : Addr).add j) = some (.int .u8 x.toNat) := fun j x hj => by
    have hjl := (Zfz.1 hj).1
    have := (RowF.sl hrow').2.2 j (by rw [Nat.mul_one]; exact hjl)
    rw [show (u8s l)[j]? = some (.int .u8 (x.toNat : Int)) by simp [u8s, hj]] at this
    exact this
   have hl0 : 0 < l.length := List.length_pos_iff.2 hl
   have hrun := Lib.run_unsafeString_row (P := P) w pt it o.type e hp hc g arr.size hsh l hl (by omega) (by simp only [maxLen] at hcm; omega) hcell
   have hS := hs.setG (w' := w.freeze ⟨g, 0, none⟩ l.length) (e' := .dead) he (c := g) (by simp [entB, h1]) (by simp [World.freeze]; split <;> simp) (fun k _ hne => by
     unfold World.freeze
     split
     ·rfl
     ·simp only [Array.getElem?_modify]
      rw [if_neg (fun h => hne h.symm)]) (by unfold World.freeze; split <;> rfl) (by unfold World.freeze; split <;> rfl) (by unfold World.freeze; split <;> rfl) (fun b hb => by cases hb) trivial
   exact ⟨_, _, hk, _, _, _, _, hexec _ _ (by rw [h1]; exact hrun), .inl rfl, hS.1, hS.2, rfl⟩
def slcB (P : Program) (T : TypeId) : Bool := match P.underlying T with | some (.slice e) => (P.info? e).isSome | _ => false
theorem Qon {P : Program} {T : TypeId} (h : slcB P T = true) : ∃ e i, P.underlying T = some (.slice e) /\ P.info? e = some i := by
 unfold slcB at h
 split at h
 ·rename_i e he
  exact ⟨e, _, he, (Option.some_get h).symm⟩
 ·cases h
theorem ReadW.slc_h {P : Program} {o : Oper} {s : List AV} {H : List Ent} {K : AV -> Prop} {t : TypeId} {x z : Operand} {ob : Option Nat} {n cap : Nat} {k : IntKind} {j : Int} (ho : o.op = .slice t x none (some z) none) (hu : slcB P t = true)
  (hx : opv s x = .c (.v (.slice (at0 ob) n cap))) (hz : opv s z = .c (.v (.int k j))) (hj : 0 <= j /\ j <= (cap : Int)) (h : K (.c (.v (.slice (at0 ob) j.toNat cap)))) : ReadW P o s H K := by
 obtain ⟨e, inf, hu, hi⟩ := Qon hu
 refine ReadW.val _ (fun cs b => by rw [ho]; simp) (by rw [ho]; simp [Op.operands, Qar, hx, hz]) (fun w _ => ?_) h
 have e1 := Qbc hx
 have e2 := Qbc hz
 have : (Instr.sliceAt t (.slice (at0 ob) n cap) none (some (.int k j)) none).run P w = .ok (.slice (at0 ob) j.toNat cap) w := by
  have ha : (at0 ob).map (·.add 0) = at0 ob := by
   cases ob with
   | none => rfl
   | some b => simp [at0, Qck]
  simp [Instr.sliceAt, Instr.slice, run_underlying hu, Instr.sliceBounds, Instr.sliceBound, asIntOf, hj, sizeOf, typeInfo, hi, ha]
 refine Qeh ho ?_
 rw [e1]
 simpa [e2] using this
theorem SpecH.pad {P : Program} {f : FuncId} {args : List AV} {H : List Ent} {K : Out -> List Ent -> Prop} (pad : List Ent) (hp : padB pad = true) (h : SpecH P f args (H ++ pad) K) : SpecH P f args H K := by
 refine ⟨h.ok, fun ρ S w vs hs hr => ?_⟩
 obtain ⟨t, hs', hev⟩ := hs.pad pad hp
 exact (h.run (ρ ++ t) S w vs hs' (Qb5 t hr)).mono fun e w' ⟨ρ', S', H', out, h1, h2, h3, h4⟩ => ⟨ρ', S', H', out, h1, hev.trans h2, h3, h4⟩
end Go.AX
namespace Go.AX
def bs (l : List UInt8) : ByteArray := ⟨l.toArray⟩
theorem Qb4 (a b : List UInt8) : bs a ++ bs b = bs (a ++ b) := by
 apply ByteArray.ext
 simp [bs]
theorem Qal (a : List UInt8) : (bs a).size = a.length := by simp [bs, ByteArray.size]
theorem Qbx (a : List UInt8) : (bs a).data.toList = a := by simp [bs]
theorem QBr (b : ByteArray) : bs b.data.toList = b := rfl
theorem Qvw (l : List UInt8) (i j : Nat) : (bs l).extract i j = bs ((l.take j).drop i) := by
 apply ByteArray.ext
 apply Array.ext'
 rw [ByteArray.data_extract]
 simp [bs, List.drop_take]
theorem Qnz (l : List UInt8) (i : Nat) : (bs l).extract i l.length = bs (l.drop i) := by rw [Qvw, Ztz]
theorem Qzi (l : List UInt8) (j : Nat) : (bs l).extract 0 j = bs (l.take j) := by rw [Qvw, List.drop_zero]
theorem Qa6 {l : List UInt8} {i : Nat} {c : UInt8} (h : l[i]? = some c) : Qcx (bs l) i = (c.toNat : Int) := by
 simp [Qcx, Qbx, List.getD, h]
theorem Qyn {c : UInt8} {n : Nat} (hn : n < 256) : ((c.toNat : Int) == (n : Int)) = (c == UInt8.ofNat n) := by
 by_cases h : c = UInt8.ofNat n
 ·subst h
  have e : (UInt8.ofNat n).toNat = n := by simp; omega
  rw [e]; simp
 ·rw [show (c == UInt8.ofNat n) = false by simpa using h]
  have : ¬ (c.toNat : Int) = (n : Int) := fun h2 => h (UInt8.toNat_inj.1 (by simp; omega))
  simpa using this
theorem ReadW.sl_l {P : Program} {o : Oper} {s : List AV} {H : List Ent} {K : AV -> Prop} {t : TypeId} {x y : Operand} {b : List UInt8} {k : IntKind} {i : Int} (n : Nat) (ho : o.op = .slice t x (some y) none none) (hu : P.underlying t = some .string) (hx : opv s x = .c (.v (.string (bs b)))) (hy : opv s y = .c (.v (.int k i)))
  (h : i = (n : Int) /\ n <= b.length) (hk : K (.c (.v (.string (bs (b.drop n)))))) : ReadW P o s H K :=
 ReadW.str_l ho hu hx hy ⟨by omega, by rw [Qal]; omega⟩ (by rw [Qal, show i.toNat = n by omega, Qnz]; exact hk)
theorem ReadW.sl_lh {P : Program} {o : Oper} {s : List AV} {H : List Ent} {K : AV -> Prop} {t : TypeId} {x y z : Operand} {b : List UInt8} {k k' : IntKind} {i j : Int} (n m : Nat) (ho : o.op = .slice t x (some y) (some z) none) (hu : P.underlying t = some .string) (hx : opv s x = .c (.v (.string (bs b)))) (hy : opv s y = .c (.v (.int k i))) (hz : opv s z = .c (.v (.int k' j)))
  (h : i = (n : Int) /\ j = (m : Int) /\ n <= m /\ m <= b.length) (hk : K (.c (.v (.string (bs ((b.take m).drop n)))))) : ReadW P o s H K :=
 ReadW.str_lh ho hu hx hy hz ⟨by omega, by omega, by rw [Qal]; omega⟩ (by rw [show i.toNat = n by omega, show j.toNat = m by omega, Qvw]; exact hk)
def RetG {ι : Type} (inv : ι -> Prop) (val : ι -> Value) (G : ι -> List Ent) : Out -> List Ent -> Prop := fun out H' => ∃ i, inv i /\ out = .val (.c (.v (val i))) /\ H' = G i
theorem SpecH.wkG {P : Program} {f : FuncId} {args : List AV} {H : List Ent} {ι : Type} {inv : ι -> Prop} {val : ι -> Value} {G : ι -> List Ent} (hok : ∀ i, inv i -> okH (G i).length (G i)) (hl : ∀ i, inv i -> H.length <= (G i).length)
  (h : SpecH P f args H fun out H' => ∃ i, inv i /\ out = .val (.c (.v (val i))) /\ wkH H' (G i)) : SpecH P f args H (RetG inv val G) := by
 refine ⟨h.ok, fun ρ S w vs hs hr => (h.run ρ S w vs hs hr).mono fun e w' ⟨ρ', S', H', out, hs', hev, hout, i, hi, hx, hw⟩ => ?_⟩
 subst hx
 obtain ⟨h1, h2⟩ := hs'.weak hw (hok i hi)
 refine ⟨ρ'.take (G i).length, S', G i, .val (.c (.v (val i))), h1, ⟨?_, hev.os, hev.tape, hev.output, hev.size, hev.keep, hev.imm, fun b hb => hev.own b (h2 b hb)⟩, hout, i, hi, rfl, rfl⟩
 obtain ⟨t, ht⟩ := hev.pre
 refine ⟨t.take ((G i).length - ρ.length), ?_⟩
 rw [ht, List.take_append, Zpz (by rw [hs.len]; exact hl i hi)]
theorem ownC {P : Program} (hm : P.follows .mixedOrders = true) {f : FuncId} {fn : Func} {c : Code} (hf : P.funcs[f]? = some fn) (hn : (fn.name == "runtime.NumGoroutine") = false) (hb : fn.body = some c)
  {args : List AV} {H : List Ent} (hl : Nat.ble args.length fn.ntmps = true) {ι : Type} {inv : ι -> Prop} {val : ι -> Value} {G : ι -> List Ent} (hok : ∀ i, inv i -> okH (G i).length (G i)) (hl2 : ∀ i, inv i -> H.length <= (G i).length)
  (h : Qhq fn.ntmps args fun s => exec P c s H (endK P fn.results.toList fun out H' => ∃ i, inv i /\ out = .val (.c (.v (val i))) /\ wkH H' (G i))) : SpecH P f args H (RetG inv val G) :=
 SpecH.wkG hok hl2 (Qas hm hf hn hb hl h)
theorem Qai {P : Program} {f : FuncId} {args0 : List AV} {H0 : List Ent} {ι : Type} {inv : ι -> Prop} {val : ι -> Value} {G : ι -> List Ent} (h : SpecH P f args0 H0 (RetG inv val G)) (σ : List Nat) {args : List AV} {H : List Ent} {K : Out -> List Ent -> Prop}
  (hn : ndB σ = true) (hp : part σ H.length H σ H0) (ha : args = rnS σ H.length args0) (hk : ∀ i, inv i -> mrg (rnE σ H.length) σ (G i) H fun G' => K (.val (.c (.v (val i)))) G') : SpecH P f args H K :=
 h.at σ hn hp ha fun out H' ⟨i, hi, ho, hH⟩ => by subst ho; subst hH; exact hk i hi
theorem Qbu (H : List Ent) : wkH H [] := by cases H <;> trivial
theorem Qoa {H G : List Ent} (h : H = G) : wkH H G := by subst h; exact Qag _
end Go.AX
namespace Go.Proofs.YtgogonnnojcioaaGreatDoor
open Go.AX Go.RowKit
set_option maxRecDepth 20000
theorem hm : Tryz.prog.follows .mixedOrders = true := by kernel_rfl
structure BSt where
 ob : Option Nat
 cap : Nat
def BSt.ok (n : Nat) (i : BSt) : Prop := (i.ob = none -> n = 0 /\ i.cap = 0) /\ n <= i.cap /\ (i.cap = 0 -> i.ob = none)
end Go.Proofs.YtgogonnnojcioaaGreatDoor
namespace Go.Proofs
open Go.Shelf
def Tryz.lays161_ren : Go.Shelf.Ren := ⟨fun | 161 => 141 | 231 => 162 | 227 => 163 | 233 => 164 | 235 => 165 | 228 => 189 | 197 => 190 | 151 => 88 | 260 => 201 | 152 => 103 | 137 => 126 | 119 => 127 | 224 => 128 | 225 => 129 | 217 => 150 | 266 => 175 | n => n, fun | 9 => 9 | 4 => 4 | 3 => 3 | 5 => 5 | 117 => 197 | 116 => 196 | 0 => 0 | 124 => 200 | 105 => 212 | 21 => 21 | 119 => 230 | 46 => 30 | 139 => 233 | 138 => 232 | n => n, fun | 3 => 4 | 4 => 5 | n => n⟩
theorem Tryz.lays161 : Go.Proofs.Lays.n161 Tryz.prog Tryz.lays161_ren := {
 mixed := by kernel_rfl
 f119 := Tryz.func127.trans (congrArg some (by kernel_rfl))
 f137 := Tryz.func126.trans (congrArg some (by kernel_rfl))
 f151 := Tryz.func88.trans (congrArg some (by kernel_rfl))
 f152 := Tryz.func103.trans (congrArg some (by kernel_rfl))
 f161 := Tryz.func141.trans (congrArg some (by kernel_rfl))
 f197 := Tryz.func190.trans (congrArg some (by kernel_rfl))
 f217 := Tryz.func150.trans (congrArg some (by kernel_rfl))
 f224 := Tryz.func128.trans (congrArg some (by kernel_rfl))
 f225 := Tryz.func129.trans (congrArg some (by kernel_rfl))
 f227 := Tryz.func163.trans (congrArg some (by kernel_rfl))
 f228 := Tryz.func189.trans (congrArg some (by kernel_rfl))
 f231 := Tryz.func162.trans (congrArg some (by kernel_rfl))
 f233 := Tryz.func164.trans (congrArg some (by kernel_rfl))
 f235 := Tryz.func165.trans (congrArg some (by kernel_rfl))
 f260 := Tryz.func201.trans (congrArg some (by kernel_rfl))
 f266 := Tryz.func175.trans (congrArg some (by kernel_rfl))
 t0 := Tryz.underlying0
 a0 := Tryz.isAgg0
 z0 := Tryz.sizeOf0
 v0 := Tryz.zeroValue0
 t3 := Tryz.underlying3
 a3 := Tryz.isAgg3
 z3 := Tryz.sizeOf3
 v3 := Tryz.zeroValue3
 t4 := Tryz.underlying4
 a4 := Tryz.isAgg4
 z4 := Tryz.sizeOf4
 v4 := Tryz.zeroValue4
 t5 := Tryz.underlying5
 a5 := Tryz.isAgg5
 z5 := Tryz.sizeOf5
 v5 := Tryz.zeroValue5
 t9 := Tryz.underlying9
 a9 := Tryz.isAgg9
 z9 := Tryz.sizeOf9
 v9 := Tryz.zeroValue9
 t21 := Tryz.underlying21
 a21 := Tryz.isAgg21
 z21 := Tryz.sizeOf21
 v21 := Tryz.zeroValue21
 t46 := Tryz.underlying30
 a46 := Tryz.isAgg30
 z46 := Tryz.sizeOf30
 v46 := Tryz.zeroValue30
 t105 := Tryz.underlying212
 a105 := Tryz.isAgg212
 z105 := Tryz.sizeOf212
 v105 := Tryz.zeroValue212
 t116 := Tryz.underlying196
 a116 := Tryz.isAgg196
 z116 := Tryz.sizeOf196
 t117 := Tryz.underlying197
 a117 := Tryz.isAgg197
 z117 := Tryz.sizeOf197
 v117 := Tryz.zeroValue197
 t119 := Tryz.underlying230
 a119 := Tryz.isAgg230
 z119 := Tryz.sizeOf230
 t124 := Tryz.underlying200
 a124 := Tryz.isAgg200
 z124 := Tryz.sizeOf200
 v124 := Tryz.zeroValue200
 t138 := Tryz.underlying232
 a138 := Tryz.isAgg232
 z138 := Tryz.sizeOf232
 v138 := Tryz.zeroValue232
 t139 := Tryz.underlying233
 a139 := Tryz.isAgg233
 z139 := Tryz.sizeOf233
 v139 := Tryz.zeroValue233
 g3 := by kernel_rfl
 g4 := by kernel_rfl }
open Go.RowKit in
theorem Tryz.strings_TrimLeft_one (s : ByteArray) (c : UInt8) (hc : c.toNat < 128) (w : World) :
  Calls Tryz.prog 141 #[.string s, .string ⟨#[c]⟩] w fun e w' => e = .returned (.string ⟨(Lib.trimLeftB s.data.toList c).toArray⟩) /\ w' = w := Any.strings_TrimLeft_one Tryz.lays161 s c hc w
def Tryz.lays119_ren : Go.Shelf.Ren := ⟨fun | 119 => 127 | n => n, fun | 21 => 21 | 4 => 4 | n => n, fun | n => n⟩
theorem Tryz.lays119 : Go.Proofs.Lays.n119 Tryz.prog Tryz.lays119_ren := {
 mixed := by kernel_rfl
 f119 := Tryz.func127.trans (congrArg some (by kernel_rfl))
 t4 := Tryz.underlying4
 a4 := Tryz.isAgg4
 z4 := Tryz.sizeOf4
 v4 := Tryz.zeroValue4
 t21 := Tryz.underlying21
 a21 := Tryz.isAgg21
 z21 := Tryz.sizeOf21
 v21 := Tryz.zeroValue21 }
theorem Tryz.utf8_ValidRune (r : Int) (w : World) :
  Calls Tryz.prog 127 #[.int .i32 r] w fun e w' => e = .returned (.bool (Lib.validRune r)) /\ w' = w := Any.utf8_ValidRune Tryz.lays119 r w
def Tryz.lays137_ren : Go.Shelf.Ren := ⟨fun | 137 => 126 | 217 => 150 | 266 => 175 | n => n, fun | 9 => 9 | 5 => 5 | 3 => 3 | n => n, fun | n => n⟩
theorem Tryz.lays137 : Go.Proofs.Lays.n137 Tryz.prog Tryz.lays137_ren := {
 mixed := by kernel_rfl
 f137 := Tryz.func126.trans (congrArg some (by kernel_rfl))
 f217 := Tryz.func150.trans (congrArg some (by kernel_rfl))
 f266 := Tryz.func175.trans (congrArg some (by kernel_rfl))
 t3 := Tryz.underlying3
 a3 := Tryz.isAgg3
 z3 := Tryz.sizeOf3
 v3 := Tryz.zeroValue3
 t5 := Tryz.underlying5
 a5 := Tryz.isAgg5
 z5 := Tryz.sizeOf5
 v5 := Tryz.zeroValue5
 t9 := Tryz.underlying9
 a9 := Tryz.isAgg9
 z9 := Tryz.sizeOf9
 v9 := Tryz.zeroValue9 }
open Go.RowKit in
theorem Tryz.strings_IndexByte (s : ByteArray) (c : Int) (w : World) :
  Calls Tryz.prog 126 #[.string s, .int .u8 c] w fun e w' => e = .returned (.int .i64 (Lib.indexByte s.data.toList c.toNat.toUInt8)) /\ w' = w := Any.strings_IndexByte Tryz.lays137 s c w
def Tryz.lays190_ren : Go.Shelf.Ren := ⟨fun | 190 => 134 | 125 => 156 | 258 => 155 | 128 => 186 | 129 => 158 | 302 => 177 | 303 => 178 | 304 => 179 | 305 => 180 | 306 => 181 | 307 => 182 | 308 => 183 | 309 => 184 | 310 => 185 | 333 => 195 | 329 => 196 | 330 => 197 | 334 => 198 | 335 => 199 | 336 => 200 | 344 => 205 | n => n, fun | 31 => 55 | 9 => 9 | 3 => 3 | 46 => 30 | 0 => 0 | 51 => 192 | 53 => 172 | 4 => 4 | 183 => 206 | 182 => 205 | 131 => 102 | 5 => 5 | 218 => 217 | 222 => 221 | 228 => 227 | 229 => 228 | n => n, fun | n => n⟩
theorem Tryz.lays190 : Go.Proofs.Lays.n190 Tryz.prog Tryz.lays190_ren := {
 mixed := by kernel_rfl
 f125 := Tryz.func156.trans (congrArg some (by kernel_rfl))
 f128 := Tryz.func186.trans (congrArg some (by kernel_rfl))
 f129 := Tryz.func158.trans (congrArg some (by kernel_rfl))
 f190 := Tryz.func134.trans (congrArg some (by kernel_rfl))
 f258 := Tryz.func155.trans (congrArg some (by kernel_rfl))
 f302 := Tryz.func177.trans (congrArg some (by kernel_rfl))
 f303 := Tryz.func178.trans (congrArg some (by kernel_rfl))
 f304 := Tryz.func179.trans (congrArg some (by kernel_rfl))
 f305 := Tryz.func180.trans (congrArg some (by kernel_rfl))
 f306 := Tryz.func181.trans (congrArg some (by kernel_rfl))
 f307 := Tryz.func182.trans (congrArg some (by kernel_rfl))
 f308 := Tryz.func183.trans (congrArg some (by kernel_rfl))
 f309 := Tryz.func184.trans (congrArg some (by kernel_rfl))
 f310 := Tryz.func185.trans (congrArg some (by kernel_rfl))
 f329 := Tryz.func196.trans (congrArg some (by kernel_rfl))
 f330 := Tryz.func197.trans (congrArg some (by kernel_rfl))
 f333 := Tryz.func195.trans (congrArg some (by kernel_rfl))
 f334 := Tryz.func198.trans (congrArg some (by kernel_rfl))
 f335 := Tryz.func199.trans (congrArg some (by kernel_rfl))
 f336 := Tryz.func200.trans (congrArg some (by kernel_rfl))
 f344 := Tryz.func205.trans (congrArg some (by kernel_rfl))
 t0 := Tryz.underlying0
 a0 := Tryz.isAgg0
 z0 := Tryz.sizeOf0
 v0 := Tryz.zeroValue0
 t3 := Tryz.underlying3
 a3 := Tryz.isAgg3
 z3 := Tryz.sizeOf3
 v3 := Tryz.zeroValue3
 t4 := Tryz.underlying4
 a4 := Tryz.isAgg4
 z4 := Tryz.sizeOf4
 v4 := Tryz.zeroValue4
 t5 := Tryz.underlying5
 a5 := Tryz.isAgg5
 z5 := Tryz.sizeOf5
 v5 := Tryz.zeroValue5
 t9 := Tryz.underlying9
 a9 := Tryz.isAgg9
 z9 := Tryz.sizeOf9
 v9 := Tryz.zeroValue9
 t31 := Tryz.underlying55
 a31 := Tryz.isAgg55
 z31 := Tryz.sizeOf55
 v31 := Tryz.zeroValue55
 t46 := Tryz.underlying30
 a46 := Tryz.isAgg30
 z46 := Tryz.sizeOf30
 v46 := Tryz.zeroValue30
 t51 := Tryz.underlying192
 a51 := Tryz.isAgg192
 z51 := Tryz.sizeOf192
 v51 := Tryz.zeroValue192
 t53 := Tryz.underlying172
 a53 := Tryz.isAgg172
 z53 := Tryz.sizeOf172
 v53 := Tryz.zeroValue172
 t131 := Tryz.underlying102
 a131 := Tryz.isAgg102
 z131 := Tryz.sizeOf102
 v131 := Tryz.zeroValue102
 t182 := Tryz.underlying205
 a182 := Tryz.isAgg205
 z182 := Tryz.sizeOf205
 v182 := Tryz.zeroValue205
 t183 := Tryz.underlying206
 a183 := Tryz.isAgg206
 z183 := Tryz.sizeOf206
 v183 := Tryz.zeroValue206
 t218 := Tryz.underlying217
 a218 := Tryz.isAgg217
 z218 := Tryz.sizeOf217
 v218 := Tryz.zeroValue217
 t222 := Tryz.underlying221
 a222 := Tryz.isAgg221
 z222 := Tryz.sizeOf221
 v222 := Tryz.zeroValue221
 t228 := Tryz.underlying227
 a228 := Tryz.isAgg227
 z228 := Tryz.sizeOf227
 v228 := Tryz.zeroValue227
 t229 := Tryz.underlying228
 a229 := Tryz.isAgg228
 z229 := Tryz.sizeOf228
 v229 := Tryz.zeroValue228 }
open Go.Sort Go.RowKit in
theorem Tryz.slices_Sort_string (blk off cap : Nat) (ss : List (List UInt8)) (w : World) (hH : Holds encStr w blk off ss.toArray) (hblk : blk < w.heap.size) (hsz : ss.length < 4611686018427387904) :
  Calls Tryz.prog 134 #[.slice (some ⟨blk, off, none⟩) ss.length cap] w fun e w' =>
   e = .returned (.tuple #[]) /\ ∃ n os, w' = grow (putRow encStr (Sort.ahead w n) blk off (ss.mergeSort fun x y => decide (x <= y)).toArray) os := Any.slices_Sort_string Tryz.lays190 blk off cap ss w hH hblk hsz
def Tryz.lays99_ren : Go.Shelf.Ren := ⟨fun | 99 => 142 | 206 => 166 | n => n, fun | 9 => 9 | 4 => 4 | 3 => 3 | n => n, fun | n => n⟩
theorem Tryz.lays99 : Go.Proofs.Lays.n99 Tryz.prog Tryz.lays99_ren := {
 mixed := by kernel_rfl
 f99 := Tryz.func142.trans (congrArg some (by kernel_rfl))
 f206 := Tryz.func166.trans (congrArg some (by kernel_rfl))
 t3 := Tryz.underlying3
 a3 := Tryz.isAgg3
 z3 := Tryz.sizeOf3
 v3 := Tryz.zeroValue3
 t4 := Tryz.underlying4
 a4 := Tryz.isAgg4
 z4 := Tryz.sizeOf4
 v4 := Tryz.zeroValue4
 t9 := Tryz.underlying9
 a9 := Tryz.isAgg9
 z9 := Tryz.sizeOf9
 v9 := Tryz.zeroValue9 }
open Go.RowKit Go.Lib in
theorem Tryz.strings_HasPrefix (s p : ByteArray) (w : World) :
  Calls Tryz.prog 142 #[.string s, .string p] w fun e w' => e = .returned (.bool (Lib.hasPrefix s.data.toList p.data.toList)) /\ w' = w := Any.strings_HasPrefix Tryz.lays99 s p w
def Tryz.lays151_ren : Go.Shelf.Ren := ⟨fun | 151 => 88 | 152 => 103 | 137 => 126 | 119 => 127 | 224 => 128 | 225 => 129 | 217 => 150 | 266 => 175 | n => n, fun | 9 => 9 | 21 => 21 | 4 => 4 | 3 => 3 | 5 => 5 | 0 => 0 | 46 => 30 | n => n, fun | n => n⟩
theorem Tryz.lays151 : Go.Proofs.Lays.n151 Tryz.prog Tryz.lays151_ren := {
 mixed := by kernel_rfl
 f119 := Tryz.func127.trans (congrArg some (by kernel_rfl))
 f137 := Tryz.func126.trans (congrArg some (by kernel_rfl))
 f151 := Tryz.func88.trans (congrArg some (by kernel_rfl))
 f152 := Tryz.func103.trans (congrArg some (by kernel_rfl))
 f217 := Tryz.func150.trans (congrArg some (by kernel_rfl))
 f224 := Tryz.func128.trans (congrArg some (by kernel_rfl))
 f225 := Tryz.func129.trans (congrArg some (by kernel_rfl))
 f266 := Tryz.func175.trans (congrArg some (by kernel_rfl))
 t0 := Tryz.underlying0
 a0 := Tryz.isAgg0
 z0 := Tryz.sizeOf0
 v0 := Tryz.zeroValue0
 t3 := Tryz.underlying3
 a3 := Tryz.isAgg3
 z3 := Tryz.sizeOf3
 v3 := Tryz.zeroValue3
 t4 := Tryz.underlying4
 a4 := Tryz.isAgg4
 z4 := Tryz.sizeOf4
 v4 := Tryz.zeroValue4
 t5 := Tryz.underlying5
 a5 := Tryz.isAgg5
 z5 := Tryz.sizeOf5
 v5 := Tryz.zeroValue5
 t9 := Tryz.underlying9
 a9 := Tryz.isAgg9
 z9 := Tryz.sizeOf9
 v9 := Tryz.zeroValue9
 t21 := Tryz.underlying21
 a21 := Tryz.isAgg21
 z21 := Tryz.sizeOf21
 v21 := Tryz.zeroValue21
 t46 := Tryz.underlying30
 a46 := Tryz.isAgg30
 z46 := Tryz.sizeOf30
 v46 := Tryz.zeroValue30 }
open Go.RowKit Go.Lib in
theorem Tryz.strings_ContainsRune_ascii (s : ByteArray) (r : Int) (w : World) (h0 : 0 <= r) (h1 : r < 128) :
  Calls Tryz.prog 88 #[.string s, .int .i32 r] w fun e w' => e = .returned (.bool (decide (0 <= Lib.indexByte s.data.toList r.toNat.toUInt8))) /\ w' = w := Any.strings_ContainsRune_ascii Tryz.lays151 s r w h0 h1
def Tryz.lays194_ren : Go.Shelf.Ren := ⟨fun | 194 => 112 | n => n, fun | 31 => 55 | 9 => 9 | 3 => 3 | 4 => 4 | 0 => 0 | n => n, fun | n => n⟩
theorem Tryz.lays194 : Go.Proofs.Lays.n194 Tryz.prog Tryz.lays194_ren := {
 mixed := by kernel_rfl
 f194 := Tryz.func112.trans (congrArg some (by kernel_rfl))
 t0 := Tryz.underlying0
 a0 := Tryz.isAgg0
 z0 := Tryz.sizeOf0
 v0 := Tryz.zeroValue0
 t3 := Tryz.underlying3
 a3 := Tryz.isAgg3
 z3 := Tryz.sizeOf3
 v3 := Tryz.zeroValue3
 t4 := Tryz.underlying4
 a4 := Tryz.isAgg4
 z4 := Tryz.sizeOf4
 v4 := Tryz.zeroValue4
 t9 := Tryz.underlying9
 a9 := Tryz.isAgg9
 z9 := Tryz.sizeOf9
 v9 := Tryz.zeroValue9
 t31 := Tryz.underlying55
 a31 := Tryz.isAgg55
 z31 := Tryz.sizeOf55
 v31 := Tryz.zeroValue55 }
open Go.RowKit Go.Lib Go.Sort in
theorem Tryz.slices_Compact_string (blk off cap : Nat) (zs : List (List UInt8)) (w : World) (hH : Holds encStr w blk off zs.toArray) (hsz : zs.length <= 9223372036854775807) (hcap : zs.length <= cap) :
  Calls Tryz.prog 112 #[.slice (some ⟨blk, off, none⟩) zs.length cap] w fun e w' => e = .returned (.slice (some ⟨blk, off, none⟩) (Lib.compact zs).length cap) /\ ∃ q, w' = putRow encStr (Sort.ahead w q) blk off (Lib.compact zs ++ List.replicate (zs.length - (Lib.compact zs).length) []).toArray := Any.slices_Compact_string Tryz.lays194 blk off cap zs w hH hsz hcap
open Go.RowKit Go.Lib Go.Sort in
theorem Tryz.slices_Compact_string_empty (a : Option Addr) (cap : Nat) (w : World) :
  Calls Tryz.prog 112 #[.slice a 0 cap] w fun e w' => e = .returned (.slice a 0 cap) /\ w' = w := Any.slices_Compact_string_empty Tryz.lays194 a cap w
open Go.RowKit Go.Sort in
theorem Tryz.slices_Sort_string_none (p : Option Addr) (cap : Nat) (w : World) :
  Calls Tryz.prog 134 #[.slice p 0 cap] w fun e w' => e = .returned (.tuple #[]) /\ w' = w := Any.slices_Sort_string_none Tryz.lays190 p cap w
end Go.Proofs
namespace Go.Proofs.YtgogonnnojcioaaGreatDoor
open Go.AX Go.RowKit
set_option maxRecDepth 20000
theorem Qlv (s p : List UInt8) : ∀ H, SpecH Tryz.prog 142 (pvs [.string (bs s), .string (bs p)]) H (Ret (.bool (p.isPrefixOf s)) H) := fun H =>
 SpecH.rawP (R := fun r => r = .bool (p.isPrefixOf s)) (Qhb Tryz.func142 (by kernel_rfl) rfl)
  (fun w _ => (Tryz.strings_HasPrefix (bs s) (bs p) w).mono fun e w' ⟨he, hw⟩ => ⟨_, he, by rw [Qbx, Qbx]; rfl, by subst hw; exact Below.refl _ _⟩) fun r hr => by subst hr; exact ⟨rfl, rfl⟩
theorem Qe3 (s : List UInt8) (c : UInt8) : ∀ H, SpecH Tryz.prog 126 (pvs [.string (bs s), .int .u8 (c.toNat : Int)]) H (Ret (.int .i64 (Lib.indexByte s c)) H) := fun H =>
 SpecH.rawP (R := fun r => r = .int .i64 (Lib.indexByte s c)) (Qhb Tryz.func126 (by kernel_rfl) rfl)
  (fun w _ => (Tryz.strings_IndexByte (bs s) (c.toNat : Int) w).mono fun e w' ⟨he, hw⟩ => ⟨_, he, by rw [Qbx]; simp, by subst hw; exact Below.refl _ _⟩) fun r hr => by subst hr; exact ⟨rfl, rfl⟩
structure RpOk (s old new : List UInt8) (k : Nat) (i : Nat) (out : List UInt8) (st : Nat) : Prop where
 le : i <= k
 hst : st <= s.length
 cnt : k - i <= Lib.count (s.drop st) old
 eq : out ++ Lib.replaceK old new (k - i) (s.drop st) = Lib.replaceK old new k s
 len : out.length <= st + i * new.length
theorem RpOk.step {s old new : List UInt8} {k i : Nat} {out : List UInt8} {st : Nat} (h1 : 1 <= old.length) (h : RpOk s old new k i out st) (hi : i < k) :
  ∃ x : Nat, Lib.index (s.drop st) old = x /\ st + x + old.length <= s.length /\ RpOk s old new k (i + 1) (out ++ (s.take (st + x)).drop st ++ new) (st + x + old.length) := by
 obtain ⟨x, hx⟩ := Lib.index_of_count (s := s.drop st) (old := old) (by have := h.cnt; omega)
 have hroom := Lib.index_room (s.drop st) old (by omega)
 rw [hx, List.length_drop] at hroom
 have hst := h.hst
 have hd : (s.drop st).drop (x + old.length) = s.drop (st + x + old.length) := by rw [List.drop_drop]; congr 1; omega
 have ht : (s.drop st).take x = (s.take (st + x)).drop st := by rw [List.drop_take]; congr 1; omega
 refine ⟨x, hx, by omega, by omega, by omega, ?_, ?_, ?_⟩
 ·have := Lib.count_hit (s := s.drop st) (sub := old) (i := x) (fun e => by rw [e] at h1; simp at h1) hx
  rw [hd] at this
  have := h.cnt
  omega
 ·have h2 := h.eq
  rw [show k - i = (k - (i + 1)) + 1 by omega, Lib.replaceK_hit old new _ _ x hx, hd, ht] at h2
  rw [<- h2]
  simp
 ·have := h.len
  simp only [Zhz, List.length_drop, List.length_take, Nat.add_mul]
  omega
end Go.Proofs.YtgogonnnojcioaaGreatDoor
namespace Go.Proofs.YtgogonnnojcioaaGreatDoor
open Go.ChangeShapes Go.WideShapes Go.ChangeAt Go.RowKit Go.AX
set_option maxRecDepth 100000
theorem own0 : ownKnob Tryz.prog.godebug = none := by kernel_rfl
theorem Qy3 : laidOutB Tryz.prog = true := by kernel_rfl
end Go.Proofs.YtgogonnnojcioaaGreatDoor
namespace Go.Core
structure Cell where
 kind : Int
 num : Int
 text : List UInt8
 names : List (List UInt8)
 items : List Int
def nilC : Cell := ⟨0, 0, [], [], []⟩
def at_ (g : List Cell) (i : Int) : Cell := g.getD i.toNat nilC
def InG (g : List Cell) : Prop := ∀ c ∈ g, ∀ i ∈ c.items, 0 <= i /\ i < (g.length : Int)
def Qgy (x y : Cell) : Bool := x.kind == y.kind && x.num == y.num && x.text == y.text && decide (x.names = y.names) && decide (x.items.length = y.items.length)
def ok (g : List Cell) (p : Int × Int) : Bool := Qgy (at_ g p.1) (at_ g p.2)
def QAb (g : List Cell) (p : Int × Int) : List (Int × Int) := (at_ g p.1).items.zip (at_ g p.2).items
inductive Leads (g : List Cell) : Int × Int -> Int × Int -> Prop where
 | refl (p) : Leads g p p
 | step {p q r} (h : q ∈ QAb g p) (t : Leads g q r) : Leads g p r
theorem Leads.trans {g : List Cell} {p q r : Int × Int} (h : Leads g p q) (k : Leads g q r) : Leads g p r := by
 induction h with
 | refl => exact k
 | step h _ ih => exact .step h (ih k)
def InP (g : List Cell) (p : Int × Int) : Prop := (0 <= p.1 /\ p.1 < (g.length : Int)) /\ 0 <= p.2 /\ p.2 < (g.length : Int)
theorem Qhd {g : List Cell} {i : Int} (h : 0 <= i /\ i < (g.length : Int)) : at_ g i ∈ g := by
 unfold at_
 have hl : i.toNat < g.length := by omega
 rw [Zlz, Zbz hl]
 exact List.getElem_mem _
def allP (n : Nat) : List (Int × Int) := (List.range n).flatMap fun (i : Nat) => (List.range n).map fun (k : Nat) => ((i : Int), (k : Int))
def left (g : List Cell) (seen : List (Int × Int)) : Nat := ((allP g.length).filter fun p => !decide (p ∈ seen)).length
theorem Qlf {α : Type} {f h : α -> Bool} (hf : ∀ x, f x = true -> h x = true) : ∀ l : List α, (l.filter f).length <= (l.filter h).length
 | [] => Zcz _
 | x :: l => by
  have := Qlf hf l
  rw [List.filter_cons, List.filter_cons]
  cases hx : f x with
  | true => rw [if_pos rfl, if_pos (hf x hx)]; simp only [Znz]; omega
  | false =>
   rw [if_neg (by simp)]
   split
   ·simp only [Znz]; omega
   ·exact this
theorem Qpl {α : Type} {f h : α -> Bool} (hf : ∀ x, f x = true -> h x = true) {a : α} (ha : h a = true) (hb : f a = false) : ∀ l : List α, a ∈ l -> (l.filter f).length < (l.filter h).length
 | x :: l, hm => by
  rw [List.filter_cons, List.filter_cons]
  rcases List.mem_cons.1 hm with rfl | hm
  ·rw [if_neg (by simp [hb]), if_pos ha]
   have := Qlf hf l
   simp only [Znz]; omega
  ·have := Qpl hf ha hb l hm
   cases hx : f x with
   | true => rw [if_pos rfl, if_pos (hf x hx)]; simp only [Znz]; omega
   | false =>
    rw [if_neg (by simp)]
    split
    ·simp only [Znz]; omega
    ·exact this
structure Done (g : List Cell) (seen s : List (Int × Int)) : Prop where
 sub : ∀ p ∈ seen, p ∈ s
 new : ∀ p ∈ s, p ∈ seen \/ ok g p = true /\ ∀ q ∈ QAb g p, q ∈ s
theorem Done.refl (g : List Cell) (s : List (Int × Int)) : Done g s s := ⟨fun _ h => h, fun _ h => .inl h⟩
theorem Done.trans {g : List Cell} {a b c : List (Int × Int)} (h : Done g a b) (k : Done g b c) : Done g a c :=
 ⟨fun p hp => k.sub p (h.sub p hp), fun p hp => by
  rcases k.new p hp with h1 | h1
  ·rcases h.new p h1 with h2 | h2
   ·exact .inl h2
   ·exact .inr ⟨h2.1, fun q hq => k.sub q (h2.2 q hq)⟩
  ·exact .inr h1⟩
end Go.Core
namespace Go.Core
def push (l : List (Int × Int)) (q : Int × Int) : List (Int × Int) := if q ∈ l then l else l ++ [q]
theorem Qte (x : Cell) : Qgy x x = true := by unfold Qgy; simp
end Go.Core
namespace Go.Core
def sgn (a b : Int) : Int := if a < b then -1 else if b < a then 1 else 0
def sw (p : Int × Int) : Int × Int := (p.2, p.1)
section
variable {eN eC : Int} {g : List Cell} {n : Nat} {u d : List (Int × Int)} {p : Int × Int}
end
end Go.Core
namespace Go.Core
theorem Qxi {x y : Cell} (h1 : x.kind = y.kind) (h2 : x.num = y.num) (h3 : x.text = y.text) (h4 : x.names = y.names) (h5 : x.items.length = y.items.length) : Qgy x y = true := by
 unfold Qgy
 simp only [ZAz, beq_iff_eq, ZBz]
 exact ⟨⟨⟨⟨h1, h2⟩, h3⟩, h4⟩, h5⟩
theorem Qsi {x y : Cell} (h : Qgy x y = true) : x.kind = y.kind /\ x.num = y.num /\ x.text = y.text /\ x.names = y.names /\ x.items.length = y.items.length := by
 unfold Qgy at h
 simp only [ZAz, beq_iff_eq, ZBz] at h
 exact ⟨h.1.1.1.1, h.1.1.1.2, h.1.1.2, h.1.2, h.2⟩
def idx (g : List Cell) (p : Int × Int) : Nat := p.1.toNat * g.length + p.2.toNat
end Go.Core
namespace Go.Core
def outs (g : List Cell) (i : Int) : List Int := (at_ g i).items
inductive To (g : List Cell) : Int -> Int -> Prop where
 | refl (i) : To g i i
 | step {i k j} (h : k ∈ outs g i) (t : To g k j) : To g i j
theorem To.trans {g : List Cell} {a b c : Int} (h : To g a b) (k : To g b c) : To g a c := by
 induction h with
 | refl => exact k
 | step h _ ih => exact .step h (ih k)
def InI (g : List Cell) (i : Int) : Prop := 0 <= i /\ i < (g.length : Int)
theorem Qc5 {g : List Cell} (hg : InG g) {i k : Int} (hi : InI g i) (hk : k ∈ outs g i) : InI g k := hg _ (Qhd hi) _ hk
theorem QBf {g : List Cell} (hg : InG g) {i k : Int} (h : To g i k) : InI g i -> InI g k := by
 induction h with
 | refl => exact id
 | step h _ ih => exact fun hi => ih (Qc5 hg hi h)
def Qb3 (g : List Cell) (l : List Int) : Nat := ((List.range g.length).filter fun (k : Nat) => !decide ((k : Int) ∈ l)).length
theorem Qct {g : List Cell} {s t : List Int} (h : ∀ p ∈ s, p ∈ t) : Qb3 g t <= Qb3 g s := Qlf (fun x hx => by simp at hx ⊢; exact fun k => hx (h _ k)) _
theorem Qdx {g : List Cell} {s : List Int} {i : Int} (hi : InI g i) (hn : i ∉ s) {t : List Int} (ht : ∀ x ∈ s, x ∈ t) (hit : i ∈ t) : Qb3 g t < Qb3 g s := by
 have e : ((i.toNat : Nat) : Int) = i := by have := hi.1; omega
 refine Qpl (a := i.toNat) (fun x hx => by simp at hx ⊢; exact fun k => hx (ht _ k)) (by simp only [e]; simp [hn]) (by simp only [e]; simp [hit]) _ (List.mem_range.2 (by have := hi.1; have := hi.2; omega))
theorem Qf2 (g : List Cell) (l : List Int) : Qb3 g l <= g.length := Zwz (List.length_filter_le _ _) (by simp)
def Qbk (g : List Cell) : Nat -> List Int -> Int -> List Int
 | 0, l, _ => l
 | n + 1, l, i => if i ∈ l then l else (outs g i).foldl (Qbk g n) (l ++ [i])
structure Qzr (g : List Cell) (i : Int) (l t : List Int) : Prop where
 sub : ∀ x ∈ l, x ∈ t
 new : ∀ x ∈ t, x ∈ l \/ To g i x /\ ∀ k ∈ outs g x, k ∈ t
theorem Qma {g : List Cell} {f : List Int -> Int -> List Int} {i : Int} {m : Nat} (hf : ∀ l k, k ∈ outs g i -> Qb3 g l <= m -> Qzr g k l (f l k) /\ k ∈ f l k) :
  ∀ (ks l : List Int), (∀ k ∈ ks, k ∈ outs g i) -> Qb3 g l <= m -> Qzr g i l (ks.foldl f l) /\ ∀ k ∈ ks, k ∈ ks.foldl f l
 | [], l, _, _ => ⟨⟨fun _ h => h, fun _ h => .inl h⟩, fun _ h => by cases h⟩
 | k :: ks, l, hk, hm => by
  obtain ⟨d1, h1⟩ := hf l k (hk k (by simp)) hm
  obtain ⟨d2, h2⟩ := Qma hf ks (f l k) (fun x hx => hk x (by simp [hx])) (Zwz (Qct d1.sub) hm)
  rw [List.foldl_cons]
  refine ⟨⟨fun x hx => d2.sub x (d1.sub x hx), fun x hx => ?_⟩, fun x hx => ?_⟩
  ·rcases d2.new x hx with h3 | h3
   ·rcases d1.new x h3 with h4 | h4
    ·exact .inl h4
    ·exact .inr ⟨.step (hk k (by simp)) h4.1, fun y hy => d2.sub y (h4.2 y hy)⟩
   ·exact .inr h3
  ·rcases List.mem_cons.1 hx with rfl | hx
   ·exact d2.sub _ h1
   ·exact h2 x hx
theorem Qmb {g : List Cell} (hg : InG g) : ∀ (n : Nat) (l : List Int) (i : Int), InI g i -> Qb3 g l < n -> Qzr g i l (Qbk g n l i) /\ i ∈ Qbk g n l i
 | 0, _, _, _, h => by omega
 | n + 1, l, i, hi, h => by
  unfold Qbk
  split
  ·rename_i hm
   exact ⟨⟨fun _ h => h, fun _ h => .inl h⟩, hm⟩
  ·rename_i hm
   have hlt := Qdx hi hm (t := l ++ [i]) (fun x hx => by simp [hx]) (by simp)
   obtain ⟨d, hall⟩ := Qma (i := i) (m := Qb3 g (l ++ [i])) (fun l k hk h1 => Qmb hg n l k (Qc5 hg hi hk) (by omega)) (outs g i) (l ++ [i]) (fun _ h => h) (Zcz _)
   refine ⟨⟨fun x hx => d.sub x (by simp [hx]), fun x hx => ?_⟩, d.sub i (by simp)⟩
   rcases d.new x hx with h1 | h1
   ·rcases Zmz.1 h1 with h2 | h2
    ·exact .inl h2
    ·rw [Zgz.1 h2]
     exact .inr ⟨.refl i, hall⟩
   ·exact .inr h1
theorem Qkr {g : List Cell} (hg : InG g) {n : Nat} (hn : g.length < n) {i : Int} (hi : InI g i) (j : Int) : j ∈ Qbk g n [] i ↔ To g i j := by
 obtain ⟨d, h1⟩ := Qmb hg n [] i hi (Nat.lt_of_le_of_lt (Qf2 g []) hn)
 refine ⟨fun h => ((d.new j h).resolve_left (by simp)).1, fun h => ?_⟩
 have : ∀ a b, To g a b -> a ∈ Qbk g n [] i -> b ∈ Qbk g n [] i := by
  intro a b hab
  induction hab with
  | refl => exact id
  | step hs _ ih => exact fun ha => ih (((d.new _ ha).resolve_left (by simp)).2 _ hs)
 exact this i j h h1
def anyL {α : Type} (f : α -> Int -> Bool × α) : α -> List Int -> Bool × α
 | d, [] => (false, d)
 | d, k :: l => match f d k with
  | (true, d') => (true, d')
  | (false, d') => anyL f d' l
def Qgc (g : List Cell) : Nat -> List Int -> List Int -> Int -> Bool × List Int
 | 0, _, d, _ => (true, d)
 | n + 1, u, d, i => if i ∈ u then (true, d) else if i ∈ d then (false, d) else match anyL (Qgc g n (i :: u)) d (outs g i) with
  | (b, d') => (b, i :: d')
def FinH (g : List Cell) : Nat -> Int -> Prop
 | 0, _ => False
 | h + 1, i => ∀ k ∈ outs g i, FinH g h k
theorem Qle {g : List Cell} : ∀ (h : Nat) (i : Int), FinH g h i -> FinH g (h + 1) i
 | 0, _, k => k.elim
 | h + 1, _, k => fun x hx => Qle h x (k x hx)
theorem Qpk {g : List Cell} {h k : Nat} (hk : h <= k) {i : Int} (x : FinH g h i) : FinH g k i := by
 induction hk with
 | refl => exact x
 | step _ ih => exact Qle _ _ ih
def Fin_ (g : List Cell) (i : Int) : Prop := ∃ h, FinH g h i
theorem QAn {g : List Cell} {i : Int} (h : ∀ k ∈ outs g i, Fin_ g k) : Fin_ g i := by
 have : ∀ l : List Int, (∀ k ∈ l, Fin_ g k) -> ∃ m, ∀ k ∈ l, FinH g m k := by
  intro l
  induction l with
  | nil => exact fun _ => ⟨0, fun _ h => by cases h⟩
  | cons x l ih =>
   intro hl
   obtain ⟨m, hm⟩ := ih fun k hk => hl k (by simp [hk])
   obtain ⟨m2, hm2⟩ := hl x (by simp)
   refine ⟨max m m2, fun k hk => ?_⟩
   rcases List.mem_cons.1 hk with rfl | hk
   ·exact Qpk (Nat.le_max_right _ _) hm2
   ·exact Qpk (Nat.le_max_left _ _) (hm k hk)
 obtain ⟨m, hm⟩ := this _ h
 exact ⟨m + 1, hm⟩
theorem Qy9 {g : List Cell} {i k : Int} (h : Fin_ g i) (hk : k ∈ outs g i) : Fin_ g k := by
 obtain ⟨m, hm⟩ := h
 cases m with
 | zero => exact hm.elim
 | succ m => exact ⟨m, hm k hk⟩
theorem Qpy {g : List Cell} {f : List Int -> Int -> Bool × List Int} (hf : ∀ d k d', f d k = (false, d') -> (∀ x ∈ d, Fin_ g x) -> Fin_ g k /\ ∀ x ∈ d', Fin_ g x) :
  ∀ (l d d' : List Int), anyL f d l = (false, d') -> (∀ x ∈ d, Fin_ g x) -> (∀ k ∈ l, Fin_ g k) /\ ∀ x ∈ d', Fin_ g x
 | [], d, d', h, hd => by cases h; exact ⟨(fun _ h => by cases h), hd⟩
 | k :: l, d, d', h, hd => by
  unfold anyL at h
  obtain ⟨⟨b, d1⟩, hx⟩ : ∃ x, f d k = x := ⟨_, rfl⟩
  rw [hx] at h
  cases b with
  | true => cases h
  | false =>
   obtain ⟨h1, h2⟩ := hf d k d1 hx hd
   obtain ⟨h3, h4⟩ := Qpy hf l d1 d' h h2
   exact ⟨fun x hx => (List.mem_cons.1 hx).elim (fun e => e ▸ h1) (h3 x), h4⟩
theorem Qi8 {g : List Cell} : ∀ (n : Nat) (u d : List Int) (i : Int) (d' : List Int), Qgc g n u d i = (false, d') -> (∀ x ∈ d, Fin_ g x) -> Fin_ g i /\ ∀ x ∈ d', Fin_ g x
 | 0, _, _, _, _, h, _ => by cases h
 | n + 1, u, d, i, d', h, hd => by
  unfold Qgc at h
  split at h
  ·cases h
  ·split at h
   ·rename_i hm
    cases h
    exact ⟨hd i hm, hd⟩
   ·obtain ⟨⟨b, d1⟩, hx⟩ : ∃ x, anyL (Qgc g n (i :: u)) d (outs g i) = x := ⟨_, rfl⟩
    rw [hx] at h
    simp only [Prod.mk.injEq] at h
    obtain ⟨rfl, rfl⟩ := h
    obtain ⟨h1, h2⟩ := Qpy (fun d k d' => Qi8 n (i :: u) d k d') _ _ _ hx hd
    have hi : Fin_ g i := QAn h1
    exact ⟨hi, fun x hx => (List.mem_cons.1 hx).elim (fun e => e ▸ hi) (h2 x)⟩
structure Ring (g : List Cell) (S : List Int) : Prop where
 some : S ≠ []
 on : ∀ x ∈ S, ∃ y ∈ S, y ∈ outs g x
def Way (g : List Cell) : List Int -> Int -> Prop
 | [], _ => True
 | a :: u, i => i ∈ outs g a /\ Way g u a
theorem Qwk {g : List Cell} : ∀ (u : List Int) (i : Int), Way g u i -> i ∈ u -> ∃ S, (∀ x ∈ S, x ∈ u) /\ Ring g S
 | u, i, hw, hi => by
  have key : ∀ (u : List Int) (b : Int), Way g u b -> i ∈ u -> ∃ S, S ≠ [] /\ i ∈ S /\ (∀ x ∈ S, x ∈ u) /\ ∀ x ∈ S, (∃ y ∈ S, y ∈ outs g x) \/ b ∈ outs g x := by
   intro u
   induction u with
   | nil => intro b _ h; cases h
   | cons a u ih =>
    intro b hw hm
    by_cases ha : i = a
    ·subst ha
     exact ⟨[i], by simp, by simp, by simp, fun x hx => by rw [Zgz.1 hx]; exact .inr hw.1⟩
    ·obtain ⟨S, h1, h2, h3, h4⟩ := ih a hw.2 ((List.mem_cons.1 hm).resolve_left ha)
     refine ⟨a :: S, by simp, by simp [h2], fun x hx => ?_, fun x hx => ?_⟩
     ·rcases List.mem_cons.1 hx with rfl | hx
      ·simp
      ·simp [h3 x hx]
     ·rcases List.mem_cons.1 hx with rfl | hx
      ·exact .inr hw.1
      ·rcases h4 x hx with ⟨y, hy, h5⟩ | h5
       ·exact .inl ⟨y, by simp [hy], h5⟩
       ·exact .inl ⟨a, by simp, h5⟩
  obtain ⟨S, h1, h2, h3, h4⟩ := key u i hw hi
  exact ⟨S, h3, h1, fun x hx => (h4 x hx).elim id fun h => ⟨i, h2, h⟩⟩
theorem Qsh {g : List Cell} {f : List Int -> Int -> Bool × List Int} {i : Int} {T : List Int -> Prop} (hf : ∀ d k d', k ∈ outs g i -> f d k = (true, d') -> ∃ S, T S) :
  ∀ (l d d' : List Int), (∀ k ∈ l, k ∈ outs g i) -> anyL f d l = (true, d') -> ∃ S, T S
 | [], _, _, _, h => by cases h
 | k :: l, d, d', hl, h => by
  unfold anyL at h
  obtain ⟨⟨b, d1⟩, hx⟩ : ∃ x, f d k = x := ⟨_, rfl⟩
  rw [hx] at h
  cases b with
  | true => exact hf d k d1 (hl k (by simp)) hx
  | false => exact Qsh hf l d1 d' (fun x hx => hl x (by simp [hx])) h
theorem Qlm {g : List Cell} (hg : InG g) : ∀ (n : Nat) (u d : List Int) (i : Int) (d' : List Int), InI g i -> Qb3 g u < n -> Way g u i -> Qgc g n u d i = (true, d') -> ∃ S, Ring g S /\ ∀ x ∈ S, x ∈ u \/ To g i x
 | 0, _, _, _, _, _, h, _, _ => by omega
 | n + 1, u, d, i, d', hi, hn, hw, h => by
  unfold Qgc at h
  split at h
  ·rename_i hm
   obtain ⟨S, h1, h2⟩ := Qwk u i hw hm
   exact ⟨S, h2, fun x hx => .inl (h1 x hx)⟩
  ·rename_i hu
   split at h
   ·cases h
   ·obtain ⟨⟨b, d1⟩, hx⟩ : ∃ x, anyL (Qgc g n (i :: u)) d (outs g i) = x := ⟨_, rfl⟩
    rw [hx] at h
    simp only [Prod.mk.injEq] at h
    obtain ⟨rfl, rfl⟩ := h
    have hlt := Qdx hi hu (t := i :: u) (fun x hx => by simp [hx]) (by simp)
    refine Qsh (i := i) (T := fun S => Ring g S /\ ∀ x ∈ S, x ∈ u \/ To g i x) (fun d k d' hk h1 => ?_) _ _ _ (fun _ h => h) hx
    obtain ⟨S, h2, h3⟩ := Qlm hg n (i :: u) d k d' (Qc5 hg hi hk) (by omega) ⟨hk, hw⟩ h1
    refine ⟨S, h2, fun x hx => ?_⟩
    rcases h3 x hx with h4 | h4
    ·rcases List.mem_cons.1 h4 with rfl | h4
     ·exact .inr (.refl _)
     ·exact .inl h4
    ·exact .inr (.step hk h4)
def Qnc (g : List Cell) : Nat -> List Int -> Bool
 | 0, _ => false
 | n + 1, l => if (l.filter fun x => (outs g x).any fun k => decide (k ∈ l)).length = l.length then decide (0 < l.length) else Qnc g n (l.filter fun x => (outs g x).any fun k => decide (k ∈ l))
theorem Qoy {g : List Cell} {S : List Int} (hS : Ring g S) : ∀ (n : Nat) (l : List Int), l.length < n -> (∀ x ∈ S, x ∈ l) -> Qnc g n l = true
 | 0, _, h, _ => by omega
 | n + 1, l, hn, h => by
  have hst : ∀ x ∈ S, x ∈ l.filter fun x => (outs g x).any fun k => decide (k ∈ l) := fun x hx => by
   obtain ⟨y, hy, h1⟩ := hS.on x hx
   exact List.mem_filter.2 ⟨h x hx, List.any_eq_true.2 ⟨y, h1, by simpa using h y hy⟩⟩
  unfold Qnc
  split
  ·obtain ⟨x, hx⟩ := List.exists_mem_of_ne_nil S hS.some
   exact decide_eq_true (List.length_pos_of_mem (h x hx))
  ·rename_i hne
   have := List.length_filter_le (fun x => (outs g x).any fun k => decide (k ∈ l)) l
   exact Qoy hS n _ (by omega) hst
theorem Qya {g : List Cell} {l : List Int} (h : ∀ x ∈ l, ∃ y ∈ l, y ∈ outs g x) : ∀ (m : Nat) (i : Int), FinH g m i -> i ∉ l
 | 0, _, k, _ => k.elim
 | m + 1, i, k, hi => by
  obtain ⟨y, hy, h1⟩ := h i hi
  exact Qya h m y (k y h1) hy
theorem Qrw {g : List Cell} : ∀ (n : Nat) (l : List Int), (∀ x ∈ l, Fin_ g x) -> Qnc g n l = false
 | 0, _, _ => rfl
 | n + 1, l, h => by
  unfold Qnc
  split
  ·rename_i he
   have hf := (List.length_filter_eq_length_iff (p := fun x => (outs g x).any fun k => decide (k ∈ l))).1 he
   refine decide_eq_false fun h0 => ?_
   obtain ⟨x, hx⟩ := List.exists_mem_of_length_pos h0
   obtain ⟨m, hm⟩ := h x hx
   exact Qya (l := l) (fun y hy => by
    obtain ⟨k, h1, h2⟩ := List.any_eq_true.1 (hf y hy)
    exact ⟨k, by simpa using h2, h1⟩) m x hm hx
  ·exact Qrw n _ fun x hx => h x (List.mem_filter.1 hx).1
theorem Qvs {g : List Cell} (hg : InG g) {i : Int} (hi : InI g i) {n m k : Nat} (hn : g.length < n) (hm : g.length < m) (hk : (Qbk g m [] i).length < k) : (Qgc g n [] [] i).1 = Qnc g k (Qbk g m [] i) := by
 obtain ⟨⟨b, d⟩, hx⟩ : ∃ x, Qgc g n [] [] i = x := ⟨_, rfl⟩
 rw [hx]
 cases b with
 | true =>
  obtain ⟨S, h1, h2⟩ := Qlm hg n [] [] i d hi (Nat.lt_of_le_of_lt (Qf2 g []) hn) trivial hx
  exact (Qoy h1 k _ hk fun x hx => (Qkr hg hm hi x).2 ((h2 x hx).resolve_left (by simp))).symm
 | false =>
  obtain ⟨h1, _⟩ := Qi8 n [] [] i d hx (fun _ h => by cases h)
  have : ∀ a b, To g a b -> Fin_ g a -> Fin_ g b := by
   intro a b hab
   induction hab with
   | refl => exact id
   | step hs _ ih => exact fun ha => ih (Qy9 ha hs)
  exact (Qrw k _ fun x hx => this i x ((Qkr hg hm hi x).1 hx) h1).symm
theorem Qxd {g : List Cell} {n : Nat} {i : Int} (h : (Qgc g n [] [] i).1 = false) : Fin_ g i := by
 obtain ⟨⟨b, d⟩, hx⟩ : ∃ x, Qgc g n [] [] i = x := ⟨_, rfl⟩
 rw [hx] at h
 simp only at h
 subst h
 exact (Qi8 n [] [] i d hx (fun _ h => by cases h)).1
end Go.Core
namespace Go.Core
section
variable (M : Nat) (leafT : Cell -> List UInt8) (g : List Cell)
def Qpb (c : Cell) : Bool := decide (c.kind <= 5)
variable {M leafT g}
end
end Go.Core
namespace Go.Core
def Qst (φ : Int -> Int) (c : Cell) : Cell := { c with items := c.items.map φ }
def Qiz (l : List Int) (x : Int) : Int := (l.idxOf x : Nat)
end Go.Core
namespace Go.AX
theorem EffW.mkMap {P : Program} {o : Oper} {s : List AV} {H : List Ent} {K : AV -> List Ent -> Prop} {t : TypeId} (ho : o.op = .makeMap t none) (next : ∀ b, K (.c (.v (.map (some b)))) (H ++ [.mp b #[] 0])) : EffW P o s H K := by
 intro ρ S w a hs hr
 have hS := hs.snocG (e := .mp w.heap.size #[] 0) (l := ⟨0, 0⟩) (w' := w.alloc (.map #[] 0)) (ob := .map #[] 0) (fun _ hb => (Zzz hb).symm) rfl rfl rfl rfl (by show (w.heap.push _)[w.heap.size]? = _; simp)
 refine ⟨_, _, next w.heap.size, _, _, _, _, ?_, .inl rfl, hS.1, hS.2, rfl⟩
 unfold execOp
 simp only [ho, Option.map_none, Sem.run_bind, Sem.run_pure, run_makeMap_plain, ZCz]
theorem EffW.putMap {P : Program} {o : Oper} {s : List AV} {H : List Ent} {K : AV -> List Ent -> Prop} {t kt et : TypeId} {m k x : Operand} {b c : Nat} {es : Array MapEntry} {κ : IntKind} {n : Int} {val : Value} (i : Nat) (ho : o.op = .insert t m k x) (ht : P.underlying t = some (.map kt et)) (hkt : P.underlying kt = some (.int κ))
  (hm : opv s m = .c (.v (.map (some b)))) (hk : opv s k = .c (.v (.int κ n))) (hx : opv s x = .c (.v val)) (hi : nthE H i = some (.mp b es c)) (hf : Instr.findNow (.int κ) (.int κ n) es.toList 0 = some none)
  (next : Qd5 H i (.mp b (es.push { key := .int κ n, val := val, born := c }) (c + 1)) fun H' => K (.c .any) H') : EffW P o s H K := by
 rw [Qbp] at hi
 obtain ⟨_, hk2⟩ := Qa8 next
 refine Effs.w (fun ρ S w a hs hr => ?_) hk2
 have h1 : a.eval m = .map (some b) := by have := Qah hr m; rw [hm] at this; exact this
 have h2 : a.eval k = .int κ n := by have := Qah hr k; rw [hk] at this; exact this
 have h3 : a.eval x = val := by have := Qah hr x; rw [hx] at this; exact this
 have hb : w.heap[b]? = some (.map es c) := hs.ent i _ hi
 have hbl : b < w.heap.size := (Zjz.1 hb).1
 have hc : (Instr.checkKey false 10000 kt (.int κ n)).run P w = .ok () w := MapKept.run_checkKey (k := .int κ n) hkt (by simp [MapKept.IsKey]) false 9999
 have hrun : (Instr.mapUpdate t (.map (some b)) (.int κ n) val).run P w = .ok () { w with heap := w.heap.setIfInBounds b (.map (es.push { key := .int κ n, val := val, born := c }) (c + 1)) } := by
  simp [Instr.mapUpdate, run_underlying ht, MapKept.run_getObj_map hb, hc, MapKept.run_findKey hkt hf, MapKept.run_setObj_map _ hb, Result.andThen]
 have hS := hs.setG (e' := .mp b (es.push { key := .int κ n, val := val, born := c }) (c + 1)) (c := b) (w' := { w with heap := w.heap.setIfInBounds b (.map (es.push { key := .int κ n, val := val, born := c }) (c + 1)) }) hi rfl (by simp) (fun j _ hne => by simp [Ne.symm hne]) rfl rfl rfl (fun _ hc => .inl (Zzz hc).symm) (by show (w.heap.setIfInBounds b _)[b]? = _; simp [hbl])
 refine ⟨.skip, undef, ρ, _, ?_, .inr ⟨rfl, rfl⟩, hS.1, hS.2, trivial⟩
 unfold execOp
 simp only [ho, h1, h2, h3, Sem.run_bind, Sem.run_pure, hrun, ZCz]
end Go.AX
namespace Go.AX
theorem EffW.appTo {P : Program} {o : Oper} {s : List AV} {H : List Ent} {K : AV -> List Ent -> Prop} {Ty T : TypeId} {x y : Operand} {sz n cap b q i : Nat} {xs ys : List Value} {inf : TypeInfo} (zs : List Value) (sz' : Nat) (ho : o.op = .store Ty x y)
  (hx : opv s x = .c (.v (.pointer (some ⟨b, q, none⟩)))) (hi : nthE H i = some (.app T sz xs (some ⟨b, 0, none⟩) n cap)) (hy : Qdz (opv s y) = some (vs ys)) (hone : Qk0 (vs ys) = true) (hinf : P.info? Ty = some inf) (hlen : ys.length = inf.size)
  (hq : q + ys.length <= n * sz) (hz : xs.take q ++ ys ++ xs.drop (q + ys.length) = zs) (hs : sz = sz') (hk : Qd5 H i (.app T sz' zs (some ⟨b, 0, none⟩) n cap) fun H' => K (.c .any) H') : EffW P o s H K := by
 subst hz; subst hs
 exact EffW.app ho hx hi hy hone hinf hlen hq hk
theorem Qfw {xs : List Value} {q : Nat} (v : Value) (h : q < xs.length) : xs.take q ++ [v] ++ xs.drop (q + [v].length) = xs.set q v := by
 rw [List.set_eq_take_append_cons_drop, if_pos h]
 simp
theorem SpecH.args {P : Program} {f : FuncId} {args args' : List AV} {H : List Ent} {K : Out -> List Ent -> Prop} (e : args = args') (h : SpecH P f args' H K) : SpecH P f args H K := e ▸ h
theorem Qkv : ∀ xs : List Value, Qbr (vs xs) = some xs
 | [] => rfl
 | _ :: xs => by simp [vs, Qbr, Qkv xs]
theorem ReadW.bytesOwn {P : Program} {o : Oper} {s : List AV} {H : List Ent} {K : AV -> Prop} {src dst e : TypeId} {x : Operand} {i n : Nat} (l : List UInt8) (hn : l.length = n) (ho : o.op = .convert src dst x) (hs : P.underlying src = some (.slice e))
  (he : P.underlying e = some (.int .u8)) (hd : P.underlying dst = some .string) (hx : opv s x = .c (.sl i n)) (hi : nthE H i = some (.row e 1 n (vs (u8s l)))) (hk : K (.c (.v (.string (bs l))))) : ReadW P o s H K := by
 subst hn
 rw [Qbp] at hi
 refine ⟨.c (.v (.string (bs l))), hk, fun ρ S w ac hsat hr => ⟨.string (bs l), ?_, rfl⟩⟩
 obtain ⟨l', arr, hl, hb, h1, h2, h3, h4, hrel⟩ := hsat.ent i _ hi
 have hxr := Qah hr x
 rw [hx] at hxr
 obtain ⟨l2, hl2, hxe⟩ := hxr
 obtain rfl := Zzz (hl2.symm.trans hl)
 have hrun := run_convert_bytes_back w src dst e ⟨l2.b, 0, none⟩ l2.cap l hs he hd (fun j hj => by
  have e0 := Qmu hrel
  rw [Qck, cell_of_row w l2.b j arr e (0, 0) hb]
  have : (arr.toList.take (l.length * 1))[j]? = (u8s l)[j]? := by rw [e0]
  rw [List.getElem?_take, if_pos (by omega)] at this
  rw [<- Array.getElem?_toList, this]
  simp [u8s, hj])
 unfold execOp
 simp only [ho, hxe, Sem.run_bind, hrun, ZCz, Sem.run_pure]
 rfl
end Go.AX
namespace Go.AX
theorem BlindW.val {P : Program} {o : Oper} {s : List AV} {K : AV -> Prop} (x : Value) (hp : Qar s o.op.operands.toList = true) (hrun : ∀ w, (execOp (Qat s) o).run P w = .ok (.value x) w) (h : K (.c (.v x))) : ∃ x, BlindW P o s K x := ⟨x, hp, hrun, h⟩
theorem ReadW.tl {P : Program} {o : Oper} {s : List AV} {H : List Ent} {K : AV -> Prop} {t : TypeId} {x y : Operand} {c : UInt8} {r : List UInt8} {k : IntKind} (ho : o.op = .slice t x (some y) none none) (hu : P.underlying t = some .string) (hx : opv s x = .c (.v (.string (bs (c :: r))))) (hy : opv s y = .c (.v (.int k 1)))
  (hk : K (.c (.v (.string (bs r))))) : ReadW P o s H K := ReadW.sl_l 1 ho hu hx hy ⟨rfl, by simp⟩ hk
end Go.AX
