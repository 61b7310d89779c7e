/-
  Lemmas (V1 Ax50 V2 P11 C11 Ax47 D1 C12 C13 W1 P12 W2 P13 P14 X1 Ax51 X2 Ax52 X3 P15 MP1 MP2 MP3 MP12 MP4 MP5).
-/
import Derived.RangeFuncBox
import Derived.RangeFuncLeaves
import Derived.Shelf.Abstract
import Derived.WalkKit
import Derived.OwnWalkIn
import Derived.TacticsInMore
import Derived.LoopNIn
import Derived.LoopIn
import Derived.Maps.AppendAt
import Derived.Laws.AppendOwn
import Derived.Sort.OwnSorted
import Derived.Lib.SlicesCompact
import Derived.WideKeyRuns
import Derived.Test.YtgogonnnojcioaaGreatDoorMsh5
set_option linter.unusedVariables false
set_option linter.unusedSimpArgs false
/-
 Contracts: slices.Values and slices.AppendSeq at strings (turned from the guide's worked callers of iterators).
-/
namespace Go.Proofs.YtgogonnnojcioaaGreatDoor
open Go.RowKit Go.Shelf Go.AX Go.Proofs

attribute [local go_sem] Oper.semAt_some

def upto {α : Type} (f : Nat → α) (k : Nat) : List α := (List.range k).map f
theorem upto_succ {α : Type} (f : Nat → α) (k : Nat) : upto f (k + 1) = upto f k ++ [f k] := by simp [upto, List.range_succ]
theorem upto_length {α : Type} (f : Nat → α) (k : Nat) : (upto f k).length = k := by simp [upto]
theorem upto_all (zs : List (List UInt8)) : upto (fun j => zs[j]?.getD []) zs.length = zs := by
 apply List.ext_getElem
 ·simp [upto]
 ·intro i h1 h2
  simp [upto, h2]
theorem upto_take (zs : List (List UInt8)) {k : Nat} (hk : k ≤ zs.length) : upto (fun j => zs[j]?.getD []) k = zs.take k := by
 apply List.ext_getElem
 ·simp [upto, hk]
 ·intro i h1 h2
  have : i < zs.length := by simp [upto] at h1; omega
  simp [upto, this]

set_option maxRecDepth 100000 in
set_option maxHeartbeats 4000000 in
theorem values1_in (F : Fence) (n : Nat) (h7 : F.fn 135) (hro : F.round = none) (hn : 1 ≤ n) (l Bs n₀ b off len cap : Nat) (zs : List (List UInt8)) (hreach : len * 16 ≤ 140737488351232) (hb : b < n₀) (J Jx : List (List UInt8) → World → Prop)
  (hY : ∀ pre x W, J pre W → pre.length < len → YieldAt F (n - 1) Tryz.prog l #[.string (bs x)] W fun e W' =>
   (e = .returned (.bool true) ∧ J (pre ++ [x]) W' ∧ Below n₀ W W') ∨ (e = .returned (.bool false) ∧ Jx (pre ++ [x]) W'))
  (W : World) (hBs : W.cell? ⟨Bs, 0, none⟩ = some (.slice (some ⟨b, off, none⟩) len cap)) (hc : ∀ j, j < len → W.cell? ⟨b, off + j, none⟩ = some (.string (bs (zs[j]?.getD [])))) (h0 : J [] W) :
  CallsIn F n Tryz.prog 135 #[.func (.yield l) #[] #[], .pointer (some ⟨Bs, 0, none⟩)] W fun e W' => (∃ v, e = .returned v) ∧
   ((∃ ys, ys = upto (fun j => zs[j]?.getD []) len ∧ J ys W') ∨ (∃ pre, (∃ k, k ≤ len ∧ pre = upto (fun j => zs[j]?.getD []) k) ∧ Jx pre W')) := by
 refine callsIn_of_wp Tryz.func135 rfl h7 ?_ hro
 simp only [Tryz.ntmps135, List.size_toArray, List.length_cons, List.length_nil, Nat.reduceAdd, Nat.reduceSub, Array.replicate_succ, Array.replicate_zero, List.push_toArray, List.append_toArray, List.nil_append, List.cons_append]
 gi_wp2
 gi_loopw [7] (fun i wr => ∃ k : Nat, k ≤ len ∧ i = .int .i64 k ∧ J (upto (fun j => zs[j]?.getD []) k) wr ∧ Below n₀ W wr)
  (fun i _ => len - (intOf i).toNat)
 case atStart => exact ⟨0, Nat.zero_le _, rfl, h0, Below.refl _ _⟩
 case round =>
  obtain ⟨k, hk, rfl, hJs, hnx⟩ := hrel
  have hcx : k < len → wr.cell? ⟨b, off + k, none⟩ = some (.string (bs (zs[k]?.getD []))) := fun h => (hnx.cell (p := ⟨b, off + k, none⟩) hb).trans (hc k h)
  by_cases hlt : k < len
  ·obtain ⟨fn, tmps, assign, body, hy, hR⟩ := hY _ (zs[k]?.getD []) wr hJs (by rw [upto_length]; exact hlt)
   have hcx' := hcx hlt
   gi_wp2
   refine hR.mono ?_
   rintro e W3 (⟨rfl, hJ3, hk3⟩ | ⟨rfl, hJx3⟩)
   ·gi_wp2
    go_roundw
    case rel => exact ⟨k + 1, by omega, by simp, by rw [upto_succ]; exact hJ3, hnx.trans hk3⟩
    case measure => simp [intOf]; omega
   ·gi_wp2
    refine bodyPost_ret (results_none rfl _ _ _) rfl ?_
    exact ⟨⟨_, rfl⟩, .inr ⟨_, ⟨k + 1, by omega, (upto_succ _ _).symm⟩, hJx3⟩⟩
  ·obtain rfl : k = len := by omega
   gi_wp2
   go_end0
   exact ⟨⟨_, rfl⟩, .inl ⟨_, rfl, hJs⟩⟩
def StrsAt (n₀ : Nat) (W : World) (sv : Value) (zs : List (List UInt8)) : Prop :=
 (∃ a cap, sv = .slice a 0 cap ∧ zs = []) ∨ ∃ b off cap, sv = .slice (some ⟨b, off, none⟩) zs.length cap ∧ b < n₀ ∧ ∀ j, j < zs.length → W.cell? ⟨b, off + j, none⟩ = some (.string (bs (zs[j]?.getD [])))
theorem StrsAt.below {n₀ : Nat} {A B : World} (h : Below n₀ A B) {sv : Value} {zs : List (List UInt8)} : StrsAt n₀ A sv zs → StrsAt n₀ B sv zs
 | .inl e => .inl e
 | .inr ⟨b, off, cap, e, hb, hc⟩ => .inr ⟨b, off, cap, e, hb, fun j hj => (h.cell (p := ⟨b, off + j, none⟩) hb).trans (hc j hj)⟩

set_option maxRecDepth 100000 in
set_option maxHeartbeats 1000000 in
theorem values1_nil_in (F : Fence) (n : Nat) (h7 : F.fn 135) (hro : F.round = none) (l Bs : Nat) (a : Option Addr) (cap : Nat) (J : List (List UInt8) → World → Prop) (W : World) (hBs : W.cell? ⟨Bs, 0, none⟩ = some (.slice a 0 cap)) (h0 : J [] W) :
  CallsIn F n Tryz.prog 135 #[.func (.yield l) #[] #[], .pointer (some ⟨Bs, 0, none⟩)] W fun e W' => (∃ v, e = .returned v) ∧ J [] W' := by
 refine callsIn_of_wp Tryz.func135 rfl h7 ?_ hro
 simp only [Tryz.ntmps135, List.size_toArray, List.length_cons, List.length_nil, Nat.reduceAdd, Nat.reduceSub, Array.replicate_succ, Array.replicate_zero, List.push_toArray, List.append_toArray, List.nil_append, List.cons_append]
 gi_wp2
 gi_loopw [7] (fun i wr => i = .int .i64 0 ∧ J [] wr) (fun _ _ => 0)
 case atStart => exact ⟨rfl, h0⟩
 case round =>
  obtain ⟨rfl, hJs⟩ := hrel
  gi_wp2
  go_end0
  exact ⟨⟨_, rfl⟩, hJs⟩

theorem values_stops (F : Fence) (n : Nat) (h7 : F.fn 135) (hro : F.round = none) (hn : 1 ≤ n) (Bs n₀ : Nat) (sv : Value) (zs : List (List UInt8)) (hreach : zs.length * 16 ≤ 140737488351232) (w : World) (hBs : Bs < w.heap.size) (hn₀ : n₀ ≤ w.heap.size)
  (hc : w.cell? ⟨Bs, 0, none⟩ = some sv) (hI : StrsAt n₀ w sv zs) :
  SeqStopsK F n Tryz.prog 135 #[.pointer (some ⟨Bs, 0, none⟩)] (fun x : List UInt8 => #[Value.string (bs x)]) (Below n₀) (fun ys => ys = zs) (fun pre => pre <+: zs) zs.length w := fun l J Jx W hW _ _ hY h0 => by
 have hc' := (hW.cell (p := ⟨Bs, 0, none⟩) hBs).trans hc
 rcases hI.below (hW.mono hn₀) with ⟨a, cap, rfl, rfl⟩ | ⟨b, off, cap, rfl, hb, hcs⟩
 ·exact (values1_nil_in F n h7 hro l Bs a cap J W hc' h0).mono fun e W' ⟨he, hj⟩ => ⟨he, .inl ⟨_, rfl, hj⟩⟩
 ·refine (values1_in F n h7 hro hn l Bs n₀ b off zs.length cap zs hreach hb J Jx hY W hc' hcs h0).mono ?_
  rintro e W' ⟨he, ⟨ys, rfl, hj⟩ | ⟨pre, ⟨k, hk, rfl⟩, hj⟩⟩
  ·exact ⟨he, .inl ⟨_, upto_all zs, hj⟩⟩
  ·exact ⟨he, .inr ⟨_, by rw [upto_take zs hk]; exact List.take_prefix _ _, hj⟩⟩

theorem info_str : (Tryz.prog.info? 9).map (fun i => (i.zero, i.size, i.bytes)) = some (some (.string ⟨#[]⟩), 1, 16) := by kernel_rfl

set_option maxRecDepth 100000 in
set_option maxHeartbeats 4000000 in
theorem appendSeq_in (F : Fence) (n : Nat) (h3 : F.fn 154) (h5 : F.fn 135) (hro : F.round = none) (hn : 3 ≤ n) (Bs : Nat) (sv : Value) (zs : List (List UInt8)) (hlen : zs.length ≤ maxLen) (hbytes : zs.length * 16 ≤ 140737488351232) (w : World) (hBs : Bs < w.heap.size)
  (hcs : w.cell? ⟨Bs, 0, none⟩ = some sv) (hL : StrsAt w.heap.size w sv zs) :
  CallsIn F n Tryz.prog 154 #[.slice none 0 0, .func (.func 135) #[] #[.pointer (some ⟨Bs, 0, none⟩)]] w fun e W' => ∃ v, e = .returned v ∧ W'.ownsRow w.heap.size 9 1 v zs.length (zs.map fun x => Value.string (bs x)) ∧ Below w.heap.size w W' := by
 have h1 : 1 ≤ n := by omega
 obtain ⟨i0, hi, hz0, hz1, hz2⟩ := info_parts info_str
 refine callsIn_of_wp_marks Tryz.func154 rfl h3 ?_ hro
 simp only [Tryz.ntmps154, List.size_toArray, List.length_cons, List.length_nil, Nat.reduceAdd, Nat.reduceSub, Array.replicate_succ, Array.replicate_zero, List.push_toArray, List.append_toArray, List.nil_append, List.cons_append]
 gi_wp2
 have bO := Boxed.new w 55 (.slice none 0 0)
 have hB0 : Below w.heap.size w (w.alloc (.cells #[.slice none 0 0] 55)) := (Below.refl _ w).alloc (Nat.le_refl _) _
 refine wpIn_rangeFunc_ownG hro h1 (gf := 135) (lb := #[.pointer (some ⟨Bs, 0, none⟩)]) rfl h5 (enters_of Tryz.func135 (by kernel_rfl) rfl)
  (values_stops F (n - 1) h5 hro (by omega) Bs w.heap.size sv zs hbytes _ (by simp; omega) (by simp) ((hB0.cell (p := ⟨Bs, 0, none⟩) hBs).trans hcs) (hL.below hB0)) belowK_t (belowK_b (by simp)) (Below.refl _ _) (fun _ => rfl)
  (fun pre W => (∃ v, Boxed W w.heap.size 55 v ∧ W.ownsRow w.heap.size 9 1 v pre.length (pre.map fun x => Value.string (bs x)) ∧ True) ∧ Below w.heap.size w W)
  (fun _ _ _ => False)
  (OwnFrom.and (Own.from (holdsRow_own w.heap.size w.heap.size 55 9 1 (fun pre : List (List UInt8) => pre.length) (fun pre => pre.map fun x => Value.string (bs x)) (fun _ _ => True)) _) (ownFrom_below (Nat.le_refl _) (by simp)))
  (fun _ _ _ _ _ hs _ _ => hs)
  ⟨⟨_, bO, World.ownsRow_nil _ _ _ _, trivial⟩, hB0⟩
  (fun x => { tmps := #[.slice none 0 0, .func (.func 135) #[] #[.pointer (some ⟨Bs, 0, none⟩)], .pointer (some ⟨w.heap.size, 0, none⟩), undef, .slice none 0 0, .string (bs x), .func (.func 135) #[] #[.pointer (some ⟨Bs, 0, none⟩)], .string (bs x), undef, undef, undef, undef, undef], defers := [] }) ?assign ?body ?done ?stop
 case assign =>
  intro l x W K hK
  gi_wp2
  exact hK
 case body =>
  rintro l pre x W ⟨⟨v, hv, hrow, _⟩, hB⟩ hlt
  have hc := hv.cell
  gi_wp2_with (gi_at_builtin; refine wpListIn_append_own _ rfl _ _ 55 rfl w.heap.size 9 i0 (.string ⟨#[]⟩) 1 16 Tryz.underlying55 hi hz0 hz1 hz2 rfl (by decide) _ _ _ rfl (hrow.alloc _) ⟨W.heap.size, 0, none⟩ 1 1 [.string (bs x)] rfl rfl (cell_one_new _ _ _) (by simp [Value.oneCell']) (by omega) (by omega) (by have := hB.size; simp; omega) ?_; intro v' w1 hown' hgrow _; obtain ⟨g', cap', rfl⟩ := ownsRow_succ hown'; obtain ⟨hv1, hv2, hr2, hk2, hb2⟩ := hv.appended (by decide) hrow hB.size (Nat.le_refl _) hown' hgrow; have hc1 := hv1.cell; have hf1 := hv1.frozen)
  exact ⟨hk2.from _, hb2, ⟨_, hv2, by simpa using hr2, trivial⟩, hB.trans hb2⟩
 case done =>
  rintro D ys W hD rfl ⟨⟨v, hv, hrow, _⟩, hB⟩ hK
  have hc := hv.cell
  gi_wp2
  refine ⟨by simp, .inl ⟨_, _, rfl, run_takeDeferred hK, ?_⟩⟩
  exact ⟨_, results_tmp rfl _ _ _, v, rfl, ownsRow_putObj hrow _ hK rfl, hB.trans (belowK_b (w := w) (Nat.le_refl _) W D _ _ (by simp at hD; omega) hK rfl rfl)⟩
 case stop =>
  rintro D c pre W _ _ h _
  exact h.elim
end Go.Proofs.YtgogonnnojcioaaGreatDoor

/-
 AX, fiftieth text: a call over plain values that hands back a slice of its own, with room behind it, perhaps nil.
-/
namespace Go.AX
open Go.RowKit

theorem Sat.addApp {ρ : List Loc} {S : Nat → Prop} {H : List Ent} {w w' : World} {T : TypeId} {sz n cap g : Nat} {ys : List Value} (hs : Sat ρ S H w) (h : Below w.heap.size w w') (hg : w.heap.size ≤ g) (hrow : RowF T sz n ys g cap w') :
  Sat (ρ ++ [⟨0, 0⟩]) S (H ++ [.app T sz ys (some ⟨g, 0, none⟩) n cap]) w' ∧ Ev ρ S H w (ρ ++ [⟨0, 0⟩]) S (H ++ [.app T sz ys (some ⟨g, 0, none⟩) n cap]) w' := by
 have h1 := hs.below h
 have hcase : ∀ (i : Nat) (e : Ent), (H ++ [Ent.app T sz ys (some ⟨g, 0, none⟩) n cap])[i]? = some e → (i < H.length ∧ H[i]? = some e) ∨ (i = H.length ∧ e = .app T sz ys (some ⟨g, 0, none⟩) n cap) := fun i e he => by
  by_cases hi : i < H.length
  ·rw [List.getElem?_append_left hi] at he; exact .inl ⟨hi, he⟩
  ·have hi2 : i = H.length := by
    have := (List.getElem?_eq_some_iff.1 he).1
    simp at this; omega
   subst hi2
   simp at he
   exact .inr ⟨rfl, he.symm⟩
 have hb2 : ∀ (i : Nat) (e : Ent) (b : Nat), (H ++ [Ent.app T sz ys (some ⟨g, 0, none⟩) n cap])[i]? = some e → entB (ρ ++ [⟨0, 0⟩]) i e b → (H[i]? = some e ∧ entB ρ i e b) ∨ (i = H.length ∧ b = g) := fun i e b he hb => by
  rcases hcase i e he with ⟨hi, he'⟩ | ⟨hi, rfl⟩
  ·rw [entB_pre _ (by rw [hs.len]; exact hi)] at hb
   exact .inl ⟨he', hb⟩
  ·exact .inr ⟨hi, (Option.some.inj hb).symm⟩
 refine ⟨⟨by simp [hs.len], fun i e he => ?_, fun i j e f b he hf heb hfb => ?_, fun b ⟨i, e, he, hb⟩ hn => ?_, h1.low⟩, ⟨⟨[⟨0, 0⟩], rfl⟩, h.os, h.tape, h.output, h.size, fun b hb _ => h.block b hb, fun b hb => .inl hb, fun b ⟨i, e, he, hb⟩ => ?_⟩⟩
 ·rcases hcase i e he with ⟨hi, he'⟩ | ⟨hi, rfl⟩
  ·have := (hs.ent i e he').move (w' := w') [⟨0, 0⟩] (fun b hb => h.block _ (hs.blk_lt he' hb)) fun b hb => h.block b (hs.low b hb)
   exact this
  ·exact .inr ⟨g, rfl, hrow⟩
 ·rcases hb2 i e b he heb with ⟨a1, a2⟩ | ⟨a1, a2⟩ <;> rcases hb2 j f b hf hfb with ⟨b1, b2⟩ | ⟨b1, b2⟩
  ·exact hs.inj i j e f b a1 b1 a2 b2
  ·have := hs.blk_lt a1 a2; omega
  ·have := hs.blk_lt b1 b2; omega
  ·omega
 ·rcases hb2 i e b he hb with ⟨a1, a2⟩ | ⟨_, a2⟩
  ·exact hs.out b ⟨i, e, a1, a2⟩ hn
  ·have := hs.low b hn; omega
 ·rcases hb2 i e b he hb with ⟨a1, a2⟩ | ⟨_, a2⟩
  ·exact .inl ⟨i, e, a1, a2⟩
  ·exact .inr (by omega)
theorem SpecH.rawN {P : Program} {f : FuncId} {xs : List Value} {H : List Ent} {K : Out → List Ent → Prop} {T : TypeId} {sz n : Nat} {ys : List Value} (ok : CallOk P f)
  (h : ∀ w, Facts H w → Calls P f xs.toArray w fun e w' => ∃ v, e = .returned v ∧ w'.ownsRow w.heap.size T sz v n ys ∧ Below w.heap.size w w')
  (hk0 : n = 0 → snocK H (.app T sz [] none 0 0) 0 fun H' _ => K (.val (.c (.v (.slice none 0 0)))) H')
  (hk : ∀ b cap : Nat, n ≤ cap → snocK H (.app T sz ys (some ⟨b, 0, none⟩) n cap) 0 fun H' _ => K (.val (.c (.v (.slice (some ⟨b, 0, none⟩) n cap)))) H') : SpecH P f (pvs xs) H K := by
 simp only [snocK_eq] at hk hk0
 refine ⟨ok, fun ρ S w vs hs hr => ?_⟩
 obtain rfl := RelS_pvs hr
 refine (h w hs.facts).mono fun e w' ⟨v, he, hrow, bel⟩ => ?_
 rcases hrow.2 with ⟨rfl, h0⟩ | ⟨g, cap, cur, rfl, hg, hb, h1, h2, h3, h4⟩
 ·have hs' := (hs.below bel).pad [.app T sz [] none 0 0] rfl
  obtain ⟨t, hs2, hev2⟩ := hs'
  refine ⟨ρ ++ t, S, _, .val (.c (.v (.slice none 0 0))), hs2, ?_, ⟨_, he, rfl⟩, hk0 h0⟩
  exact (below_ev (S := S) (S' := S) (ρ := ρ) (H := H) (H' := H) [] bel (fun b hb => .inl hb) (fun b hb => by simpa using hb)).trans (by simpa using hev2)
 ·have hR : RowF T sz n ys g cap w' := ⟨cur, (0, 0), ⟨hb, .inl rfl⟩, hrow.1, h1, h2, h3, h4⟩
  obtain ⟨hs2, hev2⟩ := hs.addApp bel hg hR
  exact ⟨_, S, _, .val (.c (.v (.slice (some ⟨g, 0, none⟩) n cap))), hs2, hev2, ⟨_, he, rfl⟩, hk g cap h1⟩
end Go.AX

/-
 Contracts: slices.AppendSeq, Sort and Compact at strings, over slices of one's own.
-/
namespace Go.Proofs.YtgogonnnojcioaaGreatDoor
open Go.RowKit Go.AX Go.Core Go.Sort Go.Proofs
set_option maxRecDepth 20000

theorem holds_row {T : TypeId} {b cap : Nat} {zs : List (List UInt8)} {w : World} (h : RowF T 1 zs.length (strC zs) b cap w) : Holds encStr w b 0 zs.toArray := by
 obtain ⟨arr, ⟨lo, hi⟩, ⟨hb, hfr⟩, h1, h2, h3, h4, h5⟩ := h
 intro j hj
 have hj' : j < zs.length := by simpa using hj
 have h6 : (arr.toList.take (zs.length * 1))[j]? = (strC zs)[j]? := by rw [h5]
 rw [List.getElem?_take_of_lt (by omega)] at h6
 unfold strC at h6
 rw [List.getElem?_map, List.getElem?_eq_getElem hj'] at h6
 refine ⟨?_, ?_⟩
 ·simp only [World.cell?, hb, Nat.zero_add]
  simp only [Option.isSome_none, Bool.false_eq_true, if_false]
  rw [Array.getElem?_toList] at h6
  rw [h6, getElem!_pos zs.toArray j (by simpa using hj')]
  rfl
 ·simp only [World.frozen?, hb, Nat.zero_add]
  rcases hfr with hfr | hfr
  ·cases hfr; simp
  ·have : ¬ lo ≤ j := by
    simp only at hfr
    have : j < arr.size := by omega
    omega
   simp [this]
theorem row_put {T : TypeId} {b cap k : Nat} {zs ts : List (List UInt8)} {w : World} {os : Array Obj} (h : RowF T 1 zs.length (strC zs) b cap w) (hb : b < w.heap.size) (hl : ts.length = zs.length) : RowF T 1 zs.length (strC ts) b cap (grow (putRow encStr (Sort.ahead w k) b 0 ts.toArray) os) := by
 obtain ⟨arr, fr, ⟨hh, hfr⟩, h1, h2, h3, h4, h5⟩ := h
 have hsz : (putCells encStr 0 ts.toArray arr).size = arr.size := by simp [putCells]
 refine ⟨putCells encStr 0 ts.toArray arr, fr, ⟨?_, by rw [hsz]; exact hfr⟩, by simp [strC, hl], h2, h3, by rw [hsz]; exact h4, ?_⟩
 ·rw [heap_grow_old _ _ (by simp [putRow, mapBlock, Sort.ahead, hb])]
  simp [putRow, mapBlock, Sort.ahead, Array.getElem?_modify, hh, onCells]
 ·rw [Nat.mul_one, ← hl]
  exact take_putCells arr ts (by omega)
def sortS (zs : List (List UInt8)) : List (List UInt8) := zs.mergeSort fun x y => decide (x ≤ y)
theorem sortS_len (zs : List (List UInt8)) : (sortS zs).length = zs.length := (List.mergeSort_perm zs _).length_eq
theorem Sort_c {H : List Ent} {K : Out → List Ent → Prop} (i : Nat) (zs : List (List UInt8)) (b cap : Nat) (hz : zs.length ≤ 40000) (hi : nthE H i = some (.app 9 1 (strC zs) (some ⟨b, 0, none⟩) zs.length cap))
  (hk : setEK H i (.app 9 1 (strC (sortS zs)) (some ⟨b, 0, none⟩) zs.length cap) fun H' => K (.val (.c (.v (.tuple #[])))) H') : SpecH Tryz.prog 134 (pvs [.slice (some ⟨b, 0, none⟩) zs.length cap]) H K :=
 SpecH.rawA (callOk Tryz.func134 (by kernel_rfl) rfl) i hi (R := fun r n' ys' => r = .tuple #[] ∧ n' = zs.length ∧ ys' = strC (sortS zs)) (fun w hrow hb => (Tryz.slices_Sort_string b 0 cap zs w (holds_row hrow) hb (by omega)).mono fun e w' ⟨he, k, os, hw⟩ => by
  subst hw
  have hg := grownBy_sorted (w := w) (g := b) (n := k) (os := os) (sortS zs).toArray
  exact ⟨_, _, _, he, ⟨rfl, rfl, rfl⟩, row_put hrow hb (sortS_len zs), hg.size, fun k hk hne => hg.block k hk (fun e => hne (Option.some.inj e)), hg.os, hg.tape, hg.output⟩) fun r n' ys' ⟨h1, h2, h3⟩ => by
  subst h1 h2 h3
  exact hk
theorem SortNil_c {H : List Ent} {K : Out → List Ent → Prop} (p : Option Addr) (cap : Nat) (hk : K (.val (.c (.v (.tuple #[])))) H) : SpecH Tryz.prog 134 (pvs [.slice p 0 cap]) H K :=
 SpecH.rawP (R := fun r => r = .tuple #[]) (callOk Tryz.func134 (by kernel_rfl) rfl) (fun w _ => (Tryz.slices_Sort_string_none p cap w).mono fun e w' ⟨he, hw⟩ => by
  subst hw
  exact ⟨_, he, rfl, Below.refl _ _⟩) fun r hr => by subst hr; exact hk
theorem Compact_c {H : List Ent} {K : Out → List Ent → Prop} (i : Nat) (zs : List (List UInt8)) (b cap : Nat) (hz : zs.length ≤ 40000) (hcap : zs.length ≤ cap) (hi : nthE H i = some (.app 9 1 (strC zs) (some ⟨b, 0, none⟩) zs.length cap))
  (hk : ∀ ys, setEK H i (.app 9 1 ys (some ⟨b, 0, none⟩) zs.length cap) fun H' => K (.val (.c (.v (.slice (some ⟨b, 0, none⟩) (Lib.compact zs).length cap)))) H') : SpecH Tryz.prog 112 (pvs [.slice (some ⟨b, 0, none⟩) zs.length cap]) H K :=
 SpecH.rawA (callOk Tryz.func112 (by kernel_rfl) rfl) i hi (R := fun r n' _ => r = .slice (some ⟨b, 0, none⟩) (Lib.compact zs).length cap ∧ n' = zs.length) (fun w hrow hb => (Tryz.slices_Compact_string b 0 cap zs w (holds_row hrow) (by omega) hcap).mono fun e w' ⟨he, k, hw⟩ => by
  subst hw
  have hlen : (Lib.compact zs ++ List.replicate (zs.length - (Lib.compact zs).length) []).length = zs.length := by
   have := Lib.compact_length_le zs
   simp
   omega
  have hr := row_put (k := k) (os := #[]) hrow hb hlen
  have hg := grownBy_sorted (w := w) (g := b) (n := k) (os := #[]) (Lib.compact zs ++ List.replicate (zs.length - (Lib.compact zs).length) []).toArray
  rw [grow_empty] at hr hg
  exact ⟨_, _, _, he, ⟨rfl, rfl⟩, hr, hg.size, fun k hk hne => hg.block k hk (fun e => hne (Option.some.inj e)), hg.os, hg.tape, hg.output⟩) fun r n' ys' ⟨h1, h2⟩ => by
  subst h1 h2
  exact hk ys'
theorem Compact_n {H : List Ent} {K : Out → List Ent → Prop} (i : Nat) (zs : List (List UInt8)) (n : Nat) (hn : zs.length = n) (b cap : Nat) (hz : n ≤ 40000) (hcap : n ≤ cap) (hi : nthE H i = some (.app 9 1 (strC zs) (some ⟨b, 0, none⟩) n cap))
  (hk : ∀ ys, setEK H i (.app 9 1 ys (some ⟨b, 0, none⟩) n cap) fun H' => K (.val (.c (.v (.slice (some ⟨b, 0, none⟩) (Lib.compact zs).length cap)))) H') : SpecH Tryz.prog 112 (pvs [.slice (some ⟨b, 0, none⟩) n cap]) H K := by
 subst hn
 exact Compact_c i zs b cap hz hcap hi hk
theorem CompactNil_c {H : List Ent} {K : Out → List Ent → Prop} (p : Option Addr) (cap : Nat) (hk : K (.val (.c (.v (.slice p 0 cap)))) H) : SpecH Tryz.prog 112 (pvs [.slice p 0 cap]) H K :=
 SpecH.rawP (R := fun r => r = .slice p 0 cap) (callOk Tryz.func112 (by kernel_rfl) rfl) (fun w _ => (Tryz.slices_Compact_string_empty p cap w).mono fun e w' ⟨he, hw⟩ => by
  subst hw
  exact ⟨_, he, rfl, Below.refl _ _⟩) fun r hr => by subst hr; exact hk
theorem strs_at {w : World} {a : Option Addr} {cap : Nat} {zs : List (List UInt8)} (h : SlAt a (zs.length * 1) (strC zs) w) : StrsAt w.heap.size w (.slice a zs.length cap) zs ∨ zs = [] := by
 cases zs with
 | nil => exact .inr rfl
 | cons z zs =>
  obtain ⟨h1, h2, h3⟩ := h
  have ha := h2 (by simp)
  obtain ⟨p, rfl⟩ := Option.isSome_iff_exists.1 ha
  have hc : ∀ j, j < (z :: zs).length → w.cell? (p.add j) = (strC (z :: zs))[j]? := fun j hj => h3 j (by omega)
  have h0 := hc 0 (by simp)
  have hsp : p.spot = none ∧ p.block < w.heap.size := by
   have e : (strC (z :: zs))[0]? = some (.string (bs z)) := rfl
   rw [e] at h0
   unfold World.cell? at h0
   split at h0
   ·rename_i c T fr hb
    have hb' : p.block < w.heap.size := (Array.getElem?_eq_some_iff.1 hb).1
    by_cases hs : (p.add 0).spot.isSome
    ·rw [if_pos hs] at h0; cases h0
    ·refine ⟨?_, hb'⟩
     have : ¬ p.spot.isSome = true := hs
     simpa using this
   ·cases h0
  obtain ⟨pb, po, ps⟩ := p
  obtain ⟨rfl, hlt⟩ : ps = none ∧ pb < w.heap.size := hsp
  refine .inl (.inr ⟨pb, po, cap, rfl, hlt, fun j hj => ?_⟩)
  have := hc j hj
  unfold strC at this
  rw [List.getElem?_map, List.getElem?_eq_getElem hj] at this
  rw [List.getElem?_eq_getElem hj]
  rw [add_lit] at this
  exact this
theorem AppendSeq_c {H : List Ent} {K : Out → List Ent → Prop} (B cap : Nat) (a : Option Addr) (zs : List (List UInt8)) (hz : zs.length ≤ 40000) (hF : ∀ w, Facts H w → w.cell? ⟨B, 0, none⟩ = some (.slice a zs.length cap) ∧ SlAt a (zs.length * 1) (strC zs) w)
  (hk0 : zs.length = 0 → snocK H (.app 9 1 [] none 0 0) 0 fun H' _ => K (.val (.c (.v (.slice none 0 0)))) H')
  (hk : ∀ b c : Nat, zs.length ≤ c → snocK H (.app 9 1 (strC zs) (some ⟨b, 0, none⟩) zs.length c) 0 fun H' _ => K (.val (.c (.v (.slice (some ⟨b, 0, none⟩) zs.length c)))) H') :
  SpecH Tryz.prog 154 (pvs [.slice none 0 0, .func (.func 135) #[] #[.pointer (some ⟨B, 0, none⟩)]]) H K := by
 refine SpecH.rawN (T := 9) (sz := 1) (n := zs.length) (ys := strC zs) (callOk Tryz.func154 (by kernel_rfl) rfl) (fun w hw => ?_) hk0 hk
 obtain ⟨h1, h3⟩ := hF w hw
 have hB : B < w.heap.size := by
  unfold World.cell? at h1
  split at h1
  ·rename_i hb; exact (Array.getElem?_eq_some_iff.1 hb).1
  ·cases h1
 have hs : StrsAt w.heap.size w (.slice a zs.length cap) zs := by
  rcases strs_at (cap := cap) h3 with h | h
  ·exact h
  ·subst h
   exact .inl ⟨a, cap, rfl, rfl⟩
 have hm : zs.length ≤ maxLen := by simp only [maxLen]; omega
 exact (callsIn_wide (n := 5)).1 ((appendSeq_in Fence.wide 5 trivial trivial rfl (by omega) B _ zs hm (by omega) w hB h1 hs).mono fun e w' ⟨v, he, hr, hb⟩ => ⟨v, he, hr, hb⟩)
end Go.Proofs.YtgogonnnojcioaaGreatDoor

/-
 Plain: names are different just where sorting them and striking equal neighbours leaves as many.
-/
namespace Go.Core
open Go.Lib

theorem filter_full {α : Type} {p : α → Bool} : ∀ {l : List α}, (l.filter p).length = l.length → ∀ x ∈ l, p x = true
 | [], _, _, h => by cases h
 | a :: l, he, x, h => by
  rw [List.filter_cons] at he
  have hle := List.length_filter_le p l
  cases hp : p a with
  | false => rw [if_neg (by simp [hp])] at he; simp only [List.length_cons] at he; omega
  | true =>
   rw [if_pos hp] at he
   simp only [List.length_cons] at he
   rcases List.mem_cons.1 h with rfl | h
   ·exact hp
   ·exact filter_full (by omega) x h
theorem compact_len (zs : List (List UInt8)) : (compact zs).length = zs.length ↔ ∀ j, j < zs.length → keeps zs.toArray j = true := by
 constructor
 ·intro h j hj
  unfold compact compactUpTo at h
  rw [List.length_map] at h
  exact filter_full (l := List.range zs.length) (by rw [h, List.length_range]) j (List.mem_range.2 hj)
 ·exact fun h => by rw [compact_all zs h]
theorem sorted_nodup {zs : List (List UInt8)} (hs : zs.Pairwise fun a b => decide (a ≤ b) = true) : (∀ j, j < zs.length → keeps zs.toArray j = true) ↔ zs.Nodup := by
 constructor
 ·intro h
  refine List.pairwise_iff_getElem.2 fun i j hi hj hij he => ?_
  have h1 := h j hj
  unfold keeps at h1
  rw [decide_eq_true_eq] at h1
  have h2 : zs.toArray[j]! ≠ zs.toArray[j - 1]! := h1.resolve_left (by omega)
  rw [getElem!_pos zs.toArray j (by simpa using hj), getElem!_pos zs.toArray (j - 1) (by simp; omega)] at h2
  simp only [List.getElem_toArray] at h2
  refine h2 ?_
  rcases Nat.lt_or_ge i (j - 1) with hlt | hge
  ·have a1 := List.pairwise_iff_getElem.1 hs i (j - 1) hi (by omega) hlt
   have a2 := List.pairwise_iff_getElem.1 hs (j - 1) j (by omega) hj (by omega)
   simp only [decide_eq_true_eq] at a1 a2
   rw [he] at a1
   exact List.le_antisymm a1 a2
  ·have e : i = j - 1 := by omega
   subst e
   exact he.symm
 ·intro h j hj
  unfold keeps
  rw [decide_eq_true_eq]
  rcases Nat.eq_zero_or_pos j with h0 | h0
  ·exact .inl h0
  ·refine .inr ?_
   rw [getElem!_pos zs.toArray j (by simpa using hj), getElem!_pos zs.toArray (j - 1) (by simp; omega)]
   simp only [List.getElem_toArray]
   exact Ne.symm (List.pairwise_iff_getElem.1 h (j - 1) j (by omega) hj (by omega))
theorem compact_sort (ss : List (List UInt8)) : (compact (ss.mergeSort fun x y => decide (x ≤ y))).length = ss.length ↔ ss.Nodup := by
 have hp := List.mergeSort_perm ss fun x y => decide (x ≤ y)
 have hs : (ss.mergeSort fun x y => decide (x ≤ y)).Pairwise fun a b => decide (a ≤ b) = true :=
  List.pairwise_mergeSort (fun a b c h1 h2 => by simp only [decide_eq_true_eq] at *; exact List.le_trans h1 h2) (fun a b => by simp only [Bool.or_eq_true, decide_eq_true_eq]; exact List.le_total a b) ss
 rw [← hp.length_eq, compact_len, sorted_nodup hs]
 exact hp.nodup_iff
end Go.Core

/-
 Contract: whether the fields of a cell are valid (program).
-/
namespace Go.Proofs.YtgogonnnojcioaaGreatDoor
open Go.AX Go.RowKit Go.Core Go.Scan
set_option maxRecDepth 20000

def plWords (text : List UInt8) (p5 p10 p14 : Bool) (k : Int) : Option Value :=
 if k = 4 ∧ p5 = true then some (.bool (decide ((text.length : Int) ≤ 2000))) else if k = 5 ∧ p10 = true then some (.bool (decide ((text.length : Int) ≤ 40))) else if k = 8 ∧ p14 = true then some (.bool (icB text)) else none
def plOk (p0 p13 p5 p10 p14 p15 p16 : Bool) : Bool := (!p5 || p0) && (!p10 || p0) && (!p14 || (p0 && p13)) && (!p15 || (p5 && p10 && p14)) && (!p16 || p15)
def plN (p0 p13 p5 p10 p14 p15 p16 : Bool) : Nat := (!p0).toNat + (!p13).toNat + (!p5).toNat + (!p10).toNat + (!p14).toNat + (!p15).toNat + (!p16).toNat
def mpA (p : Bool) (b : Nat) : AV := bif p then .c (.v (.map (some b))) else .c .any
def plS (c : Value) (cb b : Nat) (text : List UInt8) (p0 p13 p15 p16 : Bool) : List AV :=
 .c (.v c) :: .c (.v (.pointer (some ⟨cb, 0, none⟩))) :: .c (.v (.bool false)) :: mpA p16 b :: .c .any :: .c .any :: .c .any :: mpA p0 b ::
  .c (.v (.pointer (some ⟨cb, 2, none⟩))) :: .c (.v (.string (bs text))) :: .c (.v (.int .i64 (text.length : Int))) :: .c (.v (.bool (decide ((text.length : Int) ≤ 2000)))) ::
  .c (.v (.pointer (some ⟨cb, 2, none⟩))) :: .c (.v (.string (bs text))) :: .c (.v (.int .i64 (text.length : Int))) :: .c (.v (.bool (decide ((text.length : Int) ≤ 40)))) ::
  .c (.v (.pointer (some ⟨cb, 2, none⟩))) :: .c (.v (.string (bs text))) :: (bif p13 then .c (.v (.bool (icB text))) else .c .any) :: mpA p15 b :: mkS 111 20 []
def plH (F : World → Prop) (cs : List Value) (cb b cl : Nat) (es : Array MapEntry) (p0 : Bool) : List Ent :=
 .fact F :: .app 57 5 cs (some ⟨cb, 0, none⟩) 1 1 :: (bif p0 then [.mp b es cl] else [])
def plJ (F : World → Prop) (c : Value) (cs : List Value) (cb : Nat) (text : List UInt8) (n : Nat) (ls : Array Bool) (s : List AV) (H : List Ent) : Prop :=
 ∃ (p0 p13 p5 p10 p14 p15 p16 : Bool) (b cl : Nat) (es : Array MapEntry), plOk p0 p13 p5 p10 p14 p15 p16 = true ∧ n = plN p0 p13 p5 p10 p14 p15 p16 ∧ ls = #[p0, true, true, true, true, p5, true, true, true, true, p10, true, true, p13, p14, p15, p16] ∧
  s = plS c cb b text p0 p13 p15 p16 ∧ H = plH F cs cb b cl es p0 ∧ MapIs .i64 es (plWords text p5 p10 p14)
theorem plain1_c (s : List UInt8) (hs : s.length ≤ 200000000000000) : ∀ H, SpecH Tryz.prog 114 (pvs [.string (bs s)]) H (Ret (.bool (!iiB s)) H) := by
 refine pureC hm Tryz.func114 (by kernel_rfl) rfl rfl ?_
 (first | refine wX ?_ | exact wZ)
 refine call1 (IsIvar_c s hs _) ?_
 (first | refine wX ?_ | exact wZ)
theorem CompactN_c (p : Option Addr) (cap : Nat) : ∀ H, SpecH Tryz.prog 112 (pvs [.slice p 0 cap]) H (Ret (.slice p 0 cap) H) := fun _ => CompactNil_c p cap ⟨rfl, rfl⟩
set_option maxHeartbeats 4000000 in
theorem plain_c0 (kind num : Int) (text : List UInt8) (names : List (List UInt8)) (items : List Int) (na : Option Addr) (nc : Nat) (ia : Option Addr) (ic : Nat) (hna : na = none → names = []) (hia : ia = none → items = []) (hnl : names.length ≤ 40000) (hil : items.length ≤ 40000) (hnw : ∀ s ∈ names, s.length ≤ 200000000000000) (htl : text.length ≤ 200000000000000) :
  ∀ H, (∀ w, Facts H w → SlAt na (names.length * 1) (strC names) w ∧ SlAt ia (items.length * 1) (iC items) w) → SpecH Tryz.prog 90 (pvs [.agg #[.int .i64 kind, .int .i64 num, .string (bs text), .slice na names.length nc, .slice ia items.length ic]]) H (Ret (.bool (plainS ⟨kind, num, text, names, items⟩)) H) := by
 refine factC hm Tryz.func90 (by kernel_rfl) rfl rfl ?_
 (first | refine wXB ?_ | exact wZB)
 refine BoxN.known [.int .i64 kind, .int .i64 num, .string (bs text), .slice na names.length nc, .slice ia items.length ic] rfl fun cb => ?_
 (first | refine wXB ?_ | exact wZB)
 refine DrawN.walk hm (fun w => SlAt (some ⟨cb, 0, none⟩) 5 [.int .i64 kind, .int .i64 num, .string (bs text), .slice na names.length nc, .slice ia items.length ic] w) [1, 2, 3, 4, 6, 7, 8, 9, 11, 12] 7 (plJ (fun w => SlAt na (names.length * 1) (strC names) w ∧ SlAt ia (items.length * 1) (iC items) w) (.agg #[.int .i64 kind, .int .i64 num, .string (bs text), .slice na names.length nc, .slice ia items.length ic]) [.int .i64 kind, .int .i64 num, .string (bs text), .slice na names.length nc, .slice ia items.length ic] cb text) (by decide +kernel) (by decide +kernel) (by decide +kernel) ?_ ?_
 ·rintro n ls s H ⟨p0, p13, p5, p10, p14, p15, p16, b, cl, es, hok, rfl, rfl, rfl, rfl, hes⟩
  refine ⟨fun w hw => hw.2.1, ?_⟩
  cases p16 with
  | true =>
   obtain ⟨rfl, rfl, rfl, rfl, rfl, rfl⟩ : p0 = true ∧ p13 = true ∧ p5 = true ∧ p10 = true ∧ p14 = true ∧ p15 = true := by
    clear hes
    revert p0 p13 p5 p10 p14 p15
    decide
   refine .inl ⟨by decide +kernel, ?_⟩
   have hkk : kind < 0 ∨ 8 < kind ∨ kind = 0 ∨ kind = 1 ∨ kind = 2 ∨ kind = 3 ∨ kind = 4 ∨ kind = 5 ∨ kind = 6 ∨ kind = 7 ∨ kind = 8 := by omega
   obtain ⟨j, hj⟩ := hes kind
   rcases hkk with hk | hk | rfl | rfl | rfl | rfl | rfl | rfl | rfl | rfl | rfl
   ·-- what the map holds: nothing
    rw [show plWords text true true true kind = none by unfold plWords; rw [if_neg (by omega), if_neg (by omega), if_neg (by omega)]] at hj
    (first | refine wXE ?_ | exact wZE)
    refine ReadW.askMap none rfl Tryz.underlying125 Tryz.underlying3 rfl rfl rfl rfl (fun w hw => hw.2.2.1) hj ?_
    (first | refine wXE ?_ | exact wZE)
    refine brd_dec (fun _ => ?_) (fun h => absurd hk h)
    (first | refine wXE ?_ | exact wZE)
    exact out_bool (by
     have : ¬ 0 ≤ kind := by omega
     unfold Go.Core.plainS; simp [this])
   ·-- what the map holds: nothing
    rw [show plWords text true true true kind = none by unfold plWords; rw [if_neg (by omega), if_neg (by omega), if_neg (by omega)]] at hj
    (first | refine wXE ?_ | exact wZE)
    refine ReadW.askMap none rfl Tryz.underlying125 Tryz.underlying3 rfl rfl rfl rfl (fun w hw => hw.2.2.1) hj ?_
    (first | refine wXE ?_ | exact wZE)
    refine brd_dec (fun h => absurd h (by omega)) (fun _ => ?_)
    (first | refine wXE ?_ | exact wZE)
    refine brd_dec (fun _ => ?_) (fun h => absurd hk h)
    (first | refine wXE ?_ | exact wZE)
    exact out_bool (by
     have : ¬ kind ≤ 8 := by omega
     unfold Go.Core.plainS; simp [this])
   ·-- what the map holds: nothing
    rw [show plWords text true true true 0 = none by unfold plWords; rw [if_neg (by omega), if_neg (by omega), if_neg (by omega)]] at hj
    (first | refine wXE ?_ | exact wZE)
    refine ReadW.askMap none rfl Tryz.underlying125 Tryz.underlying3 rfl rfl rfl rfl (fun w hw => hw.2.2.1) hj ?_
    (first | refine wXE ?_ | exact wZE)
    rw [bs_list]
    cases ht : text == ([] : List UInt8) with
    | false =>
     have ht0 : text ≠ [] := fun e => by rw [e] at ht; cases ht
     (first | refine wXE ?_ | exact wZE)
     exact out_bool (by unfold Go.Core.plainS; simp [ht0])
    | true =>
    have ht0 : text = [] := eq_of_beq ht
    (first | refine wXE ?_ | exact wZE)
    refine brd_ne (fun hu => ?_) (fun hu => ?_)
    ·(first | refine wXE ?_ | exact wZE)
     exact out_bool (by unfold Go.Core.plainS; simp [hu])
    (first | refine wXE ?_ | exact wZE)
    refine brd_dec (fun h => absurd h (by omega)) (fun _ => ?_)
    (first | refine wXE ?_ | exact wZE)
    refine brd_dec (fun h => absurd h (by omega)) (fun _ => ?_)
    (first | refine wXE ?_ | exact wZE)
    refine call1 (isLeaf_c 0 _) ?_
    (first | refine wXE ?_ | exact wZE)
    refine brd_eq (fun h1 => ?_) (fun h1 => ?_)
    ·have hi0 : items = [] := List.eq_nil_of_length_eq_zero (by omega)
     (first | refine wXE ?_ | exact wZE)
     exact out_bool (by
      have hmx : -Go.Core.maxI ≤ 0 ∧ (0 : Int) ≤ Go.Core.maxI := by decide
      rw [Bool.eq_iff_iff]
      unfold Go.Core.plainS
      simp [hi0, ht0, hu, hmx]
      try exact ⟨fun h => List.eq_nil_of_length_eq_zero (by omega), fun h => by rw [h]; rfl⟩)
    ·have hi0 : items ≠ [] := fun e => by rw [e] at h1; exact h1 rfl
     (first | refine wXE ?_ | exact wZE)
     exact out_bool (by unfold Go.Core.plainS; simp [hi0])
   ·-- what the map holds: nothing
    rw [show plWords text true true true 1 = none by unfold plWords; rw [if_neg (by omega), if_neg (by omega), if_neg (by omega)]] at hj
    (first | refine wXE ?_ | exact wZE)
    refine ReadW.askMap none rfl Tryz.underlying125 Tryz.underlying3 rfl rfl rfl rfl (fun w hw => hw.2.2.1) hj ?_
    (first | refine wXE ?_ | exact wZE)
    rw [bs_list]
    cases ht : text == ([] : List UInt8) with
    | false =>
     have ht0 : text ≠ [] := fun e => by rw [e] at ht; cases ht
     (first | refine wXE ?_ | exact wZE)
     exact out_bool (by unfold Go.Core.plainS; simp [ht0])
    | true =>
    have ht0 : text = [] := eq_of_beq ht
    (first | refine wXE ?_ | exact wZE)
    refine brd_ne (fun hu => ?_) (fun hu => ?_)
    ·(first | refine wXE ?_ | exact wZE)
     exact out_bool (by unfold Go.Core.plainS; simp [hu])
    (first | refine wXE ?_ | exact wZE)
    refine brd_dec (fun h => absurd h (by omega)) (fun _ => ?_)
    (first | refine wXE ?_ | exact wZE)
    refine brd_dec (fun h => absurd h (by omega)) (fun _ => ?_)
    (first | refine wXE ?_ | exact wZE)
    refine call1 (isLeaf_c 1 _) ?_
    (first | refine wXE ?_ | exact wZE)
    refine brd_eq (fun h1 => ?_) (fun h1 => ?_)
    ·have hi0 : items = [] := List.eq_nil_of_length_eq_zero (by omega)
     (first | refine wXE ?_ | exact wZE)
     exact out_bool (by
      have hmx : -Go.Core.maxI ≤ 0 ∧ (0 : Int) ≤ Go.Core.maxI := by decide
      rw [Bool.eq_iff_iff]
      unfold Go.Core.plainS
      simp [hi0, ht0, hu, hmx]
      try exact ⟨fun h => List.eq_nil_of_length_eq_zero (by omega), fun h => by rw [h]; rfl⟩)
    ·have hi0 : items ≠ [] := fun e => by rw [e] at h1; exact h1 rfl
     (first | refine wXE ?_ | exact wZE)
     exact out_bool (by unfold Go.Core.plainS; simp [hi0])
   ·-- what the map holds: nothing
    rw [show plWords text true true true 2 = none by unfold plWords; rw [if_neg (by omega), if_neg (by omega), if_neg (by omega)]] at hj
    (first | refine wXE ?_ | exact wZE)
    refine ReadW.askMap none rfl Tryz.underlying125 Tryz.underlying3 rfl rfl rfl rfl (fun w hw => hw.2.2.1) hj ?_
    (first | refine wXE ?_ | exact wZE)
    rw [bs_list]
    cases ht : text == ([] : List UInt8) with
    | false =>
     have ht0 : text ≠ [] := fun e => by rw [e] at ht; cases ht
     (first | refine wXE ?_ | exact wZE)
     exact out_bool (by unfold Go.Core.plainS; simp [ht0])
    | true =>
    have ht0 : text = [] := eq_of_beq ht
    (first | refine wXE ?_ | exact wZE)
    refine brd_ne (fun hu => ?_) (fun hu => ?_)
    ·(first | refine wXE ?_ | exact wZE)
     exact out_bool (by unfold Go.Core.plainS; simp [hu])
    (first | refine wXE ?_ | exact wZE)
    refine brd_dec (fun h => absurd h (by omega)) (fun _ => ?_)
    (first | refine wXE ?_ | exact wZE)
    refine brd_dec (fun h => absurd h (by omega)) (fun _ => ?_)
    (first | refine wXE ?_ | exact wZE)
    refine call1 (isLeaf_c 2 _) ?_
    (first | refine wXE ?_ | exact wZE)
    refine brd_eq (fun h1 => ?_) (fun h1 => ?_)
    ·have hi0 : items = [] := List.eq_nil_of_length_eq_zero (by omega)
     (first | refine wXE ?_ | exact wZE)
     exact out_bool (by
      have hmx : -Go.Core.maxI ≤ 0 ∧ (0 : Int) ≤ Go.Core.maxI := by decide
      rw [Bool.eq_iff_iff]
      unfold Go.Core.plainS
      simp [hi0, ht0, hu, hmx]
      try exact ⟨fun h => List.eq_nil_of_length_eq_zero (by omega), fun h => by rw [h]; rfl⟩)
    ·have hi0 : items ≠ [] := fun e => by rw [e] at h1; exact h1 rfl
     (first | refine wXE ?_ | exact wZE)
     exact out_bool (by unfold Go.Core.plainS; simp [hi0])
   ·-- what the map holds: nothing
    rw [show plWords text true true true 3 = none by unfold plWords; rw [if_neg (by omega), if_neg (by omega), if_neg (by omega)]] at hj
    (first | refine wXE ?_ | exact wZE)
    refine ReadW.askMap none rfl Tryz.underlying125 Tryz.underlying3 rfl rfl rfl rfl (fun w hw => hw.2.2.1) hj ?_
    (first | refine wXE ?_ | exact wZE)
    rw [bs_list]
    cases ht : text == ([] : List UInt8) with
    | false =>
     have ht0 : text ≠ [] := fun e => by rw [e] at ht; cases ht
     (first | refine wXE ?_ | exact wZE)
     exact out_bool (by unfold Go.Core.plainS; simp [ht0])
    | true =>
    have ht0 : text = [] := eq_of_beq ht
    (first | refine wXE ?_ | exact wZE)
    refine brd_dec (fun hb1 => ?_) (fun hb1 => ?_)
    ·(first | refine wXE ?_ | exact wZE)
     exact out_bool (by
      have : ¬ (-Go.Core.maxI ≤ num) := by show ¬ (-1000000000000000 ≤ num); omega
      unfold Go.Core.plainS; simp [this])
    (first | refine wXE ?_ | exact wZE)
    refine brd_dec (fun hb2 => ?_) (fun hb2 => ?_)
    ·(first | refine wXE ?_ | exact wZE)
     exact out_bool (by
      have : ¬ (num ≤ Go.Core.maxI) := by show ¬ (num ≤ 1000000000000000); omega
      unfold Go.Core.plainS; simp [this])
    (first | refine wXE ?_ | exact wZE)
    have hq1 : -Go.Core.maxI ≤ num := by show -1000000000000000 ≤ num; omega
    have hq2 : num ≤ Go.Core.maxI := by show num ≤ 1000000000000000; omega
    refine call1 (isLeaf_c 3 _) ?_
    (first | refine wXE ?_ | exact wZE)
    refine brd_eq (fun h1 => ?_) (fun h1 => ?_)
    ·have hi0 : items = [] := List.eq_nil_of_length_eq_zero (by omega)
     (first | refine wXE ?_ | exact wZE)
     exact out_bool (by
      have hmx : -Go.Core.maxI ≤ 0 ∧ (0 : Int) ≤ Go.Core.maxI := by decide
      rw [Bool.eq_iff_iff]
      unfold Go.Core.plainS
      simp [hi0, ht0, hq1, hq2, hmx]
      try exact ⟨fun h => List.eq_nil_of_length_eq_zero (by omega), fun h => by rw [h]; rfl⟩)
    ·have hi0 : items ≠ [] := fun e => by rw [e] at h1; exact h1 rfl
     (first | refine wXE ?_ | exact wZE)
     exact out_bool (by unfold Go.Core.plainS; simp [hi0])
   ·-- 4: the kind, decide ((text.length : Int) ≤ 2000): what the map holds
    rw [show plWords text true true true 4 = some (.bool (decide ((text.length : Int) ≤ 2000))) by simp [plWords]] at hj
    (first | refine wXE ?_ | exact wZE)
    refine ReadW.askMap (some (j, .bool (decide ((text.length : Int) ≤ 2000)))) rfl Tryz.underlying125 Tryz.underlying3 rfl rfl rfl rfl (fun w hw => hw.2.2.1) hj ?_
    (first | refine wXE ?_ | exact wZE)
    cases hf : decide ((text.length : Int) ≤ 2000) with
    | false =>
     (first | refine wXE ?_ | exact wZE)
     exact out_bool (by unfold Go.Core.plainS; simp [show ¬ text.length ≤ 2000 from fun h => of_decide_eq_false hf (by omega)])
    | true =>
    (first | refine wXE ?_ | exact wZE)
    refine brd_ne (fun hu => ?_) (fun hu => ?_)
    ·(first | refine wXE ?_ | exact wZE)
     exact out_bool (by unfold Go.Core.plainS; simp [hu])
    (first | refine wXE ?_ | exact wZE)
    refine brd_dec (fun h => absurd h (by omega)) (fun _ => ?_)
    (first | refine wXE ?_ | exact wZE)
    refine brd_dec (fun h => absurd h (by omega)) (fun _ => ?_)
    (first | refine wXE ?_ | exact wZE)
    refine call1 (isLeaf_c 4 _) ?_
    (first | refine wXE ?_ | exact wZE)
    refine brd_eq (fun h1 => ?_) (fun h1 => ?_)
    ·have hi0 : items = [] := List.eq_nil_of_length_eq_zero (by omega)
     (first | refine wXE ?_ | exact wZE)
     exact out_bool (by
      have hmx : -Go.Core.maxI ≤ 0 ∧ (0 : Int) ≤ Go.Core.maxI := by decide
      rw [Bool.eq_iff_iff]
      unfold Go.Core.plainS
      simp [hi0, hu, show text.length ≤ 2000 from by have := of_decide_eq_true hf; omega, hmx]
      try exact ⟨fun h => List.eq_nil_of_length_eq_zero (by omega), fun h => by rw [h]; rfl⟩)
    ·have hi0 : items ≠ [] := fun e => by rw [e] at h1; exact h1 rfl
     (first | refine wXE ?_ | exact wZE)
     exact out_bool (by unfold Go.Core.plainS; simp [hi0])
   ·-- 5: the kind, decide ((text.length : Int) ≤ 40): what the map holds
    rw [show plWords text true true true 5 = some (.bool (decide ((text.length : Int) ≤ 40))) by simp [plWords]] at hj
    (first | refine wXE ?_ | exact wZE)
    refine ReadW.askMap (some (j, .bool (decide ((text.length : Int) ≤ 40)))) rfl Tryz.underlying125 Tryz.underlying3 rfl rfl rfl rfl (fun w hw => hw.2.2.1) hj ?_
    (first | refine wXE ?_ | exact wZE)
    cases hf : decide ((text.length : Int) ≤ 40) with
    | false =>
     (first | refine wXE ?_ | exact wZE)
     exact out_bool (by unfold Go.Core.plainS; simp [show ¬ text.length ≤ 40 from fun h => of_decide_eq_false hf (by omega)])
    | true =>
    (first | refine wXE ?_ | exact wZE)
    refine brd_ne (fun hu => ?_) (fun hu => ?_)
    ·(first | refine wXE ?_ | exact wZE)
     exact out_bool (by unfold Go.Core.plainS; simp [hu])
    (first | refine wXE ?_ | exact wZE)
    refine brd_dec (fun h => absurd h (by omega)) (fun _ => ?_)
    (first | refine wXE ?_ | exact wZE)
    refine brd_dec (fun h => absurd h (by omega)) (fun _ => ?_)
    (first | refine wXE ?_ | exact wZE)
    refine call1 (isLeaf_c 5 _) ?_
    (first | refine wXE ?_ | exact wZE)
    refine brd_eq (fun h1 => ?_) (fun h1 => ?_)
    ·have hi0 : items = [] := List.eq_nil_of_length_eq_zero (by omega)
     (first | refine wXE ?_ | exact wZE)
     exact out_bool (by
      have hmx : -Go.Core.maxI ≤ 0 ∧ (0 : Int) ≤ Go.Core.maxI := by decide
      rw [Bool.eq_iff_iff]
      unfold Go.Core.plainS
      simp [hi0, hu, show text.length ≤ 40 from by have := of_decide_eq_true hf; omega, hmx]
      try exact ⟨fun h => List.eq_nil_of_length_eq_zero (by omega), fun h => by rw [h]; rfl⟩)
    ·have hi0 : items ≠ [] := fun e => by rw [e] at h1; exact h1 rfl
     (first | refine wXE ?_ | exact wZE)
     exact out_bool (by unfold Go.Core.plainS; simp [hi0])
   ·-- what the map holds: nothing
    rw [show plWords text true true true 6 = none by unfold plWords; rw [if_neg (by omega), if_neg (by omega), if_neg (by omega)]] at hj
    (first | refine wXE ?_ | exact wZE)
    refine ReadW.askMap none rfl Tryz.underlying125 Tryz.underlying3 rfl rfl rfl rfl (fun w hw => hw.2.2.1) hj ?_
    (first | refine wXE ?_ | exact wZE)
    rw [bs_list]
    cases ht : text == ([] : List UInt8) with
    | false =>
     have ht0 : text ≠ [] := fun e => by rw [e] at ht; cases ht
     (first | refine wXE ?_ | exact wZE)
     exact out_bool (by unfold Go.Core.plainS; simp [ht0])
    | true =>
    have ht0 : text = [] := eq_of_beq ht
    (first | refine wXE ?_ | exact wZE)
    refine brd_ne (fun hu => ?_) (fun hu => ?_)
    ·(first | refine wXE ?_ | exact wZE)
     exact out_bool (by unfold Go.Core.plainS; simp [hu])
    (first | refine wXE ?_ | exact wZE)
    refine brd_dec (fun h => absurd h (by omega)) (fun _ => ?_)
    (first | refine wXE ?_ | exact wZE)
    refine brd_dec (fun h => absurd h (by omega)) (fun _ => ?_)
    (first | refine wXE ?_ | exact wZE)
    refine call1 (isLeaf_c 6 _) ?_
    (first | refine wXE ?_ | exact wZE)
    refine brd_eq (fun h1 => ?_) (fun h1 => ?_)
    ·have hn0 : names = [] := List.eq_nil_of_length_eq_zero (by omega)
     (first | refine wXE ?_ | exact wZE)
     exact out_bool (by
      have hmx : -Go.Core.maxI ≤ 0 ∧ (0 : Int) ≤ Go.Core.maxI := by decide
      rw [Bool.eq_iff_iff]
      unfold Go.Core.plainS
      simp [hn0, ht0, hu, hmx]
      try (rw [Int.tmod_eq_emod_of_nonneg (by omega)]; omega))
    ·have hn0 : names ≠ [] := fun e => by rw [e] at h1; exact h1 rfl
     (first | refine wXE ?_ | exact wZE)
     exact out_bool (by unfold Go.Core.plainS; simp [hn0])
   ·-- what the map holds: nothing
    rw [show plWords text true true true 7 = none by unfold plWords; rw [if_neg (by omega), if_neg (by omega), if_neg (by omega)]] at hj
    (first | refine wXE ?_ | exact wZE)
    refine ReadW.askMap none rfl Tryz.underlying125 Tryz.underlying3 rfl rfl rfl rfl (fun w hw => hw.2.2.1) hj ?_
    (first | refine wXE ?_ | exact wZE)
    rw [bs_list]
    cases ht : text == ([] : List UInt8) with
    | false =>
     have ht0 : text ≠ [] := fun e => by rw [e] at ht; cases ht
     (first | refine wXE ?_ | exact wZE)
     exact out_bool (by unfold Go.Core.plainS; simp [ht0])
    | true =>
    have ht0 : text = [] := eq_of_beq ht
    (first | refine wXE ?_ | exact wZE)
    refine brd_ne (fun hu => ?_) (fun hu => ?_)
    ·(first | refine wXE ?_ | exact wZE)
     exact out_bool (by unfold Go.Core.plainS; simp [hu])
    (first | refine wXE ?_ | exact wZE)
    refine brd_dec (fun h => absurd h (by omega)) (fun _ => ?_)
    (first | refine wXE ?_ | exact wZE)
    refine brd_dec (fun h => absurd h (by omega)) (fun _ => ?_)
    (first | refine wXE ?_ | exact wZE)
    refine call1 (isLeaf_c 7 _) ?_
    (first | refine wXE ?_ | exact wZE)
    refine brd_eq (fun h1 => ?_) (fun h1 => ?_)
    ·have hn0 : names = [] := List.eq_nil_of_length_eq_zero (by omega)
     (first | refine wXE ?_ | exact wZE)
     exact out_bool (by
      have hmx : -Go.Core.maxI ≤ 0 ∧ (0 : Int) ≤ Go.Core.maxI := by decide
      rw [Bool.eq_iff_iff]
      unfold Go.Core.plainS
      simp [hn0, ht0, hu, hmx]
      try (rw [Int.tmod_eq_emod_of_nonneg (by omega)]; omega))
    ·have hn0 : names ≠ [] := fun e => by rw [e] at h1; exact h1 rfl
     (first | refine wXE ?_ | exact wZE)
     exact out_bool (by unfold Go.Core.plainS; simp [hn0])
   ·-- 8: the kind, icB text: what the map holds
    rw [show plWords text true true true 8 = some (.bool (icB text)) by simp [plWords]] at hj
    (first | refine wXE ?_ | exact wZE)
    refine ReadW.askMap (some (j, .bool (icB text))) rfl Tryz.underlying125 Tryz.underlying3 rfl rfl rfl rfl (fun w hw => hw.2.2.1) hj ?_
    (first | refine wXE ?_ | exact wZE)
    cases hf : icB text with
    | false =>
     (first | refine wXE ?_ | exact wZE)
     exact out_bool (by unfold Go.Core.plainS; simp [hf])
    | true =>
    (first | refine wXE ?_ | exact wZE)
    refine brd_ne (fun hu => ?_) (fun hu => ?_)
    ·(first | refine wXE ?_ | exact wZE)
     exact out_bool (by unfold Go.Core.plainS; simp [hu])
    (first | refine wXE ?_ | exact wZE)
    refine brd_dec (fun h => absurd h (by omega)) (fun _ => ?_)
    (first | refine wXE ?_ | exact wZE)
    refine brd_dec (fun h => absurd h (by omega)) (fun _ => ?_)
    (first | refine wXE ?_ | exact wZE)
    refine call1 (isLeaf_c 8 _) ?_
    (first | refine wXE ?_ | exact wZE)
    refine spec_of_exec hm Tryz.func111 (by kernel_rfl) rfl rfl ?_
    (first | refine wXB ?_ | exact wZB)
    refine BoxN.known [.slice na names.length nc] rfl fun vb => ?_
    (first | refine wXE ?_ | exact wZE)
    refine spec_of_exec hm Tryz.func110 (by kernel_rfl) rfl rfl ?_
    (first | refine wXE ?_ | exact wZE)
    refine spec_of_exec hm Tryz.func133 (by kernel_rfl) rfl rfl ?_
    (first | refine wXE ?_ | exact wZE)
    refine SpecH.args (args' := pvs [.slice none 0 0, .func (.func 135) #[] #[.pointer (some ⟨vb, 0, none⟩)]]) (by simp [pvs, opvs, opv, nth, plainEv]; try rfl) ?_
    refine AppendSeq_c vb nc na names (by omega) (fun w hw => ⟨?_, hw.1.1⟩) (fun h0 => ?_) (fun b2 c2 hc2 => ?_)
    ·have := (hw.2.2.2.1).2.2 0 (by simp)
     exact this
    ·have hnn : names = [] := List.eq_nil_of_length_eq_zero h0
     (first | refine wXE ?_ | exact wZE)
     refine SpecH.args (args' := pvs [.slice none 0 0]) (by simp [pvs, opvs, opv, nth, plainEv]; try rfl) ?_
     refine SortNil_c none 0 ?_
     (first | refine wXE ?_ | exact wZE)
     refine brd_eq (fun hln => ?_) (fun hln => ?_)
     ·(first | refine wXE ?_ | exact wZE)
      refine callQ (CompactN_c none 0 _) ?_
      (first | refine wXE ?_ | exact wZE)
      refine brd_eq (fun _ => ?_) (fun h => absurd (show (0 : Int) = (names.length : Int) by omega) h)
      (first | refine wXE ?_ | exact wZE)
      refine callQ (HasS_c (fun s => !iiB s) 114 #[] (fun _ => True) na nc names (fun p hp H _ => plain1_c p (hnw p hp) H) hna (by omega) _ (fun w hw => ⟨hw.1.1, trivial⟩)) ?_
      (first | refine wXE ?_ | exact wZE)
      exact out_bool (by
       have hmx : -Go.Core.maxI ≤ 0 ∧ (0 : Int) ≤ Go.Core.maxI := by decide
       have hi0 : items.length = 0 := by omega
       unfold Go.Core.plainS
       simp [hnn, hu, hmx, hf, hi0])
     ·(first | refine wXE ?_ | exact wZE)
      exact out_bool (by
       have : ¬ names.length = items.length := by omega
       unfold Go.Core.plainS; simp [this])
    ·(first | refine wXE ?_ | exact wZE)
     refine SpecH.args (args' := pvs [.slice (some ⟨b2, 0, none⟩) names.length c2]) (by simp [pvs, opvs, opv, nth, plainEv]; try rfl) ?_
     refine Sort_c 4 names b2 c2 (by omega) rfl ?_
     ((conv => whnf); (repeat ((first | refine LdN.one (a := some ⟨cb, 0, none⟩) (q := 0) (xs := [_, _, _, _, _]) _ rfl (fun w hw => hw.2.1) rfl ?_ | refine LdN.one (a := some ⟨cb, 0, none⟩) (q := 1) (xs := [_, _, _, _, _]) _ rfl (fun w hw => hw.2.1) rfl ?_ | refine LdN.one (a := some ⟨cb, 0, none⟩) (q := 2) (xs := [_, _, _, _, _]) _ rfl (fun w hw => hw.2.1) rfl ?_ | refine LdN.one (a := some ⟨cb, 0, none⟩) (q := 3) (xs := [_, _, _, _, _]) _ rfl (fun w hw => hw.2.1) rfl ?_ | refine LdN.one (a := some ⟨cb, 0, none⟩) (q := 4) (xs := [_, _, _, _, _]) _ rfl (fun w hw => hw.2.1) rfl ?_ | refine RwN.own ?_ | refine VrN.norm (wrap_i64 (by omega)) ?_ | refine VrN.keep ?_ | refine Nd.mk (by decide +kernel) ?_ | refine Nd.mk (by omega) ?_ | (refine Nd.mk ?_ ?_; focus ((repeat' (first | exact trivial | exact wkE_refl _ | refine And.intro ?_ ?_)); done)) | refine RdN.intro _ rfl (by rfl) ?_); (conv => whnf))))
     refine DrawN.planR hm (fun w => SlAt (some ⟨cb, 0, none⟩) 5 [.int .i64 8, .int .i64 num, .string (bs text), .slice na names.length nc, .slice ia items.length ic] w) [0, 3] [(1, 1), (2, 1), (4, 1), (5, 1), (6, 1), (7, 1), (8, 1), (11, 1), (12, 1), (13, 1), (9, 0), (10, 1), (14, 1), (15, 1), (16, 1), (17, 1), (18, 1), (19, 0), (20, 1), (21, 1), (22, 1)] (by decide +kernel) (fun w hw => hw.2.1) ?_
     ((conv => whnf); (repeat ((first | refine Nd.mk (fun w hw => hw.2.1) ?_ | refine VrN.norm (wrap_i64 (by omega)) ?_ | refine VrN.keep ?_ | refine Nd.mk (by decide +kernel) ?_ | refine Nd.mk (by omega) ?_ | refine RdN.intro _ rfl (by rfl) ?_); (conv => whnf))))
     refine ReadC.one (T := 55) (x := .tmp 109) (a := some ⟨cb, 0, none⟩) (q := 3) (k := 5) (xs := [.int .i64 8, .int .i64 num, .string (bs text), .slice na names.length nc, .slice ia items.length ic]) (.slice na names.length nc) ?_ ?_ ?_ ?_ ?_ ?_
     ·rfl
     ·rfl
     ·rfl
     ·exact fun w hw => hw
     ·rfl
     ((conv => whnf); (repeat ((first | refine Nd.mk (fun w hw => hw.2.1) ?_ | refine VrN.norm (wrap_i64 (by omega)) ?_ | refine VrN.keep ?_ | refine Nd.mk (by decide +kernel) ?_ | refine Nd.mk (by omega) ?_ | refine RdN.intro _ rfl (by rfl) ?_); (conv => whnf))))
     refine BlindW.len (x := .tmp 110) (T := 55) (p := na) (n := names.length) (c := nc) rfl rfl rfl Tryz.underlying55 ?_ ?_
     ·rfl
     ((conv => whnf); (repeat ((first | refine Nd.mk (fun w hw => hw.2.1) ?_ | refine VrN.norm (wrap_i64 (by omega)) ?_ | refine VrN.keep ?_ | refine Nd.mk (by decide +kernel) ?_ | refine Nd.mk (by omega) ?_ | refine RdN.intro _ rfl (by rfl) ?_); (conv => whnf))))
     refine ReadC.one (T := 22) (x := .tmp 112) (a := some ⟨cb, 0, none⟩) (q := 4) (k := 5) (xs := [.int .i64 8, .int .i64 num, .string (bs text), .slice na names.length nc, .slice ia items.length ic]) (.slice ia items.length ic) ?_ ?_ ?_ ?_ ?_ ?_
     ·rfl
     ·rfl
     ·rfl
     ·exact fun w hw => hw
     ·rfl
     ((conv => whnf); (repeat ((first | refine Nd.mk (fun w hw => hw.2.1) ?_ | refine VrN.norm (wrap_i64 (by omega)) ?_ | refine VrN.keep ?_ | refine Nd.mk (by decide +kernel) ?_ | refine Nd.mk (by omega) ?_ | refine RdN.intro _ rfl (by rfl) ?_); (conv => whnf))))
     refine BlindW.len (x := .tmp 113) (T := 22) (p := ia) (n := items.length) (c := ic) rfl rfl rfl Tryz.underlying22 ?_ ?_
     ·rfl
     ((conv => whnf); (repeat ((first | refine Nd.mk (fun w hw => hw.2.1) ?_ | refine VrN.norm (wrap_i64 (by omega)) ?_ | refine VrN.keep ?_ | refine Nd.mk (by decide +kernel) ?_ | refine Nd.mk (by omega) ?_ | refine RdN.intro _ rfl (by rfl) ?_); (conv => whnf))))
     refine brd_eq (fun hln => ?_) (fun hln => ?_)
     ·-- fun w hw => hw.2.1: why the kind holds
      ((conv => whnf); (repeat ((first | refine Nd.mk (fun w hw => hw.2.1) ?_ | refine VrN.norm (wrap_i64 (by omega)) ?_ | refine VrN.keep ?_ | refine Nd.mk (by decide +kernel) ?_ | refine Nd.mk (by omega) ?_ | refine RdN.intro _ rfl (by rfl) ?_); (conv => whnf))))
      refine ReadC.one (T := 55) (x := .tmp 120) (a := some ⟨cb, 0, none⟩) (q := 3) (k := 5) (xs := [.int .i64 8, .int .i64 num, .string (bs text), .slice na names.length nc, .slice ia items.length ic]) (.slice na names.length nc) ?_ ?_ ?_ ?_ ?_ ?_
      ·rfl
      ·rfl
      ·rfl
      ·exact fun w hw => hw
      ·rfl
      ((conv => whnf); (repeat ((first | refine Nd.mk (fun w hw => hw.2.1) ?_ | refine VrN.norm (wrap_i64 (by omega)) ?_ | refine VrN.keep ?_ | refine Nd.mk (by decide +kernel) ?_ | refine Nd.mk (by omega) ?_ | refine RdN.intro _ rfl (by rfl) ?_); (conv => whnf))))
      refine BlindW.len (x := .tmp 121) (T := 55) (p := na) (n := names.length) (c := nc) rfl rfl rfl Tryz.underlying55 ?_ ?_
      ·rfl
      ((conv => whnf); (repeat ((first | refine Nd.mk (fun w hw => hw.2.1) ?_ | refine VrN.norm (wrap_i64 (by omega)) ?_ | refine VrN.keep ?_ | refine Nd.mk (by decide +kernel) ?_ | refine Nd.mk (by omega) ?_ | refine RdN.intro _ rfl (by rfl) ?_); (conv => whnf))))
      refine Compact_n 4 (sortS names) names.length (sortS_len names) b2 c2 (by omega) hc2 rfl fun ys => ?_
      ((conv => whnf); (repeat ((first | refine Nd.mk (fun w hw => hw.2.1) ?_ | refine VrN.norm (wrap_i64 (by omega)) ?_ | refine VrN.keep ?_ | refine Nd.mk (by decide +kernel) ?_ | refine Nd.mk (by omega) ?_ | refine RdN.intro _ rfl (by rfl) ?_); (conv => whnf))))
      refine BlindW.len (x := .tmp 118) (T := 55) (p := some ⟨b2, 0, none⟩) (n := (Lib.compact (sortS names)).length) (c := c2) rfl rfl rfl Tryz.underlying55 ?_ ?_
      ·rfl
      ((conv => whnf); (repeat ((first | refine Nd.mk (fun w hw => hw.2.1) ?_ | refine VrN.norm (wrap_i64 (by omega)) ?_ | refine VrN.keep ?_ | refine Nd.mk (by decide +kernel) ?_ | refine Nd.mk (by omega) ?_ | refine RdN.intro _ rfl (by rfl) ?_); (conv => whnf))))
      have hcs := compact_sort names
      refine brd_eq (fun hcp => ?_) (fun hcp => ?_)
      ·-- fun w hw => hw.2.1: why the kind holds
       ((conv => whnf); (repeat ((first | refine Nd.mk (fun w hw => hw.2.1) ?_ | refine VrN.norm (wrap_i64 (by omega)) ?_ | refine VrN.keep ?_ | refine Nd.mk (by decide +kernel) ?_ | refine Nd.mk (by omega) ?_ | refine RdN.intro _ rfl (by rfl) ?_); (conv => whnf))))
       refine ReadC.one (T := 55) (x := .tmp 126) (a := some ⟨cb, 0, none⟩) (q := 3) (k := 5) (xs := [.int .i64 8, .int .i64 num, .string (bs text), .slice na names.length nc, .slice ia items.length ic]) (.slice na names.length nc) ?_ ?_ ?_ ?_ ?_ ?_
       ·rfl
       ·rfl
       ·rfl
       ·exact fun w hw => hw
       ·rfl
       ((conv => whnf); (repeat ((first | refine Nd.mk (fun w hw => hw.2.1) ?_ | refine VrN.norm (wrap_i64 (by omega)) ?_ | refine VrN.keep ?_ | refine Nd.mk (by decide +kernel) ?_ | refine Nd.mk (by omega) ?_ | refine RdN.intro _ rfl (by rfl) ?_); (conv => whnf))))
       refine call1 (HasS_c (fun s => !iiB s) 114 #[] (fun _ => True) na nc names (fun p hp H _ => plain1_c p (hnw p hp) H) hna (by omega) _ (fun w hw => ⟨hw.1.1, trivial⟩)) ?_
       ((conv => whnf); (repeat ((first | refine Nd.mk (fun w hw => hw.2.1) ?_ | refine VrN.norm (wrap_i64 (by omega)) ?_ | refine VrN.keep ?_ | refine Nd.mk (by decide +kernel) ?_ | refine Nd.mk (by omega) ?_ | refine RdN.intro _ rfl (by rfl) ?_); (conv => whnf))))
       exact out_bool (by
        have hmx : -Go.Core.maxI ≤ 0 ∧ (0 : Int) ≤ Go.Core.maxI := by decide
        have hl : names.length = items.length := by omega
        have hnd : names.Nodup := hcs.1 (by unfold sortS at hcp; omega)
        have hal : (!names.any fun s => !iiB s) = names.all iiB := by rw [List.all_eq_not_any_not]
        rw [hal]
        unfold Go.Core.plainS
        simp [hl, hnd, hu, hmx, hf])
      ·-- fun w hw => hw.2.1: why the kind holds
       ((conv => whnf); (repeat ((first | refine Nd.mk (fun w hw => hw.2.1) ?_ | refine VrN.norm (wrap_i64 (by omega)) ?_ | refine VrN.keep ?_ | refine Nd.mk (by decide +kernel) ?_ | refine Nd.mk (by omega) ?_ | refine RdN.intro _ rfl (by rfl) ?_); (conv => whnf))))
       exact out_bool (by
        have hnd : ¬ names.Nodup := fun h => hcp (by have := hcs.2 h; unfold sortS; omega)
        unfold Go.Core.plainS
        simp [hnd])
     ·-- fun w hw => hw.2.1: why the kind holds
      ((conv => whnf); (repeat ((first | refine Nd.mk (fun w hw => hw.2.1) ?_ | refine VrN.norm (wrap_i64 (by omega)) ?_ | refine VrN.keep ?_ | refine Nd.mk (by decide +kernel) ?_ | refine Nd.mk (by omega) ?_ | refine RdN.intro _ rfl (by rfl) ?_); (conv => whnf))))
      exact out_bool (by
       have : ¬ names.length = items.length := by omega
       unfold Go.Core.plainS; simp [this])
  | false =>
   refine .inr ⟨by clear hes; revert p0 p13 p5 p10 p14 p15; decide +kernel, plN p0 p13 p5 p10 p14 p15 true, by simp [plN], ?_⟩
   intro i hi
   have h17 : i < 17 := by
    obtain ⟨_, o, ho, _⟩ := mem_ready.1 hi
    exact (Array.getElem?_eq_some_iff.1 ho).1
   obtain rfl | rfl | rfl | rfl | rfl | rfl | rfl | rfl | rfl | rfl | rfl | rfl | rfl | rfl | rfl | rfl | rfl : i = 0 ∨ i = 1 ∨ i = 2 ∨ i = 3 ∨ i = 4 ∨ i = 5 ∨ i = 6 ∨ i = 7 ∨ i = 8 ∨ i = 9 ∨ i = 10 ∨ i = 11 ∨ i = 12 ∨ i = 13 ∨ i = 14 ∨ i = 15 ∨ i = 16 := by omega
   ·obtain ⟨rfl, rfl, rfl, rfl, rfl⟩ : p0 = false ∧ p5 = false ∧ p10 = false ∧ p14 = false ∧ p15 = false := by
     clear hes
     revert p0 p13 p5 p10 p14 p15
     decide +kernel
    (conv => whnf)
    refine EffW.mkMap rfl fun b' => ?_
    (conv => whnf)
    exact ⟨true, p13, false, false, false, false, false, b', 0, #[], by cases p13 <;> rfl, by cases p13 <;> rfl, rfl, rfl, rfl, MapIs.nil.congr fun k => by simp [plWords]⟩
   ·exfalso
    clear hes
    revert p0 p13 p5 p10 p14 p15
    decide +kernel
   ·exfalso
    clear hes
    revert p0 p13 p5 p10 p14 p15
    decide +kernel
   ·exfalso
    clear hes
    revert p0 p13 p5 p10 p14 p15
    decide +kernel
   ·exfalso
    clear hes
    revert p0 p13 p5 p10 p14 p15
    decide +kernel
   ·obtain ⟨rfl, rfl, rfl⟩ : p0 = true ∧ p5 = false ∧ p15 = false := by
     clear hes
     revert p0 p13 p5 p10 p14 p15
     decide +kernel
    (conv => whnf)
    refine EffW.putMap 2 rfl Tryz.underlying125 Tryz.underlying3 rfl rfl rfl rfl (hes.none (by simp [plWords])) ?_
    (conv => whnf)
    exact ⟨true, p13, true, p10, p14, false, false, b, cl + 1, _, by clear hes hi; revert p13 p10 p14; decide, by cases p13 <;> cases p10 <;> cases p14 <;> rfl, rfl, rfl, rfl, (hes.put (by simp [plWords]) _ cl).congr fun k => by
     unfold plWords
     by_cases hk : k = 4
     ·subst hk; simp
     ·simp [hk]⟩
   ·exfalso
    clear hes
    revert p0 p13 p5 p10 p14 p15
    decide +kernel
   ·exfalso
    clear hes
    revert p0 p13 p5 p10 p14 p15
    decide +kernel
   ·exfalso
    clear hes
    revert p0 p13 p5 p10 p14 p15
    decide +kernel
   ·exfalso
    clear hes
    revert p0 p13 p5 p10 p14 p15
    decide +kernel
   ·obtain ⟨rfl, rfl, rfl⟩ : p0 = true ∧ p10 = false ∧ p15 = false := by
     clear hes
     revert p0 p13 p5 p10 p14 p15
     decide +kernel
    (conv => whnf)
    refine EffW.putMap 2 rfl Tryz.underlying125 Tryz.underlying3 rfl rfl rfl rfl (hes.none (by simp [plWords])) ?_
    (conv => whnf)
    exact ⟨true, p13, p5, true, p14, false, false, b, cl + 1, _, by clear hes hi; revert p13 p5 p14; decide, by cases p13 <;> cases p5 <;> cases p14 <;> rfl, rfl, rfl, rfl, (hes.put (by simp [plWords]) _ cl).congr fun k => by
     unfold plWords
     by_cases hk : k = 5
     ·subst hk; simp
     ·simp [hk]⟩
   ·exfalso
    clear hes
    revert p0 p13 p5 p10 p14 p15
    decide +kernel
   ·exfalso
    clear hes
    revert p0 p13 p5 p10 p14 p15
    decide +kernel
   ·obtain ⟨rfl, rfl, rfl⟩ : p13 = false ∧ p14 = false ∧ p15 = false := by
     clear hes
     revert p0 p13 p5 p10 p14 p15
     decide +kernel
    (conv => whnf)
    refine call1 (IsConst_c text htl _) ?_
    (conv => whnf)
    exact ⟨p0, true, p5, p10, false, false, false, b, cl, es, by clear hes hi; revert p0 p5 p10; decide, by cases p0 <;> cases p5 <;> cases p10 <;> rfl, rfl, rfl, rfl, hes⟩
   ·obtain ⟨rfl, rfl, rfl, rfl⟩ : p0 = true ∧ p14 = false ∧ p15 = false ∧ p13 = true := by
     clear hes
     revert p0 p13 p5 p10 p14 p15
     decide +kernel
    (conv => whnf)
    refine EffW.putMap 2 rfl Tryz.underlying125 Tryz.underlying3 rfl rfl rfl rfl (hes.none (by simp [plWords])) ?_
    (conv => whnf)
    exact ⟨true, true, p5, p10, true, false, false, b, cl + 1, _, by clear hes hi; revert p5 p10; decide, by cases p5 <;> cases p10 <;> rfl, rfl, rfl, rfl, (hes.put (by simp [plWords]) _ cl).congr fun k => by
     unfold plWords
     by_cases hk : k = 8
     ·subst hk; simp
     ·simp [hk]⟩
   ·obtain ⟨rfl, rfl, rfl, rfl, rfl, rfl⟩ : p0 = true ∧ p13 = true ∧ p5 = true ∧ p10 = true ∧ p14 = true ∧ p15 = false := by
     clear hes
     revert p0 p13 p5 p10 p14 p15
     decide +kernel
    (conv => whnf)
    exact ⟨true, true, true, true, true, true, false, b, cl, es, rfl, rfl, rfl, rfl, rfl, hes⟩
   ·obtain ⟨rfl, rfl, rfl, rfl, rfl, rfl⟩ : p0 = true ∧ p13 = true ∧ p5 = true ∧ p10 = true ∧ p14 = true ∧ p15 = true := by
     clear hes
     revert p0 p13 p5 p10 p14 p15
     decide +kernel
    (conv => whnf)
    exact ⟨true, true, true, true, true, true, true, b, cl, es, rfl, rfl, rfl, rfl, rfl, hes⟩
 ·(first | refine wX ?_ | exact wZ)
  refine ReadC.one (T := 9) (x := .tmp 8) (a := some ⟨cb, 0, none⟩) (q := 2) (k := 5) (xs := [.int .i64 kind, .int .i64 num, .string (bs text), .slice na names.length nc, .slice ia items.length ic]) (.string (bs text)) ?_ ?_ ?_ ?_ ?_ ?_
  ·rfl
  ·rfl
  ·rfl
  ·exact fun w hw => hw
  ·rfl
  (first | refine wX ?_ | exact wZ)
  refine BlindW.lenS (x := .tmp 9) (T := 9) (b := bs text) rfl rfl rfl Tryz.underlying9 ?_ ?_
  ·rfl
  rw [bs_size]
  (first | refine wX ?_ | exact wZ)
  refine ReadC.one (T := 9) (x := .tmp 12) (a := some ⟨cb, 0, none⟩) (q := 2) (k := 5) (xs := [.int .i64 kind, .int .i64 num, .string (bs text), .slice na names.length nc, .slice ia items.length ic]) (.string (bs text)) ?_ ?_ ?_ ?_ ?_ ?_
  ·rfl
  ·rfl
  ·rfl
  ·exact fun w hw => hw
  ·rfl
  (first | refine wX ?_ | exact wZ)
  refine BlindW.lenS (x := .tmp 13) (T := 9) (b := bs text) rfl rfl rfl Tryz.underlying9 ?_ ?_
  ·rfl
  rw [bs_size]
  (first | refine wX ?_ | exact wZ)
  refine ReadC.one (T := 9) (x := .tmp 16) (a := some ⟨cb, 0, none⟩) (q := 2) (k := 5) (xs := [.int .i64 kind, .int .i64 num, .string (bs text), .slice na names.length nc, .slice ia items.length ic]) (.string (bs text)) ?_ ?_ ?_ ?_ ?_ ?_
  ·rfl
  ·rfl
  ·rfl
  ·exact fun w hw => hw
  ·rfl
  (first | refine wX ?_ | exact wZ)
  exact ⟨false, false, false, false, false, false, false, 0, 0, #[], rfl, rfl, rfl, rfl, rfl, MapIs.nil.congr fun k => by simp [plWords]⟩
end Go.Proofs.YtgogonnnojcioaaGreatDoor

/-
 AX, forty-seventh text: what is known said in another way, between the rounds of a loop: own entries that nobody writes any more become facts.
-/
namespace Go.AX

def restK : List Ent → List Ent → List Ent
 | [], _ => []
 | h :: H, [] => h :: restK H []
 | h :: H, .fact _ :: G => h :: restK H G
 | h :: H, .dead :: G => h :: restK H G
 | .fact F :: H, _ :: G => .fact F :: restK H G
 | _ :: H, _ :: G => .dead :: restK H G
theorem restK_len : ∀ H G : List Ent, (restK H G).length = H.length
 | [], _ => rfl
 | _ :: H, [] => by simp [restK, restK_len H []]
 | h :: H, g :: G => by cases g <;> cases h <;> simp [restK, restK_len H G]
theorem restK_get : ∀ (H G : List Ent) (i : Nat) (e : Ent), (restK H G)[i]? = some e → H[i]? = some e ∨ e = .dead
 | [], _, _, _, h => by cases h
 | h :: H, [], 0, e, he => .inl he
 | h :: H, [], i + 1, e, he => restK_get H [] i e he
 | h :: H, g :: G, 0, e, he => by cases g <;> cases h <;> first | exact .inl he | exact .inr (Option.some.inj he).symm
 | h :: H, g :: G, i + 1, e, he => restK_get H G i e (by cases g <;> cases h <;> exact he)
theorem restK_stay : ∀ (H G : List Ent) (i : Nat) (e f : Ent) (ρ : List Loc) (b : Nat), entB ρ i e b → f.isApp = true → G[i]? = some e → (restK H G)[i]? = some f → False
 | [], _, _, _, _, _, _, _, _, _, h => by cases h
 | h :: H, [], _, _, _, _, _, _, _, h1, _ => by cases h1
 | h :: H, g :: G, 0, e, f, ρ, b, he, hf, h1, h2 => by
  obtain rfl := Option.some.inj h1
  cases g <;> first | (cases he; done) | (cases h <;> (obtain rfl := Option.some.inj h2; cases hf))
 | h :: H, g :: G, i + 1, e, f, ρ, b, he, hf, h1, h2 => restK_stay H G i e f (ρ.drop 1) b (by
   revert he
   cases e <;> simp [entB]) hf h1 (by cases g <;> cases h <;> exact h2)
def SealE (R : World → Prop) (h g : Ent) : Prop := g = .dead ∨ g = h ∨ ∃ Γ, g = .fact Γ ∧ ∀ w, R w → Γ w
def SealR (R : World → Prop) : List Ent → List Ent → Prop
 | [], [] => True
 | h :: H, g :: G => SealE R h g ∧ SealR R H G
 | _, _ => False
theorem SealR.get {R : World → Prop} : ∀ {H G : List Ent}, SealR R H G → G.length = H.length ∧ ∀ (i : Nat) (g : Ent), G[i]? = some g → ∃ h, H[i]? = some h ∧ SealE R h g
 | [], [], _ => ⟨rfl, fun _ _ h => by cases h⟩
 | h :: H, g :: G, hs => by
  obtain ⟨h1, h2⟩ := SealR.get hs.2
  refine ⟨by simp [h1], fun i e he => ?_⟩
  cases i with
  | zero => obtain rfl := Option.some.inj he; exact ⟨h, rfl, hs.1⟩
  | succ i => exact h2 i e he
 | [], _ :: _, h => h.elim
 | _ :: _, [], h => h.elim
theorem turnS {H G : List Ent} (h : SealR (Facts (restK H G)) H G) : TurnS H G := by
 obtain ⟨hl, hg⟩ := h.get
 refine ⟨hl, fun ρ S w hs => ?_⟩
 have h1 := hs.dull (restK_len H G) (restK_get H G)
 have hno : ∀ (i : Nat) (e : Ent) (b : Nat), G[i]? = some e → entB ρ i e b → H[i]? = some e := fun i e b he hb => by
  obtain ⟨f, hf, h2⟩ := hg i e he
  rcases h2 with rfl | rfl | ⟨Γ, rfl, _⟩
  ·cases hb
  ·exact hf
  ·cases hb
 have hmb : ∀ b, mb ρ G b → mb ρ H b := fun b ⟨i, e, he, hb⟩ => ⟨i, e, hno i e b he hb, hb⟩
 refine ⟨fun b => S b ∨ appB (restK H G) b, ⟨by rw [hs.len, hl], fun i e he => ?_, fun i j e f b he hf hb hc => hs.inj i j e f b (hno i e b he hb) (hno j f b hf hc) hb hc, fun b ⟨i, e, he, hb⟩ hS => ?_, fun b hb => ?_⟩, ⟨[], by simp⟩, rfl, rfl, rfl, Nat.le_refl _, fun _ _ _ => rfl, fun b hb => ?_, fun b hb => .inl (hmb b hb)⟩
 ·obtain ⟨f, hf, h2⟩ := hg i e he
  rcases h2 with rfl | rfl | ⟨Γ, rfl, hΓ⟩
  ·trivial
  ·exact (hs.ent i _ hf).grow fun b hb => .inl hb
  ·exact h1.imm.mono hΓ
 ·have a1 := hno i e b he hb
  rcases hS with hS | hS
  ·exact hs.out b ⟨i, _, a1, hb⟩ hS
  ·obtain ⟨j, f, hf, hfa, hfb⟩ := appB_get hS
   rcases restK_get H G j f hf with hH | rfl
   ·obtain rfl := hs.inj i j _ f b a1 hH hb (hfb ρ j)
    exact restK_stay H G i e f ρ b hb hfa he hf
   ·cases hfa
 ·rcases hb with hb | hb
  ·exact hs.low b hb
  ·obtain ⟨i, e, he, heb⟩ := appB_mb (ρ := ρ) hb
   exact h1.blk_lt he heb
 ·rcases hb with hb | hb
  ·exact .inl hb
  ·obtain ⟨j, f, hf, hfa, hfb⟩ := appB_get hb
   rcases restK_get H G j f hf with hH | rfl
   ·exact .inr (.inl ⟨j, f, hH, hfb _ _⟩)
   ·cases hfa
theorem turn_refl (H : List Ent) : TurnS H H := ⟨rfl, fun ρ S w hs => ⟨S, hs, Ev.refl _ _ _ _⟩⟩
end Go.AX

/-
 Contracts: a graph for the specification, and back (law).
-/
namespace Go.Proofs.YtgogonnnojcioaaGreatDoor
open Go.AX Go.RowKit Go.Core
set_option maxRecDepth 20000

def Small (l : List CellP) : Prop := l.length ≤ 2000 ∧ ∀ p ∈ l, p.c.names.length ≤ 2000 ∧ p.c.items.length ≤ 2000
def GrR (l : List Cell) (v : Value) (G : World → Prop) : Prop := ∃ (oa : Option Addr) (oc : Nat) (m : List CellP), v = .slice oa m.length oc ∧ (oa = none → m = []) ∧ m.map (·.c) = l ∧ (∀ p ∈ m, CellOk p) ∧ ∀ w, G w → GrF oa m w
structure DSt where
 i : Nat
 oa : Option Addr
 oc : Nat
 m : List CellP
def DInv (l : List CellP) : DSt → Prop := fun ⟨i, oa, oc, m⟩ => i ≤ l.length ∧ m.map (·.c) = (l.take i).map (·.c) ∧ (∀ p ∈ m, CellOk p) ∧ (oa = none → m = []) ∧ m.length ≤ oc
theorem DInv.len {l : List CellP} {i oc : Nat} {oa : Option Addr} {m : List CellP} (h : DInv l ⟨i, oa, oc, m⟩) : m.length = i := by
 have h1 := congrArg List.length h.2.1
 simp only [List.length_map, List.length_take] at h1
 have := h.1
 omega
theorem grC_len (l : List CellP) : (grC l).length = l.length * 5 := by
 unfold grC
 induction l with
 | nil => rfl
 | cons p l ih => rw [List.flatMap_cons, List.length_append, ih, List.length_cons]; show 5 + _ = _; omega
theorem grC_snoc (l : List CellP) (p : CellP) : grC (l ++ [p]) = grC l ++ cellC p := by unfold grC; rw [List.flatMap_append]; simp
end Go.Proofs.YtgogonnnojcioaaGreatDoor

/-
 Contract: Check (program).
-/
namespace Go.Core
theorem any_range (n : Nat) (c : Cell) : (c.items.any fun i => decide (i < 0) || decide (i ≥ (n : Int))) = !rangeB n c := by
 unfold rangeB
 rw [List.all_eq_not_any_not, Bool.not_not]
 exact congrArg (fun f => c.items.any f) (funext fun i => by rw [Bool.eq_iff_iff]; simp)
end Go.Core
namespace Go.Proofs.YtgogonnnojcioaaGreatDoor
open Go.AX Go.RowKit Go.Core Go.Scan
set_option maxRecDepth 20000

theorem plain_c (p : CellP) (hp : CellOk p) (hs : p.c.names.length ≤ 40000 ∧ p.c.items.length ≤ 40000) : ∀ H, (∀ w, Facts H w → CellF p w) → SpecH Tryz.prog 90 (pvs [cellV p]) H (Ret (.bool (Go.Core.plainS p.c)) H) := by
 obtain ⟨⟨kind, num, text, names, items⟩, na, nc, ia, ic⟩ := p
 exact plain_c0 kind num text names items na nc ia ic hp.na hp.ia hs.1 hs.2 hp.nw hp.tl
theorem out_c (x : Int) (b : Nat) (a : Option Addr) (n c : Nat) : ∀ H, (∀ w, Facts H w → SlAt (some ⟨b, 0, none⟩) 1 [.slice a n c] w) → SpecH Tryz.prog 91 (pvs [.int .i64 x, .pointer (some ⟨b, 0, none⟩)]) H (Ret (.bool (decide (x < 0) || decide (x ≥ (n : Int)))) H) := by
 refine factC hm Tryz.func91 (by kernel_rfl) rfl rfl ?_
 (first | refine wX ?_ | exact wZ)
 refine brd_dec (fun h1 => ?_) (fun h1 => ?_)
 ·(first | refine wX ?_ | exact wZ)
  exact out_bool (by simp [h1])
 ·(first | refine wX ?_ | exact wZ)
  refine LdN.one (a := some ⟨b, 0, none⟩) (q := 0) (.slice a n c) rfl (fun w hw => hw.1) rfl ?_
  (first | refine wX ?_ | exact wZ)
  exact out_bool (by simp [h1])
def errI (b : Bool) : Value := .int .i64 (if b then 0 else 1)
set_option maxHeartbeats 4000000 in
theorem Check_w (a : Option Addr) (ca : Nat) (l : List CellP) (ha : a = none → l = []) (hs : l.length ≤ 2000 ∧ ∀ p ∈ l, p.c.names.length ≤ 40000 ∧ p.c.items.length ≤ 40000) (hok : ∀ p ∈ l, CellOk p) :
  ∀ H, (∀ w, Facts H w → GrF a l w) → ∃ b : Bool, (b = true ↔ ValidP (l.map (·.c))) ∧ SpecH Tryz.prog 65 (pvs [.slice a l.length ca]) H (Ret (errI b) H) := by
 intro H hH
 obtain ⟨b, hb⟩ : ∃ b : Bool, b = true ↔ ValidP (l.map (·.c)) := by
  by_cases h : ValidP (l.map (·.c))
  ·exact ⟨true, fun _ => h, fun _ => rfl⟩
  ·exact ⟨false, (fun h => by cases h), fun h2 => absurd h2 h⟩
 refine ⟨b, hb, ?_⟩
 obtain ⟨hl, hsm⟩ := hs
 have hml : (l.map (·.c)).length = l.length := by simp
 have hno : ¬ ValidP (l.map (·.c)) → (1 : Int) = if b then 0 else 1 := fun h => by
  cases b with
  | false => rfl
  | true => exact absurd (hb.1 rfl) h
 refine factC hm Tryz.func65 (by kernel_rfl) rfl rfl ?_ H hH
 (first | refine wXB ?_ | exact wZB)
 refine BoxN.known [.slice a l.length ca] rfl fun gb => ?_
 (first | refine wXB ?_ | exact wZB)
 refine LdN.one (a := some ⟨gb, 0, none⟩) (q := 0) (.slice a l.length ca) rfl (fun w hw => hw.2.1) rfl ?_
 (first | refine wXB ?_ | exact wZB)
 refine brd_dec (fun h0 => ?_) (fun h0 => ?_)
 ·(first | refine wXB ?_ | exact wZB)
  exact out_int (hno fun h => by have := h.1; omega)
 (first | refine wXB ?_ | exact wZB)
 refine LdN.one (a := some ⟨gb, 0, none⟩) (q := 0) (.slice a l.length ca) rfl (fun w hw => hw.2.1) rfl ?_
 (first | refine wXB ?_ | exact wZB)
 refine loopS Nat (fun i => i ≤ l.length ∧ ∀ p ∈ l.take i, cellD l.length p.c = true) (fun i => mkS Tryz.f65.ntmps 0 [(1, .c (.v (.pointer (some ⟨gb, 0, none⟩)))), (10, .c (.v (.slice a l.length ca))), (11, .c (.v (.int .i64 (l.length : Int)))), (12, .c (.v (.int .i64 (i : Int))))]) (fun i => l.length - i) rfl (fun _ => rfl) 0 ⟨Nat.zero_le _, by simp⟩ ?_ ?_
 ·exact wKK
 intro i ⟨hi, hc⟩
 (first | refine wXB ?_ | exact wZB)
 refine brd_dec (fun h1 => ?_) (fun h1 => ?_)
 ·obtain ⟨p, hp⟩ : ∃ p, l[i]? = some p := ⟨_, List.getElem?_eq_getElem (by omega)⟩
  have hpm := List.mem_of_getElem? hp
  have hpo := hok p hpm
  have hsa : a.isSome = true := by
   cases a with
   | none => rw [ha rfl] at hp; cases hp
   | some b => rfl
  have hbad : (Go.Core.plainS p.c && rangeB l.length p.c) = false → ¬ ValidP (l.map (·.c)) := fun h hv => by
   have := hv.2.1 p.c (List.mem_map.2 ⟨p, hpm, rfl⟩)
   rw [hml, ← cell_eq, h] at this
   cases this
  (first | refine wXB ?_ | exact wZB)
  refine Nd.mk ⟨hsa, by omega, by omega⟩ ?_
  (first | refine wXB ?_ | exact wZB)
  refine LdN.agg (cellC p) rfl (fun w hw => hw.1.1) rfl (fun k hk => by rw [Int.toNat_natCast]; exact grC_get l i k hk hp) ?_
  (first | refine wXB ?_ | exact wZB)
  refine BoxN.known [.int .i64 0, .int .i64 0, .string { data := #[] }, .slice none 0 0, .slice none 0 0] rfl fun cb => ?_
  (first | refine wXB ?_ | exact wZB)
  refine EffW.appTo (i := 2) (q := 0) (ys := cellC p) (cellC p) 5 rfl rfl rfl rfl rfl rfl rfl (Nat.le_of_ble_eq_true rfl) rfl rfl ?_
  (first | refine wXB ?_ | exact wZB)
  refine LdN.agg (a := some ⟨cb, 0, none⟩) (q := 0) (cellC p) rfl (fun w hw => hw.2.2.1) rfl (fun k hk => by rw [Nat.zero_add]) ?_
  (first | refine wXB ?_ | exact wZB)
  refine call1 (plain_c p hpo (hsm p hpm) _ (fun w hw => hw.1.2 p hpm)) ?_
  cases hpl : Go.Core.plainS p.c with
  | false =>
   (first | refine wXB ?_ | exact wZB)
   exact out_int (hno (hbad (by rw [hpl]; rfl)))
  | true =>
  (first | refine wXB ?_ | exact wZB)
  refine LdN.one (a := some ⟨cb, 0, none⟩) (q := 4) (.slice p.ia p.c.items.length p.ic) rfl (fun w hw => hw.2.2.1) rfl ?_
  (first | refine wXB ?_ | exact wZB)
  refine SpecH.args (args' := pvs [.slice p.ia p.c.items.length p.ic, .func (.func 91) #[] #[.pointer (some ⟨gb, 0, none⟩)]]) (by simp [pvs, opvs, opv, nth, plainEv]; try rfl) ?_
  refine call1 (HasI_c (fun x => decide (x < 0) || decide (x ≥ (l.length : Int))) 91 #[.pointer (some ⟨gb, 0, none⟩)] (SlAt (some ⟨gb, 0, none⟩) 1 [.slice a l.length ca]) p.ia p.ic p.c.items (fun x _ H hH => out_c x gb a l.length ca H hH) hpo.ia hpo.il _ (fun w hw => ⟨(hw.1.2 p hpm).2, hw.2.1⟩)) ?_
  rw [any_range]
  cases hrg : rangeB l.length p.c with
  | false =>
   (first | refine wXB ?_ | exact wZB)
   exact out_int (hno (hbad (by rw [hpl, hrg]; rfl)))
  | true =>
  (first | refine wXB ?_ | exact wZB)
  refine ⟨i + 1, ⟨by omega, all_step hc hp (by rw [← cell_eq, hpl, hrg]; rfl)⟩, by omega, ?_, wHH⟩
  exact wKK
 have hil : i = l.length := by omega
 subst hil
 rw [List.take_length] at hc
 clear h1
 (first | refine wXB ?_ | exact wZB)
 refine LdN.one (a := some ⟨gb, 0, none⟩) (q := 0) (.slice a l.length ca) rfl (fun w hw => hw.2.1) rfl ?_
 (first | refine wXB ?_ | exact wZB)
 refine loopS Nat (fun i => i ≤ l.length ∧ ∀ p ∈ l.take i, p.c.kind = 7 → ¬ Twice (l.map (·.c)) p.c.items) (fun i => mkS Tryz.f65.ntmps 0 [(1, .c (.v (.pointer (some ⟨gb, 0, none⟩)))), (26, .c (.v (.slice a l.length ca))), (27, .c (.v (.int .i64 (l.length : Int)))), (28, .c (.v (.int .i64 (i : Int))))]) (fun i => l.length - i) rfl (fun _ => rfl) 0 ⟨Nat.zero_le _, by simp⟩ ?_ ?_
 ·exact wKK
 intro i ⟨hi, ht⟩
 (first | refine wXB ?_ | exact wZB)
 refine brd_dec (fun h1 => ?_) (fun h1 => ?_)
 ·obtain ⟨p, hp⟩ : ∃ p, l[i]? = some p := ⟨_, List.getElem?_eq_getElem (by omega)⟩
  have hpm := List.mem_of_getElem? hp
  have hpo := hok p hpm
  have hsa : a.isSome = true := by
   cases a with
   | none => rw [ha rfl] at hp; cases hp
   | some b => rfl
  (first | refine wXB ?_ | exact wZB)
  refine Nd.mk ⟨hsa, by omega, by omega⟩ ?_
  (first | refine wXB ?_ | exact wZB)
  refine LdN.agg (cellC p) rfl (fun w hw => hw.1.1) rfl (fun k hk => by rw [Int.toNat_natCast]; exact grC_get l i k hk hp) ?_
  (first | refine wXB ?_ | exact wZB)
  refine BoxN.known [.int .i64 0, .int .i64 0, .string { data := #[] }, .slice none 0 0, .slice none 0 0] rfl fun cb => ?_
  (first | refine wXB ?_ | exact wZB)
  refine EffW.appTo (i := 2) (q := 0) (ys := cellC p) (cellC p) 5 rfl rfl rfl rfl rfl rfl rfl (Nat.le_of_ble_eq_true rfl) rfl rfl ?_
  (first | refine wXB ?_ | exact wZB)
  refine LdN.one (a := some ⟨cb, 0, none⟩) (q := 0) (.int .i64 p.c.kind) rfl (fun w hw => hw.2.2.1) rfl ?_
  (first | refine wXB ?_ | exact wZB)
  refine brd_eq (fun h7 => ?_) (fun h7 => ?_)
  ·(first | refine wXB ?_ | exact wZB)
   refine LdN.one (a := some ⟨gb, 0, none⟩) (q := 0) (.slice a l.length ca) rfl (fun w hw => hw.2.1) rfl ?_
   (first | refine wXB ?_ | exact wZB)
   refine LdN.agg (a := some ⟨cb, 0, none⟩) (q := 0) (cellC p) rfl (fun w hw => hw.2.2.1) rfl (fun k hk => by rw [Nat.zero_add]) ?_
   (first | refine wXB ?_ | exact wZB)
   obtain ⟨t, ht1, ht2⟩ := twice_c a ca l p ha (by omega) hpo (cellD_in (hc p hpm)) [.fact (GrF a l), .app 23 1 [.slice a l.length ca] (some ⟨gb, 0, none⟩) 1 1, .app 57 5 (cellC p) (some ⟨cb, 0, none⟩) 1 1] (fun w hw => ⟨hw.1, hw.1.2 p hpm⟩)
   refine call1 ht2 ?_
   cases ht3 : t with
   | true =>
    (first | refine wXB ?_ | exact wZB)
    exact out_int (hno fun h => h.2.2 p.c (List.mem_map.2 ⟨p, hpm, rfl⟩) h7 (ht1.1 ht3))
   | false =>
   (first | refine wXB ?_ | exact wZB)
   refine ⟨i + 1, ⟨by omega, all_step ht hp (fun _ h => by rw [ht1.2 h] at ht3; cases ht3)⟩, by omega, ?_, wHH⟩
   exact wKK
  ·(first | refine wXB ?_ | exact wZB)
   refine ⟨i + 1, ⟨by omega, all_step ht hp (fun h => absurd h h7)⟩, by omega, ?_, wHH⟩
   exact wKK
 ·have hil : i = l.length := by omega
  subst hil
  rw [List.take_length] at ht
  (first | refine wXB ?_ | exact wZB)
  have hbt : b = true := hb.2 ⟨by omega, fun c hcm => by
    obtain ⟨p, hp, rfl⟩ := List.mem_map.1 hcm
    rw [hml]
    exact hc p hp, fun c hcm => by
    obtain ⟨p, hp, rfl⟩ := List.mem_map.1 hcm
    exact ht p hp⟩
  exact out_int (by rw [hbt]; rfl)
theorem Check_c (a : Option Addr) (ca : Nat) (l : List CellP) (ha : a = none → l = []) (hs : Small l) (hok : ∀ p ∈ l, CellOk p) :
  ∀ H, (∀ w, Facts H w → GrF a l w) → ∃ b : Bool, (b = true ↔ ValidP (l.map (·.c))) ∧ SpecH Tryz.prog 65 (pvs [.slice a l.length ca]) H (Ret (errI b) H) :=
 Check_w a ca l ha ⟨hs.1, fun p hp => ⟨Nat.le_trans (hs.2 p hp).1 (by decide), Nat.le_trans (hs.2 p hp).2 (by decide)⟩⟩ hok
end Go.Proofs.YtgogonnnojcioaaGreatDoor

/-
 Contract: asked (program).
-/
namespace Go.Core
def AskP (g : List Cell) (cs : List Int) : Prop := ValidP g ∧ ∀ x ∈ cs, 0 ≤ x ∧ x < (g.length : Int)
end Go.Core
namespace Go.Proofs.YtgogonnnojcioaaGreatDoor
open Go.AX Go.RowKit Go.Core Go.Scan
set_option maxRecDepth 20000

theorem out2_c (x : Int) (b : Nat) (a : Option Addr) (n c : Nat) : ∀ H, (∀ w, Facts H w → SlAt (some ⟨b, 0, none⟩) 1 [.slice a n c] w) → SpecH Tryz.prog 80 (pvs [.int .i64 x, .pointer (some ⟨b, 0, none⟩)]) H (Ret (.bool (decide (x < 0) || decide (x ≥ (n : Int)))) H) := by
 refine factC hm Tryz.func80 (by kernel_rfl) rfl rfl ?_
 (first | refine wX ?_ | exact wZ)
 refine brd_dec (fun h1 => ?_) (fun h1 => ?_)
 ·(first | refine wX ?_ | exact wZ)
  exact out_bool (by simp [h1])
 ·(first | refine wX ?_ | exact wZ)
  refine LdN.one (a := some ⟨b, 0, none⟩) (q := 0) (.slice a n c) rfl (fun w hw => hw.1) rfl ?_
  (first | refine wX ?_ | exact wZ)
  exact out_bool (by simp [h1])
set_option maxHeartbeats 1000000 in
theorem asked_c (a : Option Addr) (ca : Nat) (l : List CellP) (ha : a = none → l = []) (hs : Small l) (hok : ∀ p ∈ l, CellOk p) (sa : Option Addr) (sc : Nat) (cs : List Int) (hsa : sa = none → cs = []) (hcl : cs.length ≤ 2000) :
  ∀ H, (∀ w, Facts H w → GrF a l w ∧ SlAt sa (cs.length * 1) (iC cs) w) → ∃ b : Bool, (b = true ↔ AskP (l.map (·.c)) cs) ∧ SpecH Tryz.prog 53 (pvs [.slice a l.length ca, .slice sa cs.length sc]) H (Ret (errI b) H) := by
 intro H hH
 obtain ⟨b, hb⟩ : ∃ b : Bool, b = true ↔ AskP (l.map (·.c)) cs := by
  by_cases h : AskP (l.map (·.c)) cs
  ·exact ⟨true, fun _ => h, fun _ => rfl⟩
  ·exact ⟨false, (fun h => by cases h), fun h2 => absurd h2 h⟩
 refine ⟨b, hb, ?_⟩
 refine factC hm Tryz.func53 (by kernel_rfl) rfl rfl ?_ H hH
 (first | refine wXB ?_ | exact wZB)
 refine BoxN.known [.slice a l.length ca] rfl fun gb => ?_
 (first | refine wXB ?_ | exact wZB)
 refine SpecH.args (args' := pvs [.slice sa cs.length sc, .func (.func 80) #[] #[.pointer (some ⟨gb, 0, none⟩)]]) (by simp [pvs, opvs, opv, nth, plainEv]; try rfl) ?_
 refine call1 (HasI_c (fun x => decide (x < 0) || decide (x ≥ (l.length : Int))) 80 #[.pointer (some ⟨gb, 0, none⟩)] (SlAt (some ⟨gb, 0, none⟩) 1 [.slice a l.length ca]) sa sc cs (fun x _ H hH => out2_c x gb a l.length ca H hH) hsa (by omega) _ (fun w hw => ⟨hw.1.2, hw.2.1⟩)) ?_
 cases hany : cs.any fun x => decide (x < 0) || decide (x ≥ (l.length : Int)) with
 | true =>
  (first | refine wXB ?_ | exact wZB)
  obtain ⟨x, hx, hx2⟩ := List.any_eq_true.1 hany
  refine out_int ?_
  cases b with
  | false => rfl
  | true =>
   have h1 := (hb.1 rfl).2 x hx
   simp at hx2 h1
   omega
 | false =>
  (first | refine wXB ?_ | exact wZB)
  refine LdN.one (a := some ⟨gb, 0, none⟩) (q := 0) (.slice a l.length ca) rfl (fun w hw => hw.2.1) rfl ?_
  (first | refine wXB ?_ | exact wZB)
  obtain ⟨t, ht1, ht2⟩ := Check_c a ca l ha hs hok [.fact (fun w => GrF a l w ∧ SlAt sa (cs.length * 1) (iC cs) w), .app 23 1 [.slice a l.length ca] (some ⟨gb, 0, none⟩) 1 1] (fun w hw => hw.1.1)
  have hbt : b = t := by
   rw [Bool.eq_iff_iff, hb, ht1]
   refine ⟨fun h => h.1, fun h => ⟨h, fun x hx => ?_⟩⟩
   have := List.any_eq_false.1 hany x hx
   simp at this ⊢
   omega
  refine call1 ht2 ?_
  rw [hbt]
  (first | refine wXB ?_ | exact wZB)
  rfl
end Go.Proofs.YtgogonnnojcioaaGreatDoor

/-
 Contracts: the strings.Builder within a writer of one's own.
-/
namespace Go.Proofs.YtgogonnnojcioaaGreatDoor
open Go.AX Go.RowKit Go.Core
set_option maxRecDepth 20000

variable (gv : Value) (F : World → Prop) (way : List Int) (j : BSt)

end Go.Proofs.YtgogonnnojcioaaGreatDoor

/-
 Plain: how long texts of cells become.
-/
namespace Go.Core

section
variable {M : Nat} {leafT : Cell → List UInt8} {g : List Cell}
end
end Go.Core

/-
 What a writer knows of its graph; slices.Contains at numbers.
-/
namespace Go.Core
theorem way_le {n : Nat} {way : List Int} (hn : way.Nodup) (hr : ∀ x ∈ way, 0 ≤ x ∧ x < (n : Int)) : way.length ≤ n := by
 have h1 : (way.map Int.toNat).Nodup := (List.pairwise_map.2 (hn.imp_of_mem fun {a b} ha hb hab => by
  have := hr a ha
  have := hr b hb
  omega))
 have := Go.AX.nodup_len (b := List.range n) h1 fun x hx => by
  obtain ⟨y, hy, rfl⟩ := List.mem_map.1 hx
  have := hr y hy
  exact List.mem_range.2 (by omega)
 simpa using this
theorem cellD_kind {n : Nat} {c : Cell} (h : cellD n c = true) : 0 ≤ c.kind ∧ c.kind ≤ 8 := by
 unfold cellD at h
 simp only [Bool.and_eq_true, Bool.not_eq_true', Bool.or_eq_false_iff, decide_eq_false_iff_not] at h
 have := h.1.2.1.1.1
 omega
theorem cellD_text {n : Nat} {c : Cell} (h : cellD n c = true) : c.text.length ≤ 2000 := by
 have hk := cellD_kind h
 unfold cellD at h
 simp only [Bool.and_eq_true] at h
 have h2 := h.2
 split at h2
 ·have := h2
  simp only [Bool.and_eq_true, decide_eq_true_eq] at this
  rw [this.1.1]; simp
 split at h2
 ·simpa using h2
 split at h2
 ·have : c.text.length ≤ 40 := by simpa using h2
  omega
 split at h2
 ·simp only [Bool.and_eq_true, decide_eq_true_eq] at h2
  rw [h2.1]; simp
 split at h2
 ·simp only [Bool.and_eq_true] at h2
  have := h2.1.1
  unfold constD wordD at this
  simp only [Bool.and_eq_true, decide_eq_true_eq] at this
  omega
 ·have : c.text = [] := by simpa using h2
  rw [this]; simp
end Go.Core
namespace Go.Proofs.YtgogonnnojcioaaGreatDoor
open Go.AX Go.RowKit Go.Core Go.Scan
set_option maxRecDepth 20000

end Go.Proofs.YtgogonnnojcioaaGreatDoor

/-
 Plain: how deep what is reached is.
-/
namespace Go.Core
def htF (g : List Cell) : Nat → Int → Nat
 | 0, _ => 0
 | n + 1, i => (outs g i).foldl (fun m k => max m (htF g n k)) 0 + 1
def dep (g : List Cell) (i : Int) : Nat := htF g g.length i
end Go.Core

/-
 Plain: texts and walks do not hang on the purse; the text of an array without circles; joined graphs, copies, what is the same.
-/
namespace Go.Core
/-! ### One graph within another -/
end Go.Core

/-
 Contracts: slices.Equal at strings.
-/
namespace Go.Proofs.YtgogonnnojcioaaGreatDoor
open Go.AX Go.RowKit Go.Core
set_option maxRecDepth 20000

end Go.Proofs.YtgogonnnojcioaaGreatDoor

/-
 AX, fifty-first text: maps with pairs of numbers as keys.
-/
namespace Go.AX

def pairV (p : Int × Int) : Value := .agg #[.int .i64 p.1, .int .i64 p.2]
structure PairT (P : Program) (kt it : TypeId) : Prop where
 k : P.underlying kt = some (.array 2 it)
 i : P.underlying it = some (.int .i64)
 s : ∃ inf, P.info? it = some inf ∧ inf.size = 1
section
variable {P : Program} {kt it : TypeId}
theorem PairT.part (h : PairT P kt it) (w : World) {xs : Array Value} {off : Nat} {v : Value} (hx : xs[off]? = some v) : (Go.part it xs off).run P w = .ok v w := by
 simp [Go.part, isAgg, run_underlying h.i, hx]
theorem PairT.int (h : PairT P kt it) (w : World) (n : Nat) (x y : Int) : (Op.equalIn (n + 1) it (.int .i64 x) (.int .i64 y)).run P w = .ok (x == y) w := by
 unfold Op.equalIn
 simp [run_underlying h.i]
theorem PairT.equal (h : PairT P kt it) (w : World) (p q : Int × Int) : (Op.equal kt (pairV p) (pairV q)).run P w = .ok (decide (p = q)) w := by
 obtain ⟨inf, hi, hs⟩ := h.s
 obtain ⟨a, b⟩ := p
 obtain ⟨c, d⟩ := q
 have p1 : ∀ (x y : Int) (w : World), (Go.part it #[.int .i64 x, .int .i64 y] 0).run P w = .ok (.int .i64 x) w := fun x y w => h.part w rfl
 have p2 : ∀ (x y : Int) (w : World), (Go.part it #[.int .i64 x, .int .i64 y] 1).run P w = .ok (.int .i64 y) w := fun x y w => h.part w rfl
 have he := fun x y => h.int w 9998 x y
 have hso : (sizeOf it).run P w = .ok 1 w := by rw [← hs]; simp [sizeOf, typeInfo, hi, Result.andThen]
 show (Op.equalIn (9999 + 1) kt (.agg #[.int .i64 a, .int .i64 b]) (.agg #[.int .i64 c, .int .i64 d])).run P w = _
 unfold Op.equalIn
 simp only [Sem.run_bind, run_underlying h.k, Result.andThen_ok]
 simp only [Std.Legacy.Range.forIn_eq_forIn_range', Std.Legacy.Range.size, Nat.sub_zero, Nat.add_one_sub_one, Nat.div_one]
 rw [show List.range' 0 2 = [0, 1] from rfl]
 simp only [List.forIn_cons, List.forIn_nil, Sem.run_bind, hso, Result.andThen_ok, Nat.mul_one, p1, he]
 by_cases h1 : a = c
 ·subst h1
  by_cases h2 : b = d
  ·subst h2
   simp [p2, he, Result.andThen]
  ·simp [p2, he, Result.andThen, h2]
 ·simp [Result.andThen, h1]
theorem PairT.check (h : PairT P kt it) (w : World) (e : Bool) (p : Int × Int) : (Instr.checkKey e 10000 kt (pairV p)).run P w = .ok () w := by
 obtain ⟨inf, hi, hs⟩ := h.s
 obtain ⟨a, b⟩ := p
 have p1 : ∀ (x y : Int) (w : World), (Go.part it #[.int .i64 x, .int .i64 y] 0).run P w = .ok (.int .i64 x) w := fun x y w => h.part w rfl
 have p2 : ∀ (x y : Int) (w : World), (Go.part it #[.int .i64 x, .int .i64 y] 1).run P w = .ok (.int .i64 y) w := fun x y w => h.part w rfl
 have hc : ∀ x, (Instr.checkKey e 9999 it (.int .i64 x)).run P w = .ok () w := fun x => MapKept.run_checkKey (k := .int .i64 x) h.i (by simp [MapKept.IsKey]) e 9998
 have hso : (sizeOf it).run P w = .ok 1 w := by rw [← hs]; simp [sizeOf, typeInfo, hi, Result.andThen]
 show (Instr.checkKey e (9999 + 1) kt (.agg #[.int .i64 a, .int .i64 b])).run P w = _
 unfold Instr.checkKey
 simp only [Sem.run_bind, run_underlying h.k, Result.andThen_ok]
 simp only [Std.Legacy.Range.forIn_eq_forIn_range', Std.Legacy.Range.size, Nat.sub_zero, Nat.add_one_sub_one, Nat.div_one]
 rw [show List.range' 0 2 = [0, 1] from rfl]
 simp only [List.forIn_cons, List.forIn_nil, Sem.run_bind, hso, Result.andThen_ok, Nat.mul_one, p1, p2, hc, Sem.run_pure]
def PairsAre (es : List MapEntry) (R : List ((Int × Int) × Value)) : Prop := es.map (fun e => (e.key, e.val)) = R.map fun r => (pairV r.1, r.2)
theorem PairsAre.put {es : Array MapEntry} {R : List ((Int × Int) × Value)} (h : PairsAre es.toList R) (p : Int × Int) (v : Value) (born : Nat) : PairsAre (es.push { key := pairV p, val := v, born := born }).toList (R ++ [(p, v)]) := by
 unfold PairsAre at *
 rw [Array.toList_push, List.map_append, List.map_append, h]
 rfl
end
theorem ReadW.pair {P : Program} {o : Oper} {s : List AV} {H : List Ent} {K : AV → Prop} {T it : TypeId} {x y : Operand} {a b : Int} {inf : TypeInfo} (ho : o.op = .build T #[(0, x), (1, y)]) (hT : PairT P T it) (hi : P.info? T = some inf) (hz : inf.zero = some (.agg #[.int .i64 0, .int .i64 0]))
  (hx : opv s x = .c (.v (.int .i64 a))) (hy : opv s y = .c (.v (.int .i64 b))) (h : K (.c (.v (pairV (a, b))))) : ReadW P o s H K :=
 ReadW.val (pairV (a, b)) (fun cs b e => by rw [ho] at e; cases e) (by rw [ho]; show allPlain s [x, y] = true; simp [allPlain, hx, hy]) (fun w hw => by
  obtain ⟨i1, hi1, hs1⟩ := hT.s
  have hso : (sizeOf it).run P w = .ok 1 w := by rw [← hs1]; simp [sizeOf, typeInfo, hi1, Result.andThen]
  have hb : (Instr.build T #[(0, plainEv s x), (1, plainEv s y)]).run P w = .ok (pairV (a, b)) w := by
   rw [plainEv_v hx, plainEv_v hy]
   unfold Instr.build
   simp only [Sem.run_bind, run_zeroValue hi hz, run_underlying hT.k, Result.andThen_ok, hso]
   rfl
  unfold execOp
  simp [ho, hb, Result.andThen]) h
end Go.AX

/-
 Contract: the closure that walks two cells (program's Equal).
-/
namespace Go.Core
end Go.Core
namespace Go.Proofs.YtgogonnnojcioaaGreatDoor
open Go.AX Go.RowKit Go.Core
set_option maxRecDepth 20000

end Go.Proofs.YtgogonnnojcioaaGreatDoor

/-
 AX, fifty-second text: ahead of a call, what is known said in another way.
-/
namespace Go.AX
theorem SpecH.turn {P : Program} {f : FuncId} {args : List AV} {H : List Ent} {K : Out → List Ent → Prop} (G : List Ent) (t : SealR (Facts (restK H G)) H G) (h : SpecH P f args G K) : SpecH P f args H K := by
 refine ⟨h.ok, fun ρ S w vs hs hr => ?_⟩
 obtain ⟨S', hs', hev⟩ := (turnS t).2 ρ S w hs
 exact (h.run ρ S' w vs hs' hr).mono fun e w' ⟨ρ2, S2, H2, out, a1, a2, a3, a4⟩ => ⟨ρ2, S2, H2, out, a1, hev.trans a2, a3, a4⟩
end Go.AX

/-
 Contract: Equal (program).
-/
namespace Go.Core
theorem valid_in {g : List Cell} (h : ValidP g) : InG g := by
 intro c hc i hi
 have h1 := h.2.1 c hc
 unfold cellD rangeB at h1
 simp only [Bool.and_eq_true] at h1
 have := List.all_eq_true.1 h1.1.1 i hi
 simp only [Bool.and_eq_true, decide_eq_true_eq] at this
 exact this
end Go.Core
namespace Go.Proofs.YtgogonnnojcioaaGreatDoor
open Go.AX Go.RowKit Go.Core
set_option maxRecDepth 20000

end Go.Proofs.YtgogonnnojcioaaGreatDoor

/-
 Plain: copies and joined graphs are valid.
-/
namespace Go.Core
theorem mem_at {g : List Cell} {c : Cell} (h : c ∈ g) : ∃ i, InI g i ∧ c = at_ g i := by
 obtain ⟨j, hj⟩ := List.getElem?_of_mem h
 have hl := (List.getElem?_eq_some_iff.1 hj).1
 refine ⟨(j : Int), ⟨by omega, by omega⟩, ?_⟩
 unfold at_
 rw [Int.toNat_natCast, List.getD_eq_getElem?_getD, hj]
 rfl
end Go.Core

/-
 Plain: the bytes of marshal, as they are read (what program and document both do) and written.
-/
namespace Go.Marshal
open Go.Core
abbrev B := List UInt8

/-! ### Numbers -/
def numR : Nat → Nat → B
 | 0, _ => []
 | f + 1, m => if m = 0 then [] else UInt8.ofNat (m % 128 + 128) :: numR f (m / 128)
def num (n : Nat) : B := (UInt8.ofNat (n % 128) :: numR 10 (n / 128)).reverse
def sgn (n : Int) : Nat := if n < 0 then (-2 * n - 1).toNat else (2 * n).toNat
def unsgn (n : Nat) : Int := if n % 2 = 1 then -(((n + 1) / 2 : Nat) : Int) else ((n / 2 : Nat) : Int)
def maxN : Nat := 1000000000000000

/-! ### Reading -/
def rdF (most : Nat) : Nat → Nat → B → Except Int (Nat × B)
 | _, _, [] => .error 14
 | i, n, x :: s =>
  if i = 0 ∧ x = 128 ∨ 9 ≤ i then .error 4
  else if x.toNat < 128 then (if n * 128 + x.toNat % 128 ≤ most then .ok (n * 128 + x.toNat % 128, s) else .error 4)
  else rdF most (i + 1) (n * 128 + x.toNat % 128) s
def rd (most : Nat) (s : B) : Except Int (Nat × B) := rdF most 0 0 s
def rdT (most : Nat) (s : B) : Except Int (B × B) := match rd maxN s with
 | .error e => .error e
 | .ok (n, r) => if most < n then .error 4 else if r.length < n then .error 14 else .ok (r.take n, r.drop n)
def rdSym (x : UInt8) (ss : List B) (s : B) : Except Int (B × List B × B) :=
 if x = 59 then match rd maxN s with
  | .error e => .error e
  | .ok (k, r) => match ss[k]? with
   | some t => .ok (t, ss, r)
   | none => .error 4
 else if x = 58 then match rdT 40 s with
  | .error e => .error e
  | .ok (t, r) => if t ∈ ss then .error 4 else .ok (t, ss ++ [t], r)
 else .error 4
structure St where
 s : B
 g : List Cell
 cells : List Int
 ss : List B
def bnd {α β : Type} : Except Int (α × St) → (α → St → Except Int (β × St)) → Except Int (β × St)
 | .error e, _ => .error e
 | .ok (a, st), k => k a st
def nextS (st : St) : Except Int (UInt8 × St) := match st.s with
 | [] => .error 14
 | x :: s => .ok (x, { st with s := s })
def numS (most : Nat) (st : St) : Except Int (Nat × St) := match rd most st.s with
 | .error e => .error e
 | .ok (n, r) => .ok (n, { st with s := r })
def textS (most : Nat) (st : St) : Except Int (B × St) := match rdT most st.s with
 | .error e => .error e
 | .ok (t, r) => .ok (t, { st with s := r })
def symS (x : UInt8) (st : St) : Except Int (B × St) := match rdSym x st.ss st.s with
 | .error e => .error e
 | .ok (t, ss, r) => .ok (t, { st with s := r, ss := ss })
def itemsA (f : St → Except Int (Int × St)) : Nat → List Int → St → Except Int (List Int × St)
 | 0, l, st => .ok (l, st)
 | n + 1, l, st => bnd (f st) fun i st => itemsA f n (l ++ [i]) st
def attrsA (f : St → Except Int (Int × St)) : Nat → List B → List Int → St → Except Int ((List B × List Int) × St)
 | 0, ns, l, st => .ok ((ns, l), st)
 | n + 1, ns, l, st => bnd (nextS st) fun x st => bnd (symS x st) fun t st =>
  if Go.Scan.iiB t = true ∧ t ∉ ns then bnd (f st) fun i st => attrsA f n (ns ++ [t]) (l ++ [i]) st else .error 4
def innerF (f : St → Except Int (Int × St)) (x : UInt8) (st : St) : Except Int (Cell × St) :=
 if x = 48 then .ok (⟨0, 0, [], [], []⟩, st)
 else if x = 84 then .ok (⟨1, 0, [], [], []⟩, st)
 else if x = 70 then .ok (⟨2, 0, [], [], []⟩, st)
 else if x = 105 then bnd (numS (2 * maxN) st) fun n st => .ok (⟨3, unsgn n, [], [], []⟩, st)
 else if x = 34 then bnd (textS maxN st) fun t st => .ok (⟨4, 0, t, [], []⟩, st)
 else if x = 58 ∨ x = 59 then bnd (symS x st) fun t st => .ok (⟨5, 0, t, [], []⟩, st)
 else if x = 91 then bnd (numS maxN st) fun n st => bnd (itemsA f n [] st) fun l st => .ok (⟨6, 0, [], [], l⟩, st)
 else if x = 123 then bnd (numS maxN st) fun n st => bnd (itemsA f (2 * n) [] st) fun l st => .ok (⟨7, 0, [], [], l⟩, st)
 else bnd (nextS st) fun y st => bnd (symS y st) fun t st =>
  if Go.Scan.icB t = true then bnd (numS maxN st) fun n st => bnd (attrsA f n [] [] st) fun p st => .ok (⟨8, 0, t, p.1, p.2⟩, st) else .error 4
def begins : B := [48, 84, 70, 105, 34, 58, 59, 91, 123, 111]
def named : B := [34, 91, 123, 111]
def openS (x : UInt8) (st : St) : St := ⟨st.s, st.g ++ [nilC], if x ∈ named then st.cells ++ [(st.g.length : Int)] else st.cells, st.ss⟩
def setS (i : Nat) (c : Cell) (st : St) : St := { st with g := st.g.set i c }
def formF : Nat → St → Except Int (Int × St)
 | 0, _ => .error 99
 | n + 1, st => bnd (nextS st) fun x st =>
  if x = 64 then bnd (numS maxN st) fun k st => match st.cells[k]? with
   | some c => .ok (c, st)
   | none => .error 4
  else if 500 ≤ st.g.length ∨ x ∉ begins then .error 4
  else bnd (innerF (formF n) x (openS x st)) fun c st' => .ok ((st.g.length : Int), setS st.g.length c st')
def headF : B → B → Except Int B
 | [], s => .ok s
 | _ :: _, [] => .error 14
 | h :: hs, x :: s => if x = h then headF hs s else .error 4
def headB : B := [67, 77, 1]
open Classical in
noncomputable def loadS (s : B) : Except Int (List Cell × List B) :=
 if 20000 < s.length then .error 2
 else match headF headB s with
  | .error e => .error e
  | .ok r => match formF (r.length + 1) ⟨r, [], [], []⟩ with
   | .error e => .error e
   | .ok (_, st) => if st.s ≠ [] then .error 4 else if ValidP st.g then .ok (st.g, st.ss) else .error 1

/-! ### Writing -/
structure Wr where
 out : B
 cells : List Int
 ss : List B
def putW (w : Wr) (b : B) : Wr := { w with out := w.out ++ b }
def symW (w : Wr) (t : B) : Wr := if t ∈ w.ss then putW w (59 :: num (w.ss.idxOf t)) else ⟨w.out ++ (58 :: (num t.length ++ t)), w.cells, w.ss ++ [t]⟩
def writeF (g : List Cell) : Nat → Wr → Int → Wr
 | 0, w, _ => w
 | n + 1, w, a =>
  let c := at_ g a
  if c.kind = 0 then putW w [48]
  else if c.kind = 1 then putW w [84]
  else if c.kind = 2 then putW w [70]
  else if c.kind = 3 then putW w (105 :: num (sgn c.num))
  else if c.kind = 5 then symW w c.text
  else if a ∈ w.cells then putW w (64 :: num (w.cells.idxOf a))
  else
   let w := { w with cells := w.cells ++ [a] }
   if c.kind = 4 then putW w (34 :: (num c.text.length ++ c.text))
   else if c.kind = 6 then c.items.foldl (writeF g n) (putW w (91 :: num c.items.length))
   else if c.kind = 7 then c.items.foldl (writeF g n) (putW w (123 :: num (c.items.length / 2)))
   else (c.names.zip c.items).foldl (fun w p => writeF g n (symW w p.1) p.2) (putW (symW (putW w [111]) c.text) (num c.names.length))
def dumpS (g : List Cell) (a : Int) : B := (writeF g (g.length + 1) ⟨headB, [], []⟩ a).out
end Go.Marshal

/-
 Plain: what was written as a number is read as this number; reading looks at no byte behind.
-/
namespace Go.Marshal
open Go.Core

theorem ofNat_lt {n : Nat} (h : n < 256) : (UInt8.ofNat n).toNat = n := by
 rw [UInt8.toNat_ofNat', Nat.mod_eq_of_lt (by simpa using h)]
theorem numR_len : ∀ (f m k : Nat), m < 128 ^ k → (numR f m).length ≤ k
 | 0, _, _, _ => Nat.zero_le _
 | f + 1, m, k, h => by
  unfold numR
  split
  ·exact Nat.zero_le _
  ·rename_i hm
   cases k with
   | zero => rw [Nat.pow_zero] at h; omega
   | succ k =>
    have := numR_len f (m / 128) k (by rw [Nat.pow_succ, Nat.mul_comm] at h; exact Nat.div_lt_of_lt_mul h)
    simp only [List.length_cons]; omega
theorem rdF_digits {most : Nat} : ∀ (f m : Nat) (rest : B), m ≠ 0 → m < 128 ^ f → (numR f m).length ≤ 9 → rdF most 0 0 ((numR f m).reverse ++ rest) = rdF most (numR f m).length m rest
 | 0, m, _, h0, h1, _ => by rw [Nat.pow_zero] at h1; omega
 | f + 1, m, rest, h0, h1, h2 => by
  have e : numR (f + 1) m = UInt8.ofNat (m % 128 + 128) :: numR f (m / 128) := by
   conv => lhs; unfold numR
   rw [if_neg h0]
  rw [e] at h2 ⊢
  simp only [List.length_cons] at h2
  have ht : (UInt8.ofNat (m % 128 + 128)).toNat = m % 128 + 128 := ofNat_lt (by omega)
  rw [List.reverse_cons, List.append_assoc, List.singleton_append]
  by_cases hz : m / 128 = 0
  ·have e2 : numR f (m / 128) = [] := by
    rw [hz]
    cases f with
    | zero => rfl
    | succ f => unfold numR; rw [if_pos rfl]
   rw [e2]
   simp only [List.reverse_nil, List.nil_append, List.length_cons, List.length_nil]
   conv => lhs; unfold rdF
   rw [if_neg, if_neg (by omega)]
   ·rw [ht]
    congr 1
    omega
   ·rintro (⟨_, h⟩ | h)
    ·have := congrArg UInt8.toNat h
     rw [ht] at this
     have : m % 128 + 128 = 128 := this
     omega
    ·omega
  ·rw [rdF_digits f (m / 128) _ hz (by rw [Nat.pow_succ, Nat.mul_comm] at h1; exact Nat.div_lt_of_lt_mul h1) (by omega)]
   have h3 : 1 ≤ (numR f (m / 128)).length := by
    cases f with
    | zero => rw [Nat.pow_succ, Nat.pow_zero] at h1; omega
    | succ f => unfold numR; rw [if_neg hz]; simp
   conv => lhs; unfold rdF
   rw [if_neg (by omega), if_neg (by omega)]
   simp only [List.length_cons]
   rw [ht]
   congr 1
   omega
theorem rd_num {most n : Nat} (h : n ≤ most) (h2 : n < 9223372036854775808) (rest : B) : rd most (num n ++ rest) = .ok (n, rest) := by
 unfold rd num
 have ht : (UInt8.ofNat (n % 128)).toNat = n % 128 := ofNat_lt (by omega)
 have hl : (numR 10 (n / 128)).length ≤ 8 := numR_len _ _ _ (by omega)
 rw [List.reverse_cons, List.append_assoc, List.singleton_append]
 by_cases hz : n / 128 = 0
 ·have e2 : numR 10 (n / 128) = [] := by rw [hz]; rfl
  rw [e2]
  simp only [List.reverse_nil, List.nil_append]
  unfold rdF
  rw [if_neg, if_pos (by omega), if_pos (by omega)]
  ·congr 2
   omega
  ·rintro (⟨_, h⟩ | h)
   ·have := congrArg UInt8.toNat h
    rw [ht] at this
    have : n % 128 = 128 := this
    omega
   ·omega
 ·rw [rdF_digits 10 (n / 128) _ hz (by omega) (by omega)]
  have h3 : 1 ≤ (numR 10 (n / 128)).length := by unfold numR; rw [if_neg hz]; simp
  unfold rdF
  rw [if_neg (by omega), if_pos (by omega), if_pos (by omega)]
  congr 2
  omega
theorem num_pos (n : Nat) : 0 < (num n).length := by unfold num; simp
theorem num_len {n : Nat} (h : n < 9223372036854775808) : (num n).length ≤ 9 := by
 unfold num
 have := numR_len 10 (n / 128) 8 (by omega)
 simp; omega
theorem unsgn_sgn (n : Int) : unsgn (sgn n) = n := by
 unfold unsgn sgn
 split <;> split <;> omega

/-! ### Reading looks at no byte behind; what is cut ends too soon -/
def Loc {α : Type} (p : B → Except Int (α × B)) : Prop := ∀ s a r, p s = .ok (a, r) → ∃ u, s = u ++ r ∧ (∀ t, p (u ++ t) = .ok (a, t)) ∧ ∀ v w, u = v ++ w → w ≠ [] → p v = .error 14
theorem rdF_loc (most : Nat) : ∀ (s : B) (i n a : Nat) (r : B), rdF most i n s = .ok (a, r) → ∃ u, s = u ++ r ∧ (∀ t, rdF most i n (u ++ t) = .ok (a, t)) ∧ ∀ v w, u = v ++ w → w ≠ [] → rdF most i n v = .error 14
 | [], i, n, a, r, h => by unfold rdF at h; cases h
 | x :: s, i, n, a, r, h => by
  unfold rdF at h
  split at h
  ·cases h
  rename_i h1
  split at h
  ·rename_i h2
   split at h
   ·rename_i h3
    cases h
    refine ⟨[x], rfl, fun t => ?_, fun v w e hw => ?_⟩
    ·show rdF most i n (x :: t) = _
     unfold rdF
     rw [if_neg h1, if_pos h2, if_pos h3]
    ·cases v with
     | nil => unfold rdF; rfl
     | cons y v =>
      injection e with _ e
      exact absurd (List.append_eq_nil_iff.1 e.symm).2 hw
   ·cases h
  ·rename_i h2
   obtain ⟨u, e1, e2, e3⟩ := rdF_loc most s _ _ _ _ h
   refine ⟨x :: u, by rw [e1]; rfl, fun t => ?_, fun v w e hw => ?_⟩
   ·show rdF most i n (x :: (u ++ t)) = _
    unfold rdF
    rw [if_neg h1, if_neg h2]
    exact e2 t
   ·cases v with
    | nil => unfold rdF; rfl
    | cons y v =>
     injection e with ex e
     subst ex
     unfold rdF
     rw [if_neg h1, if_neg h2]
     exact e3 v w e hw
theorem rd_loc (most : Nat) : Loc (rd most) := fun s a r h => rdF_loc most s 0 0 a r h
theorem app_cut {α : Type} {a b v w : List α} (e : a ++ b = v ++ w) : (∃ z, a = v ++ z ∧ z ≠ []) ∨ ∃ z, v = a ++ z ∧ b = z ++ w := by
 rcases List.append_eq_append_iff.1 e with ⟨z, h1, h2⟩ | ⟨z, h1, h2⟩
 ·exact .inr ⟨z, h1, h2⟩
 ·by_cases hz : z = []
  ·subst hz
   refine .inr ⟨[], by simpa using h1.symm, by simpa using h2.symm⟩
  ·exact .inl ⟨z, h1, hz⟩
theorem rdT_loc (most : Nat) : Loc (rdT most) := by
 intro s a r h
 unfold rdT at h
 split at h
 ·cases h
 rename_i n q hq
 split at h
 ·cases h
 rename_i h1
 split at h
 ·cases h
 rename_i h2
 cases h
 obtain ⟨u, e1, e2, e3⟩ := rd_loc maxN _ _ _ hq
 have hl : (q.take n).length = n := by rw [List.length_take]; omega
 refine ⟨u ++ q.take n, by rw [e1, List.append_assoc, List.take_append_drop], fun t => ?_, fun v w e hw => ?_⟩
 ·unfold rdT
  rw [List.append_assoc, e2]
  simp only
  rw [if_neg h1, if_neg (by rw [List.length_append, hl]; omega)]
  rw [List.take_append_of_le_length (by omega), List.drop_append_of_le_length (by omega), List.take_of_length_le (by omega), List.drop_of_length_le (by omega)]
  rfl
 ·rcases app_cut e with ⟨z, hz, hz2⟩ | ⟨z, hz, hz2⟩
  ·unfold rdT
   rw [e3 v z hz hz2]
  ·unfold rdT
   rw [hz, e2]
   simp only
   have : z.length < n := by
    have := congrArg List.length hz2
    rw [hl, List.length_append] at this
    have : w.length ≠ 0 := fun h => hw (List.eq_nil_of_length_eq_zero h)
    omega
   rw [if_neg h1, if_pos this]
theorem rdSym_loc (x : UInt8) (ss : List B) : ∀ (s : B) (t : B) (ss' : List B) (r : B), rdSym x ss s = .ok (t, ss', r) → ∃ u, s = u ++ r ∧ (∀ q, rdSym x ss (u ++ q) = .ok (t, ss', q)) ∧ ∀ v w, u = v ++ w → w ≠ [] → rdSym x ss v = .error 14 := by
 intro s t ss' r h
 unfold rdSym at h
 split at h
 ·rename_i hx
  split at h
  ·cases h
  rename_i k q hq
  obtain ⟨u, e1, e2, e3⟩ := rd_loc maxN _ _ _ hq
  split at h
  ·rename_i t0 ht
   cases h
   refine ⟨u, e1, fun q => ?_, fun v w e hw => ?_⟩
   ·unfold rdSym
    rw [if_pos hx, e2]
    simp only
    rw [ht]
   ·unfold rdSym
    rw [if_pos hx, e3 v w e hw]
  ·cases h
 ·rename_i hx
  split at h
  ·rename_i hx2
   split at h
   ·cases h
   rename_i t0 q hq
   obtain ⟨u, e1, e2, e3⟩ := rdT_loc 40 _ _ _ hq
   split at h
   ·cases h
   ·rename_i hm
    cases h
    refine ⟨u, e1, fun q => ?_, fun v w e hw => ?_⟩
    ·unfold rdSym
     rw [if_neg hx, if_pos hx2, e2]
     simp only
     rw [if_neg hm]
    ·unfold rdSym
     rw [if_neg hx, if_pos hx2, e3 v w e hw]
  ·cases h
end Go.Marshal

/-
 Plain: reading cells looks at no byte behind; what is cut ends too soon; the purse does not matter.
-/
namespace Go.Marshal
open Go.Core

def cutS (st : St) (t : B) : St := { st with s := t }
def LocS {α : Type} (F : St → Except Int (α × St)) : Prop := ∀ st a st', F st = .ok (a, st') → ∃ u, st.s = u ++ st'.s ∧ (∀ t, F (cutS st (u ++ t)) = .ok (a, cutS st' t)) ∧ ∀ v w, u = v ++ w → w ≠ [] → F (cutS st v) = .error 14
theorem LocS.ret {α : Type} (a : α) : LocS fun st => .ok (a, st) := fun st a' st' h => by
 cases h
 exact ⟨[], rfl, fun _ => rfl, fun v w e hw => absurd (List.append_eq_nil_iff.1 e.symm).2 hw⟩
theorem LocS.err {α : Type} (e : Int) : LocS (fun _ => (.error e : Except Int (α × St))) := fun st a' st' h => by cases h
theorem LocS.bnd {α β : Type} {F : St → Except Int (α × St)} {G : α → St → Except Int (β × St)} (hF : LocS F) (hG : ∀ a, LocS (G a)) : LocS fun st => bnd (F st) G := by
 intro st b st2 h
 cases hf : F st with
 | error e => simp only [hf] at h; cases h
 | ok p =>
  obtain ⟨a, st1⟩ := p
  simp only [hf] at h
  obtain ⟨u, e1, e2, e3⟩ := hF st a st1 hf
  obtain ⟨v, f1, f2, f3⟩ := hG a st1 b st2 h
  refine ⟨u ++ v, by rw [e1, f1, List.append_assoc], fun t => ?_, fun x w e hw => ?_⟩
  ·show Marshal.bnd (F _) G = _
   rw [List.append_assoc, e2]
   exact f2 t
  ·rcases app_cut e with ⟨z, hz, hz2⟩ | ⟨z, hz, hz2⟩
   ·show Marshal.bnd (F _) G = _
    rw [e3 x z hz hz2]
    rfl
   ·show Marshal.bnd (F _) G = _
    rw [hz, e2]
    exact f3 z w hz2 hw
theorem LocS.next : LocS nextS := by
 intro st a st' h
 unfold nextS at h
 split at h
 ·cases h
 ·rename_i x s hs
  cases h
  refine ⟨[a], hs, fun _ => rfl, fun v w e hw => ?_⟩
  cases v with
  | nil => rfl
  | cons y v =>
   injection e with _ e
   exact absurd (List.append_eq_nil_iff.1 e.symm).2 hw
theorem LocS.num (most : Nat) : LocS (numS most) := by
 intro st a st' h
 unfold numS at h
 split at h
 ·cases h
 ·rename_i n r hr
  cases h
  obtain ⟨u, e1, e2, e3⟩ := rd_loc most _ _ _ hr
  refine ⟨u, e1, fun t => ?_, fun v w e hw => ?_⟩
  ·unfold numS cutS
   simp only [e2]
  ·unfold numS cutS
   simp only [e3 v w e hw]
theorem LocS.text (most : Nat) : LocS (textS most) := by
 intro st a st' h
 unfold textS at h
 split at h
 ·cases h
 ·rename_i n r hr
  cases h
  obtain ⟨u, e1, e2, e3⟩ := rdT_loc most _ _ _ hr
  refine ⟨u, e1, fun t => ?_, fun v w e hw => ?_⟩
  ·unfold textS cutS
   simp only [e2]
  ·unfold textS cutS
   simp only [e3 v w e hw]
theorem LocS.sym (x : UInt8) : LocS (symS x) := by
 intro st a st' h
 unfold symS at h
 split at h
 ·cases h
 ·rename_i t ss r hr
  cases h
  obtain ⟨u, e1, e2, e3⟩ := rdSym_loc x st.ss _ _ _ _ hr
  refine ⟨u, e1, fun t => ?_, fun v w e hw => ?_⟩
  ·unfold symS cutS
   simp only [e2]
  ·unfold symS cutS
   simp only [e3 v w e hw]
theorem LocS.ite {α : Type} {P : Prop} [Decidable P] {F G : St → Except Int (α × St)} (hF : LocS F) (hG : LocS G) : LocS fun st => if P then F st else G st := by
 by_cases h : P
 ·simp only [if_pos h]; exact hF
 ·simp only [if_neg h]; exact hG
theorem LocS.items {f : St → Except Int (Int × St)} (hf : LocS f) : ∀ (n : Nat) (l : List Int), LocS (itemsA f n l)
 | 0, l => LocS.ret l
 | n + 1, l => LocS.bnd hf fun i => LocS.items hf n (l ++ [i])
theorem LocS.attrs {f : St → Except Int (Int × St)} (hf : LocS f) : ∀ (n : Nat) (ns : List B) (l : List Int), LocS (attrsA f n ns l)
 | 0, ns, l => LocS.ret (ns, l)
 | n + 1, ns, l => LocS.bnd LocS.next fun x => LocS.bnd (LocS.sym x) fun t => LocS.ite (LocS.bnd hf fun i => LocS.attrs hf n (ns ++ [t]) (l ++ [i])) (LocS.err 4)
theorem LocS.inner {f : St → Except Int (Int × St)} (hf : LocS f) (x : UInt8) : LocS (innerF f x) :=
 LocS.ite (LocS.ret _) <| LocS.ite (LocS.ret _) <| LocS.ite (LocS.ret _) <| LocS.ite (LocS.bnd (LocS.num _) fun _ => LocS.ret _) <| LocS.ite (LocS.bnd (LocS.text _) fun _ => LocS.ret _) <|
  LocS.ite (LocS.bnd (LocS.sym _) fun _ => LocS.ret _) <| LocS.ite (LocS.bnd (LocS.num _) fun n => LocS.bnd (LocS.items hf n []) fun _ => LocS.ret _) <|
  LocS.ite (LocS.bnd (LocS.num _) fun n => LocS.bnd (LocS.items hf (2 * n) []) fun _ => LocS.ret _) <|
  LocS.bnd LocS.next fun y => LocS.bnd (LocS.sym y) fun _ => LocS.ite (LocS.bnd (LocS.num _) fun n => LocS.bnd (LocS.attrs hf n [] []) fun _ => LocS.ret _) (LocS.err 4)
theorem LocS.wrap {α β : Type} {F : St → Except Int (α × St)} (hF : LocS F) (o : St → St) (ho : ∀ st t, o (cutS st t) = cutS (o st) t) (hs : ∀ st, (o st).s = st.s)
  (k : St → α → β) (hk : ∀ st t a, k (cutS st t) a = k st a) (e : St → α → St → St) (he : ∀ st t a st', e (cutS st t) a st' = e st a st') (hes : ∀ st a st', (e st a st').s = st'.s) (hec : ∀ st a st' t, e st a (cutS st' t) = cutS (e st a st') t) :
  LocS fun st => Marshal.bnd (F (o st)) fun a st' => .ok (k st a, e st a st') := by
 intro st b st2 h
 cases hf : F (o st) with
 | error x => simp only [hf] at h; cases h
 | ok p =>
  obtain ⟨a, st1⟩ := p
  simp only [hf] at h
  cases h
  obtain ⟨u, e1, e2, e3⟩ := hF _ a st1 hf
  refine ⟨u, by rw [← hs st, e1, hes], fun t => ?_, fun v w ee hw => ?_⟩
  ·show Marshal.bnd (F (o (cutS st (u ++ t)))) _ = _
   rw [ho, e2]
   show Except.ok _ = _
   rw [hk, he, hec]
  ·show Marshal.bnd (F (o (cutS st v))) _ = _
   rw [ho, e3 v w ee hw]
   rfl
theorem LocS.form : ∀ n : Nat, LocS (formF n)
 | 0 => LocS.err 99
 | n + 1 => by
  refine LocS.bnd LocS.next fun x => LocS.ite (LocS.bnd (LocS.num _) fun k => ?_) ?_
  ·intro st a st' h
   simp only at h
   split at h
   ·rename_i c hc
    cases h
    exact ⟨[], rfl, fun t => by simp only [cutS, hc]; rfl, fun v w e hw => absurd (List.append_eq_nil_iff.1 e.symm).2 hw⟩
   ·cases h
  ·have h1 : LocS fun st => Marshal.bnd (innerF (formF n) x (openS x st)) fun c st' => .ok ((st.g.length : Int), setS st.g.length c st') :=
    LocS.wrap (LocS.inner (LocS.form n) x) (openS x) (fun _ _ => rfl) (fun _ => rfl) (fun st _ => (st.g.length : Int)) (fun _ _ _ => rfl) (fun st c st' => setS st.g.length c st') (fun _ _ _ _ => rfl) (fun _ _ _ => rfl) (fun _ _ _ _ => rfl)
   intro st a st' h
   simp only at h
   split at h
   ·cases h
   ·rename_i hc
    obtain ⟨u, e1, e2, e3⟩ := h1 st a st' h
    refine ⟨u, e1, fun t => ?_, fun v w e hw => ?_⟩
    ·have := e2 t
     show (if 500 ≤ st.g.length ∨ x ∉ begins then _ else _) = _
     rw [if_neg hc]
     exact this
    ·have := e3 v w e hw
     show (if 500 ≤ st.g.length ∨ x ∉ begins then _ else _) = _
     rw [if_neg hc]
     exact this

/-! ### The purse -/
theorem LocS.le {α : Type} {F : St → Except Int (α × St)} (h : LocS F) {st st' : St} {a : α} (e : F st = .ok (a, st')) : st'.s.length ≤ st.s.length := by
 obtain ⟨u, e1, _⟩ := h st a st' e
 rw [e1, List.length_append]; omega
theorem bnd_congr {α β : Type} {x : Except Int (α × St)} {G H : α → St → Except Int (β × St)} (h : ∀ a st, x = .ok (a, st) → G a st = H a st) : bnd x G = bnd x H := by
 cases x with
 | error e => rfl
 | ok p => obtain ⟨a, st⟩ := p; exact h a st rfl
theorem items_congr {f h : St → Except Int (Int × St)} (hf : LocS f) {m : Nat} (e : ∀ st, st.s.length ≤ m → f st = h st) : ∀ (n : Nat) (l : List Int) (st : St), st.s.length ≤ m → itemsA f n l st = itemsA h n l st
 | 0, _, _, _ => rfl
 | n + 1, l, st, hs => by
  unfold itemsA
  rw [← e st hs]
  exact bnd_congr fun i st1 h1 => items_congr hf e n _ st1 (Nat.le_trans (hf.le h1) hs)
theorem attrs_congr {f h : St → Except Int (Int × St)} (hf : LocS f) {m : Nat} (e : ∀ st, st.s.length ≤ m → f st = h st) : ∀ (n : Nat) (ns : List B) (l : List Int) (st : St), st.s.length ≤ m → attrsA f n ns l st = attrsA h n ns l st
 | 0, _, _, _, _ => rfl
 | n + 1, ns, l, st, hs => by
  unfold attrsA
  refine bnd_congr fun x st1 h1 => bnd_congr fun t st2 h2 => ?_
  have l1 := LocS.next.le h1
  have l2 := (LocS.sym x).le h2
  split
  ·rw [← e st2 (by omega)]
   exact bnd_congr fun i st3 h3 => attrs_congr hf e n _ _ st3 (by have := hf.le h3; omega)
  ·rfl
theorem inner_congr {f h : St → Except Int (Int × St)} (hf : LocS f) {m : Nat} (e : ∀ st, st.s.length ≤ m → f st = h st) (x : UInt8) (st : St) (hs : st.s.length ≤ m) : innerF f x st = innerF h x st := by
 unfold innerF
 split
 ·rfl
 split
 ·rfl
 split
 ·rfl
 split
 ·rfl
 split
 ·rfl
 split
 ·rfl
 split
 ·refine bnd_congr fun n st1 h1 => ?_
  rw [items_congr hf e n [] st1 (by have := (LocS.num _).le h1; omega)]
 split
 ·refine bnd_congr fun n st1 h1 => ?_
  rw [items_congr hf e (2 * n) [] st1 (by have := (LocS.num _).le h1; omega)]
 refine bnd_congr fun y st1 h1 => bnd_congr fun t st2 h2 => ?_
 have l1 := LocS.next.le h1
 have l2 := (LocS.sym y).le h2
 split
 ·refine bnd_congr fun n st3 h3 => ?_
  rw [attrs_congr hf e n [] [] st3 (by have := (LocS.num _).le h3; omega)]
 ·rfl
theorem form_stab : ∀ (n m : Nat) (st : St), st.s.length < n → st.s.length < m → formF n st = formF m st
 | 0, _, _, h, _ => by omega
 | _ + 1, 0, _, _, h => by omega
 | n + 1, m + 1, st, h1, h2 => by
  unfold formF
  refine bnd_congr fun x st1 h3 => ?_
  have hl : st1.s.length + 1 = st.s.length := by
   unfold nextS at h3
   split at h3
   ·cases h3
   ·rename_i y s hs
    cases h3
    rw [hs]; rfl
  split
  ·rfl
  split
  ·rfl
  rw [inner_congr (h := formF m) (LocS.form n) (m := st1.s.length) (fun st2 h4 => form_stab n m st2 (by omega) (by omega)) x (openS x st1) (Nat.le_refl _)]
noncomputable def formS (st : St) : Except Int (Int × St) := formF (st.s.length + 1) st
theorem formS_eq {n : Nat} {st : St} (h : st.s.length < n) : formS st = formF n st := form_stab _ _ _ (Nat.lt_succ_self _) h
end Go.Marshal

/-
 Plain: the program's reader, as it goes on also where something is wrong; what it gives is what is said.
-/
namespace Go.Marshal
open Go.Core

structure PS where
 s : B
 g : List Cell
 cells : List Int
 ss : List B
 e : Int
def failM (st : PS) (e : Int) : PS := if st.e = 0 then { st with e := e } else st
def nextM (st : PS) : UInt8 × PS := if st.e ≠ 0 then (0, st) else match st.s with
 | [] => (0, { st with e := 14 })
 | x :: s => (x, { st with s := s })
def rdQ : Nat → B → B
 | _, [] => []
 | i, x :: s => if i = 0 ∧ x = 128 ∨ 9 ≤ i then s else if x.toNat < 128 then s else rdQ (i + 1) s
def numM (most : Nat) (st : PS) : Nat × PS := if st.e ≠ 0 then (0, st) else match rd most st.s with
 | .ok (n, _) => (n, { st with s := rdQ 0 st.s })
 | .error e => (0, { st with s := rdQ 0 st.s, e := e })
def textM (most : Nat) (st : PS) : B × PS :=
 if (numM maxN st).2.e ≠ 0 then ([], (numM maxN st).2)
 else if most < (numM maxN st).1 then ([], { (numM maxN st).2 with e := 4 })
 else if (numM maxN st).2.s.length < (numM maxN st).1 then ([], { (numM maxN st).2 with e := 14 })
 else ((numM maxN st).2.s.take (numM maxN st).1, { (numM maxN st).2 with s := (numM maxN st).2.s.drop (numM maxN st).1 })
def symM (x : UInt8) (st : PS) : B × PS :=
 if x = 58 then
  ((textM 40 st).1, { (if (textM 40 st).2.e = 0 ∧ (textM 40 st).1 ∈ (textM 40 st).2.ss then failM (textM 40 st).2 4 else (textM 40 st).2) with ss := (textM 40 st).2.ss ++ [(textM 40 st).1] })
 else if x = 59 then
  if (numM maxN st).2.e = 0 ∧ (numM maxN st).1 < (numM maxN st).2.ss.length then ((numM maxN st).2.ss.getD (numM maxN st).1 [], (numM maxN st).2) else ([], failM (numM maxN st).2 4)
 else ([], failM st 4)
def itemsM (f : PS → Int × PS) : Nat → List Int → PS → List Int × PS
 | 0, l, st => (l, st)
 | n + 1, l, st => if st.e = 0 then itemsM f n (l ++ [(f st).1]) (f st).2 else (l, st)
def nameM (ns : List B) (st : PS) : B × PS :=
 ((symM (nextM st).1 (nextM st).2).1, if (symM (nextM st).1 (nextM st).2).2.e = 0 ∧ ((symM (nextM st).1 (nextM st).2).1 ∈ ns ∨ Go.Scan.iiB (symM (nextM st).1 (nextM st).2).1 = false) then failM (symM (nextM st).1 (nextM st).2).2 4 else (symM (nextM st).1 (nextM st).2).2)
def attrsM (f : PS → Int × PS) : Nat → List B → List Int → PS → (List B × List Int) × PS
 | 0, ns, l, st => ((ns, l), st)
 | n + 1, ns, l, st => if st.e = 0 then attrsM f n (ns ++ [(nameM ns st).1]) (l ++ [(f (nameM ns st).2).1]) (f (nameM ns st).2).2 else ((ns, l), st)
def classM (st : PS) : B × PS :=
 ((symM (nextM st).1 (nextM st).2).1, if (symM (nextM st).1 (nextM st).2).2.e = 0 ∧ Go.Scan.icB (symM (nextM st).1 (nextM st).2).1 = false then failM (symM (nextM st).1 (nextM st).2).2 4 else (symM (nextM st).1 (nextM st).2).2)
def objM (f : PS → Int × PS) (st : PS) : Cell × PS :=
 (⟨8, 0, (classM st).1, (attrsM f (numM maxN (classM st).2).1 [] [] (numM maxN (classM st).2).2).1.1, (attrsM f (numM maxN (classM st).2).1 [] [] (numM maxN (classM st).2).2).1.2⟩, (attrsM f (numM maxN (classM st).2).1 [] [] (numM maxN (classM st).2).2).2)
def innerM (f : PS → Int × PS) (x : UInt8) (st : PS) : Cell × PS :=
 if x = 84 then (⟨1, 0, [], [], []⟩, st)
 else if x = 70 then (⟨2, 0, [], [], []⟩, st)
 else if x = 105 then (⟨3, unsgn (numM (2 * maxN) st).1, [], [], []⟩, (numM (2 * maxN) st).2)
 else if x = 34 then (⟨4, 0, (textM maxN st).1, [], []⟩, (textM maxN st).2)
 else if x = 58 ∨ x = 59 then (⟨5, 0, (symM x st).1, [], []⟩, (symM x st).2)
 else if x = 91 then (⟨6, 0, [], [], (itemsM f (numM maxN st).1 [] (numM maxN st).2).1⟩, (itemsM f (numM maxN st).1 [] (numM maxN st).2).2)
 else if x = 123 then (⟨7, 0, [], [], (itemsM f (2 * (numM maxN st).1) [] (numM maxN st).2).1⟩, (itemsM f (2 * (numM maxN st).1) [] (numM maxN st).2).2)
 else if x = 111 then objM f st
 else (nilC, st)
def openM (x : UInt8) (st : PS) : PS := { st with g := st.g ++ [nilC], cells := if x ∈ named then st.cells ++ [(st.g.length : Int)] else st.cells }
def refM (st : PS) : Int × PS :=
 let k := numM maxN st
 if k.2.e ≠ 0 then (0, k.2) else if k.2.cells.length ≤ k.1 then (0, failM k.2 4) else (k.2.cells.getD k.1 0, k.2)
def cellM : Nat → PS → Int × PS
 | 0, st => (0, failM st 99)
 | n + 1, st =>
  let x := nextM st
  if x.2.e ≠ 0 then (0, x.2)
  else if x.1 = 64 then refM x.2
  else if 500 ≤ x.2.g.length ∨ x.1 ∉ begins then (0, failM x.2 4)
  else let c := innerM (cellM n) x.1 (openM x.1 x.2)
   ((x.2.g.length : Int), { c.2 with g := c.2.g.set x.2.g.length c.1 })

/-! ### What is wrong stays so -/
def toS (st : PS) : St := ⟨st.s, st.g, st.cells, st.ss⟩
def ofS (st : St) : PS := ⟨st.s, st.g, st.cells, st.ss, 0⟩
theorem ofS_toS {st : PS} (h : st.e = 0) : ofS (toS st) = st := by cases st; simp only at h; subst h; rfl
structure Ref {α : Type} (F : St → Except Int (α × St)) (M : PS → α × PS) : Prop where
 ok : ∀ st a st', st.e = 0 → F (toS st) = .ok (a, st') → M st = (a, ofS st')
 err : ∀ st e, st.e = 0 → F (toS st) = .error e → (M st).2.e = e ∧ e ≠ 0
 dead : ∀ st, st.e ≠ 0 → (M st).2.e = st.e
theorem Ref.ret {α : Type} (a : α) : Ref (fun st => .ok (a, st)) (fun st => (a, st)) :=
 ⟨fun st a' st' h e => by cases e; rw [ofS_toS h], (fun st e _ h => by cases h), fun _ _ => rfl⟩
theorem Ref.bnd {α β : Type} {F : St → Except Int (α × St)} {M : PS → α × PS} {G : α → St → Except Int (β × St)} {N : α → PS → β × PS} (hF : Ref F M) (hG : ∀ a, Ref (G a) (N a)) (hd : ∀ a st, st.e ≠ 0 → (N a st).2.e = st.e) : Ref (fun st => bnd (F st) G) (fun st => N (M st).1 (M st).2) := by
 refine ⟨fun st b st2 h0 h => ?_, fun st e h0 h => ?_, fun st h => ?_⟩
 ·cases hf : F (toS st) with
  | error e => simp only [hf] at h; cases h
  | ok p =>
   obtain ⟨a, st1⟩ := p
   simp only [hf] at h
   rw [hF.ok st a st1 h0 hf]
   exact (hG a).ok (ofS st1) b st2 rfl h
 ·cases hf : F (toS st) with
  | error e1 =>
   simp only [hf] at h
   obtain rfl : e1 = e := by have : Except.error e1 = (Except.error e : Except Int (β × St)) := h; exact Except.error.inj this
   obtain ⟨h1, h2⟩ := hF.err st _ h0 hf
   exact ⟨by rw [hd _ _ (by rw [h1]; exact h2), h1], h2⟩
  | ok p =>
   obtain ⟨a, st1⟩ := p
   simp only [hf] at h
   rw [hF.ok st a st1 h0 hf]
   exact (hG a).err (ofS st1) e rfl h
 ·have h1 := hF.dead st h
  show (N (M st).1 (M st).2).2.e = _
  rw [hd _ _ (by rw [h1]; exact h), h1]
theorem Ref.map {α β : Type} {F : St → Except Int (α × St)} {M : PS → α × PS} (hF : Ref F M) (φ : α → β) : Ref (fun st => Marshal.bnd (F st) fun a st => .ok (φ a, st)) (fun st => (φ (M st).1, (M st).2)) :=
 hF.bnd (fun a => Ref.ret (φ a)) (fun _ _ _ => rfl)
theorem fail_dead {st : PS} (h : st.e ≠ 0) (e : Int) : failM st e = st := by unfold failM; rw [if_neg h]
theorem fail_e {st : PS} (h : st.e = 0) (e : Int) : (failM st e).e = e := by unfold failM; rw [if_pos h]
theorem fail_keep (st : PS) (e : Int) (h : st.e ≠ 0) : (failM st e).e = st.e := by rw [fail_dead h]
theorem Ref.next : Ref nextS nextM := by
 refine ⟨fun st a st' h0 h => ?_, fun st e h0 h => ?_, fun st h => ?_⟩
 ·unfold nextS toS at h
  unfold nextM
  rw [if_neg (by simp [h0])]
  cases hs : st.s with
  | nil => rw [hs] at h; cases h
  | cons x s =>
   rw [hs] at h
   cases h
   cases st
   simp only at h0
   subst h0
   rfl
 ·unfold nextS toS at h
  unfold nextM
  rw [if_neg (by simp [h0])]
  cases hs : st.s with
  | nil => rw [hs] at h; cases h; exact ⟨rfl, by decide⟩
  | cons x s => rw [hs] at h; cases h
 ·unfold nextM
  rw [if_pos h]
theorem rdQ_rest {most : Nat} : ∀ (s : B) (i n a : Nat) (r : B), rdF most i n s = .ok (a, r) → rdQ i s = r
 | [], _, _, _, _, h => by unfold rdF at h; cases h
 | x :: s, i, n, a, r, h => by
  unfold rdF at h
  unfold rdQ
  split at h
  ·cases h
  rename_i h1
  rw [if_neg h1]
  split at h
  ·rename_i h2
   rw [if_pos h2]
   split at h
   ·cases h; rfl
   ·cases h
  ·rename_i h2
   rw [if_neg h2]
   exact rdQ_rest s _ _ a r h
theorem rdF_err {most : Nat} : ∀ (s : B) (i n : Nat) (e : Int), rdF most i n s = .error e → e ≠ 0
 | [], _, _, _, h => by unfold rdF at h; cases h; decide
 | x :: s, i, n, e, h => by
  unfold rdF at h
  split at h
  ·cases h; decide
  split at h
  ·split at h
   ·cases h
   ·cases h; decide
  ·exact rdF_err s _ _ e h
theorem Ref.num (most : Nat) : Ref (numS most) (numM most) := by
 refine ⟨fun st a st' h0 h => ?_, fun st e h0 h => ?_, fun st h => ?_⟩
 ·unfold numS toS at h
  simp only at h
  unfold numM
  rw [if_neg (by simp [h0])]
  cases hr : rd most st.s with
  | error e => rw [hr] at h; cases h
  | ok p =>
   obtain ⟨n, r⟩ := p
   rw [hr] at h
   cases h
   have := rdQ_rest st.s 0 0 _ _ hr
   simp only
   rw [this]
   cases st
   simp only at h0
   subst h0
   rfl
 ·unfold numS toS at h
  simp only at h
  unfold numM
  rw [if_neg (by simp [h0])]
  cases hr : rd most st.s with
  | error e1 => rw [hr] at h; cases h; exact ⟨rfl, rdF_err _ _ _ _ hr⟩
  | ok p => rw [hr] at h; cases h
 ·unfold numM
  rw [if_pos h]
theorem num_dead {most : Nat} {st : PS} (h : st.e ≠ 0) : numM most st = (0, st) := by unfold numM; rw [if_pos h]
theorem textS_eq (most : Nat) : textS most = fun st => bnd (numS maxN st) fun n st => if most < n then .error 4 else if st.s.length < n then .error 14 else .ok (st.s.take n, { st with s := st.s.drop n }) := by
 funext st
 unfold textS rdT numS
 cases rd maxN st.s with
 | error e => rfl
 | ok p =>
  obtain ⟨n, r⟩ := p
  simp only [bnd]
  by_cases h1 : most < n
  ·rw [if_pos h1, if_pos h1]
  ·rw [if_neg h1, if_neg h1]
   by_cases h2 : r.length < n
   ·rw [if_pos h2, if_pos h2]
   ·rw [if_neg h2, if_neg h2]
theorem Ref.err4 {α : Type} {G : St → Except Int (α × St)} {N : PS → α × PS} (h : ∀ st, G st = .error 4) (hN : ∀ st, st.e = 0 → (N st).2.e = 4) (hd : ∀ st, st.e ≠ 0 → (N st).2.e = st.e) : Ref G N :=
 ⟨(fun st a st' _ e => by rw [h] at e; cases e), (fun st e h0 he => by rw [h] at he; cases he; exact ⟨hN st h0, by decide⟩), hd⟩
theorem Ref.text (most : Nat) : Ref (textS most) (textM most) := by
 rw [textS_eq]
 refine Ref.bnd (Ref.num maxN) (G := fun n st => if most < n then .error 4 else if st.s.length < n then .error 14 else .ok (st.s.take n, { st with s := st.s.drop n }))
  (N := fun n st => if st.e ≠ 0 then (([] : B), st) else if most < n then ([], { st with e := 4 }) else if st.s.length < n then ([], { st with e := 14 }) else (st.s.take n, { st with s := st.s.drop n }))
  (fun n => ⟨fun st a st' h0 h => ?_, fun st e h0 h => ?_, fun st h => ?_⟩) (fun n st h => ?_)
 ·rw [if_neg (by simp [h0])]
  split at h
  ·cases h
  rename_i h1
  split at h
  ·cases h
  rename_i h2
  cases h
  have h3 : ¬ st.s.length < n := h2
  rw [if_neg h1, if_neg h3]
  cases st
  simp only at h0
  subst h0
  rfl
 ·rw [if_neg (by simp [h0])]
  split at h
  ·rename_i h1
   cases h
   rw [if_pos h1]
   exact ⟨rfl, by decide⟩
  rename_i h1
  split at h
  ·rename_i h2
   cases h
   have h3 : st.s.length < n := h2
   rw [if_neg h1, if_pos h3]
   exact ⟨rfl, by decide⟩
  ·cases h
 ·rw [if_pos h]
 ·rw [if_pos h]
theorem Ref.sym (x : UInt8) : Ref (symS x) (symM x) := by
 by_cases h58 : x = 58
 ·subst h58
  have e1 : symS 58 = fun st => Marshal.bnd (textS 40 st) fun t st => if t ∈ st.ss then .error 4 else .ok (t, { st with ss := st.ss ++ [t] }) := by
   funext st
   unfold symS rdSym textS
   rw [if_neg (by decide), if_pos rfl]
   cases rdT 40 st.s with
   | error e => rfl
   | ok p =>
    obtain ⟨t, r⟩ := p
    simp only
    by_cases h : t ∈ st.ss
    ·rw [if_pos h]
     show _ = if t ∈ st.ss then _ else _
     rw [if_pos h]
    ·rw [if_neg h]
     show _ = if t ∈ st.ss then _ else _
     rw [if_neg h]
  rw [e1]
  refine Ref.bnd (Ref.text 40) (N := fun t st => (t, { (if st.e = 0 ∧ t ∈ st.ss then failM st 4 else st) with ss := st.ss ++ [t] })) (fun t => ⟨fun st a st' h0 h => ?_, fun st e h0 h => ?_, fun st h => ?_⟩) (fun t st h => ?_)
  ·by_cases hm : t ∈ st.ss
   ·have hm2 : t ∈ (toS st).ss := hm
    rw [if_pos hm2] at h; cases h
   ·have hm2 : t ∉ (toS st).ss := hm
    rw [if_neg hm2] at h
    cases h
    rw [if_neg (by simp [hm])]
    cases st
    simp only at h0
    subst h0
    rfl
  ·by_cases hm : t ∈ st.ss
   ·have hm2 : t ∈ (toS st).ss := hm
    rw [if_pos hm2] at h
    cases h
    rw [if_pos ⟨h0, hm⟩]
    exact ⟨fail_e h0 4, by decide⟩
   ·have hm2 : t ∉ (toS st).ss := hm
    rw [if_neg hm2] at h; cases h
  ·rw [if_neg (by simp [h])]
  ·rw [if_neg (by simp [h])]
 ·by_cases h59 : x = 59
  ·subst h59
   have e1 : symS 59 = fun st => Marshal.bnd (numS maxN st) fun k st => match st.ss[k]? with
     | some t => .ok (t, st)
     | none => .error 4 := by
    funext st
    unfold symS rdSym numS
    rw [if_pos rfl]
    cases rd maxN st.s with
    | error e => rfl
    | ok p =>
     obtain ⟨k, r⟩ := p
     simp only
     show _ = (match st.ss[k]? with
      | some t => .ok (t, ⟨r, st.g, st.cells, st.ss⟩)
      | none => .error 4 : Except Int (B × St))
     cases st.ss[k]? with
     | none => rfl
     | some t => rfl
   rw [e1]
   have e2 : symM 59 = fun st => (fun k st => if st.e = 0 ∧ k < st.ss.length then (st.ss.getD k [], st) else ([], failM st 4)) (numM maxN st).1 (numM maxN st).2 := by
    funext st
    unfold symM
    rw [if_neg (by decide), if_pos rfl]
   rw [e2]
   refine Ref.bnd (Ref.num maxN) (G := fun k st => match st.ss[k]? with
     | some t => .ok (t, st)
     | none => .error 4) (N := fun k st => if st.e = 0 ∧ k < st.ss.length then (st.ss.getD k [], st) else ([], failM st 4)) (fun k => ⟨fun st a st' h0 h => ?_, fun st e h0 h => ?_, fun st h => ?_⟩) (fun k st h => ?_)
   ·cases hk : (toS st).ss[k]? with
    | none => rw [hk] at h; cases h
    | some t =>
     rw [hk] at h
     cases h
     have hk2 : st.ss[k]? = some a := hk
     have := (List.getElem?_eq_some_iff.1 hk2).1
     rw [if_pos ⟨h0, this⟩, ofS_toS h0, List.getD_eq_getElem?_getD, hk2]
     rfl
   ·cases hk : (toS st).ss[k]? with
    | none =>
     rw [hk] at h
     cases h
     have hk2 : st.ss[k]? = none := hk
     have := List.getElem?_eq_none_iff.1 hk2
     rw [if_neg (by omega)]
     exact ⟨fail_e h0 4, by decide⟩
    | some t => rw [hk] at h; cases h
   ·rw [if_neg (by simp [h])]
    exact fail_keep st 4 h
   ·rw [if_neg (by simp [h])]
    exact fail_keep st 4 h
  ·have e1 : symS x = fun _ => .error 4 := by
    funext st
    unfold symS rdSym
    rw [if_neg h59, if_neg h58]
   have e2 : symM x = fun st => ([], failM st 4) := by
    funext st
    unfold symM
    rw [if_neg h58, if_neg h59]
   rw [e1, e2]
   exact Ref.err4 (fun _ => rfl) (fun st h => fail_e h 4) (fun st h => fail_keep st 4 h)
end Go.Marshal

/-
 Plain: what writing leaves as it was, how much it writes.
-/
namespace Go.Marshal
open Go.Core

def Gone (w w' : Wr) : Prop := ∃ b cs ts, w' = ⟨w.out ++ b, w.cells ++ cs, w.ss ++ ts⟩
theorem Gone.refl (w : Wr) : Gone w w := ⟨[], [], [], by simp⟩
theorem Gone.trans {a b c : Wr} (h : Gone a b) (k : Gone b c) : Gone a c := by
 obtain ⟨x, y, z, rfl⟩ := h
 obtain ⟨p, q, r, rfl⟩ := k
 exact ⟨x ++ p, y ++ q, z ++ r, by simp⟩
theorem gone_put (w : Wr) (b : B) : Gone w (putW w b) := ⟨b, [], [], by simp [putW]⟩
theorem gone_sym (w : Wr) (t : B) : Gone w (symW w t) := by
 unfold symW
 split
 ·exact gone_put w _
 ·exact ⟨58 :: (num t.length ++ t), [], [t], by simp⟩
theorem gone_cell (w : Wr) (a : Int) : Gone w { w with cells := w.cells ++ [a] } := ⟨[], [a], [], by simp⟩
theorem gone_fold {α : Type} {f : Wr → α → Wr} (h : ∀ w x, Gone w (f w x)) : ∀ (l : List α) (w : Wr), Gone w (l.foldl f w)
 | [], w => Gone.refl w
 | x :: l, w => (h w x).trans (gone_fold h l (f w x))
theorem gone_write (g : List Cell) : ∀ (n : Nat) (w : Wr) (a : Int), Gone w (writeF g n w a)
 | 0, w, _ => Gone.refl w
 | n + 1, w, a => by
  unfold writeF
  simp only
  split
  ·exact gone_put _ _
  split
  ·exact gone_put _ _
  split
  ·exact gone_put _ _
  split
  ·exact gone_put _ _
  split
  ·exact gone_sym _ _
  split
  ·exact gone_put _ _
  refine (gone_cell w a).trans ?_
  split
  ·exact gone_put _ _
  split
  ·exact (gone_put _ _).trans (gone_fold (gone_write g n) _ _)
  split
  ·exact (gone_put _ _).trans (gone_fold (gone_write g n) _ _)
  ·refine (((gone_put _ _).trans (gone_sym _ _)).trans (gone_put _ _)).trans (gone_fold (fun w p => ?_) _ _)
   exact (gone_sym w p.1).trans (gone_write g n _ p.2)
theorem Gone.out {w w' : Wr} (h : Gone w w') : ∃ b, w'.out = w.out ++ b := by obtain ⟨b, _, _, rfl⟩ := h; exact ⟨b, rfl⟩
theorem Gone.sub {w w' : Wr} (h : Gone w w') : ∀ x ∈ w.cells, x ∈ w'.cells := by
 obtain ⟨_, cs, _, rfl⟩ := h
 exact fun x hx => List.mem_append_left _ hx
/-! ### A weight of the cells that were not written yet -/
def wgt (F : Cell → Nat) (g : List Cell) (cs : List Int) : Nat := (((List.range g.length).filter fun (k : Nat) => !decide ((k : Int) ∈ cs)).map fun (k : Nat) => F (at_ g (k : Int))).sum
theorem wgt_drop (F : Cell → Nat) (g : List Cell) (p q : Nat → Bool) (a : Nat) (hpq : ∀ k, q k = (p k && !decide (k = a))) (hp : p a = true) : ∀ l : List Nat, l.Nodup → a ∈ l → ((l.filter q).map fun (k : Nat) => F (at_ g (k : Int))).sum + F (at_ g (a : Int)) = ((l.filter p).map fun (k : Nat) => F (at_ g (k : Int))).sum
 | [], _, h => by cases h
 | x :: l, hn, hm => by
  have hn2 := List.nodup_cons.1 hn
  rw [List.filter_cons, List.filter_cons]
  by_cases e : x = a
  ·subst e
   have hq : q x = false := by rw [hpq]; simp
   have hf : l.filter q = l.filter p := List.filter_congr fun k hk => by
    rw [hpq]
    have : k ≠ x := fun h => hn2.1 (h ▸ hk)
    simp [this]
   rw [hp, hq, hf, if_pos rfl, if_neg (by simp)]
   simp only [List.map_cons, List.sum_cons]; omega
  ·have ih := wgt_drop F g p q a hpq hp l hn2.2 ((List.mem_cons.1 hm).resolve_left (fun h => e h.symm))
   have hq : q x = p x := by rw [hpq]; simp [e]
   rw [hq]
   split
   ·simp only [List.map_cons, List.sum_cons]; omega
   ·exact ih
theorem wgt_new {F : Cell → Nat} {g : List Cell} {cs : List Int} {a : Int} (ha : InI g a) (hn : a ∉ cs) : wgt F g (cs ++ [a]) + F (at_ g a) = wgt F g cs := by
 have e : ((a.toNat : Nat) : Int) = a := by have := ha.1; omega
 have := wgt_drop F g (fun (k : Nat) => !decide ((k : Int) ∈ cs)) (fun (k : Nat) => !decide ((k : Int) ∈ cs ++ [a])) a.toNat (fun k => by
  have : (k = a.toNat) ↔ ((k : Int) = a) := by have := ha.1; omega
  rw [decide_eq_decide.2 this, ← Bool.not_or, ← Bool.decide_or]
  simp only [List.mem_append, List.mem_singleton]) (by simp only [e]; simp [hn]) (List.range g.length) List.nodup_range (List.mem_range.2 (by have := ha.1; have := ha.2; omega))
 rw [e] at this
 exact this
theorem wgt_le {F : Cell → Nat} {g : List Cell} {m : Nat} (h : ∀ i, InI g i → F (at_ g i) ≤ m) (cs : List Int) : wgt F g cs ≤ g.length * m := by
 have key : ∀ l : List Nat, (∀ k ∈ l, F (at_ g (k : Int)) ≤ m) → (l.map fun (k : Nat) => F (at_ g (k : Int))).sum ≤ l.length * m := by
  intro l
  induction l with
  | nil => exact fun _ => Nat.zero_le _
  | cons x l ih =>
   intro hl
   have h1 := hl x (by simp)
   have h2 := ih fun k hk => hl k (by simp [hk])
   rw [List.map_cons, List.sum_cons, List.length_cons, Nat.succ_mul]
   omega
 refine Nat.le_trans (key _ fun k hk => h _ ?_) (Nat.mul_le_mul_right m ?_)
 ·have := List.mem_range.1 (List.mem_filter.1 hk).1
  exact ⟨by omega, by omega⟩
 ·refine Nat.le_trans (List.length_filter_le _ _) ?_
  rw [List.length_range]
  exact Nat.le_refl _

/-! ### What a valid graph has -/
structure CellW (K : Nat) (c : Cell) : Prop where
 kind : 0 ≤ c.kind ∧ c.kind ≤ 8
 num : c.kind = 3 → -(maxN : Int) ≤ c.num ∧ c.num ≤ (maxN : Int)
 num0 : c.kind ≠ 3 → c.num = 0
 text : c.text.length ≤ 2000 ∧ c.text.length + 30 ≤ K
 sym : c.kind = 5 → c.text.length ≤ 40
 cls : c.kind = 8 → Go.Scan.icB c.text = true ∧ c.text.length ≤ 40
 text0 : c.kind ≠ 4 → c.kind ≠ 5 → c.kind ≠ 8 → c.text = []
 leaf : c.kind ≤ 5 → c.items = [] ∧ c.names = []
 nam0 : c.kind ≠ 8 → c.names = []
 even : c.kind = 7 → c.items.length % 2 = 0
 lens : c.kind = 8 → c.names.length = c.items.length
 dup : c.names.Nodup
 nam : ∀ t ∈ c.names, Go.Scan.iiB t = true ∧ t.length ≤ 40
 len : c.items.length ≤ 2000
theorem put_len (w : Wr) (b : B) : (putW w b).out.length = w.out.length + b.length := by unfold putW; simp
theorem sym_len (w : Wr) (t : B) (ht : t.length ≤ 2000) (hs : w.ss.length ≤ maxN) : (symW w t).out.length ≤ w.out.length + (t.length + 10) := by
 have hm : maxN = 1000000000000000 := rfl
 unfold symW
 split
 ·rename_i h
  have := List.idxOf_lt_length_iff.2 h
  have := num_len (n := w.ss.idxOf t) (by omega)
  rw [put_len]
  simp only [List.length_cons]; omega
 ·have := num_len (n := t.length) (by omega)
  simp only [List.length_append, List.length_cons]; omega
def Few (w : Wr) : Prop := w.ss.length ≤ maxN ∧ w.cells.length ≤ maxN
theorem Gone.few {w w' : Wr} (h : Gone w w') (k : Few w') : Few w := by
 obtain ⟨_, cs, ts, rfl⟩ := h
 have h1 := k.1
 have h2 := k.2
 simp only [List.length_append] at h1 h2
 exact ⟨by omega, by omega⟩
theorem fold_out {α : Type} {f : Wr → α → Wr} {Φ : Wr → Nat} {c : Nat} (hf : ∀ w x, Gone w (f w x)) : ∀ (l : List α) (w : Wr), (∀ w, ∀ x ∈ l, Few (f w x) → (f w x).out.length + Φ (f w x) ≤ w.out.length + Φ w + c) → Few (l.foldl f w) → (l.foldl f w).out.length + Φ (l.foldl f w) ≤ w.out.length + Φ w + c * l.length
 | [], w, _, _ => by simp
 | x :: l, w, h, hM => by
  rw [List.foldl_cons] at hM ⊢
  have h0 := (gone_fold hf l (f w x)).few hM
  have h1 := h w x (by simp) h0
  have h2 := fold_out hf l (f w x) (fun w y hy => h w y (by simp [hy])) hM
  rw [List.length_cons, Nat.mul_add]; omega
def iN (c : Cell) : Nat := c.items.length + c.names.length
theorem put_cells (w : Wr) (b : B) : (putW w b).cells = w.cells := rfl
theorem sym_cells (w : Wr) (t : B) : (symW w t).cells = w.cells := by
 unfold symW
 split <;> rfl
theorem write_len {g : List Cell} {K : Nat} (hg : InG g) (hc : ∀ i, InI g i → CellW K (at_ g i)) (hK : 60 ≤ K) : ∀ (n : Nat) (w : Wr) (a : Int), InI g a → Few (writeF g n w a) →
  (writeF g n w a).out.length + K * wgt iN g (writeF g n w a).cells ≤ w.out.length + K * wgt iN g w.cells + K
 | 0, w, a, _, _ => by unfold writeF; omega
 | n + 1, w, a, ha, hF => by
  have hm : maxN = 1000000000000000 := rfl
  have c := hc a ha
  have hFw := (gone_write g (n + 1) w a).few hF
  have ht := c.text
  unfold writeF at hF ⊢
  simp only at hF ⊢
  split
  ·rw [put_cells, put_len]; simp only [List.length_cons, List.length_nil]; omega
  split
  ·rw [put_cells, put_len]; simp only [List.length_cons, List.length_nil]; omega
  split
  ·rw [put_cells, put_len]; simp only [List.length_cons, List.length_nil]; omega
  split
  ·rename_i h3
   have h4 := c.num h3
   have := num_len (n := sgn (at_ g a).num) (by unfold sgn; split <;> omega)
   rw [put_cells, put_len]; simp only [List.length_cons]; omega
  split
  ·have := sym_len w (at_ g a).text ht.1 hFw.1
   rw [sym_cells]; omega
  split
  ·rename_i h6
   have := List.idxOf_lt_length_iff.2 h6
   have := num_len (n := w.cells.idxOf a) (by have := hFw.2; omega)
   rw [put_cells, put_len]; simp only [List.length_cons]; omega
  rename_i k0 k1 k2 k3 k5 hm2
  rw [if_neg k0, if_neg k1, if_neg k2, if_neg k3, if_neg k5, if_neg hm2] at hF
  have hw := wgt_new (F := iN) ha hm2
  have hw2 : K * wgt iN g (w.cells ++ [a]) + K * iN (at_ g a) = K * wgt iN g w.cells := by rw [← Nat.mul_add, hw]
  have hl := c.len
  have hn1 := num_len (n := (at_ g a).items.length) (by omega)
  have hn2 := num_len (n := (at_ g a).items.length / 2) (by omega)
  have step : ∀ w, ∀ x ∈ (at_ g a).items, Few (writeF g n w x) → (writeF g n w x).out.length + K * wgt iN g (writeF g n w x).cells ≤ w.out.length + K * wgt iN g w.cells + K := fun w x hx => write_len hg hc hK n w x (outs_in hg ha hx)
  split
  ·have := num_len (n := (at_ g a).text.length) (by omega)
   rw [put_cells, put_len]; simp only [List.length_cons, List.length_append]
   omega
  rename_i k4
  rw [if_neg k4] at hF
  split
  ·rename_i k6
   rw [if_pos k6] at hF
   have := fold_out (Φ := fun w => K * wgt iN g w.cells) (c := K) (gone_write g n) (at_ g a).items _ step hF
   refine Nat.le_trans this ?_
   rw [put_cells, put_len]
   simp only [List.length_cons]
   have : K * iN (at_ g a) ≥ K * (at_ g a).items.length := Nat.mul_le_mul_left K (by unfold iN; omega)
   omega
  rename_i k6
  rw [if_neg k6] at hF
  split
  ·rename_i k7
   rw [if_pos k7] at hF
   have := fold_out (Φ := fun w => K * wgt iN g w.cells) (c := K) (gone_write g n) (at_ g a).items _ step hF
   refine Nat.le_trans this ?_
   rw [put_cells, put_len]
   simp only [List.length_cons]
   have : K * iN (at_ g a) ≥ K * (at_ g a).items.length := Nat.mul_le_mul_left K (by unfold iN; omega)
   omega
  rename_i k7
  rw [if_neg k7] at hF
  have k8 : (at_ g a).kind = 8 := by have := c.kind; omega
  have hgone := gone_fold (f := fun w (p : B × Int) => writeF g n (symW w p.1) p.2) (fun w p => (gone_sym w p.1).trans (gone_write g n _ p.2)) ((at_ g a).names.zip (at_ g a).items)
  have hFs := (hgone _).few hF
  have hcl := c.cls k8
  have hn3 := num_len (n := (at_ g a).names.length) (by rw [c.lens k8]; omega)
  have := fold_out (Φ := fun w => K * wgt iN g w.cells) (c := 2 * K) (f := fun w (p : B × Int) => writeF g n (symW w p.1) p.2) (fun w p => (gone_sym w p.1).trans (gone_write g n _ p.2)) ((at_ g a).names.zip (at_ g a).items) _ (fun w p hp hFp => by
   have hz := List.of_mem_zip (a := p.1) (b := p.2) hp
   have h1 := step (symW w p.1) p.2 hz.2 hFp
   have hFw2 := ((gone_sym w p.1).trans (gone_write g n _ p.2)).few hFp
   have h2 := sym_len w p.1 (by have := (c.nam p.1 hz.1).2; omega) hFw2.1
   have := (c.nam p.1 hz.1).2
   rw [sym_cells] at h1
   omega) hF
  refine Nat.le_trans this ?_
  rw [put_cells, put_len, sym_cells, put_cells]
  have hs := sym_len (putW { w with cells := w.cells ++ [a] } [111]) (at_ g a).text ht.1 (by show w.ss.length ≤ _; exact hFw.1)
  rw [put_len] at hs
  simp only [List.length_cons, List.length_nil] at hs ⊢
  have hz2 : ((at_ g a).names.zip (at_ g a).items).length = (at_ g a).items.length := by rw [List.length_zip, c.lens k8]; omega
  rw [hz2]
  have : K * iN (at_ g a) = 2 * K * (at_ g a).items.length := by unfold iN; rw [c.lens k8, ← Nat.two_mul, ← Nat.mul_assoc, Nat.mul_comm K 2]
  omega
end Go.Marshal

/-
 Plain: what was written is read back, cell by cell.
-/
namespace Go.Marshal
open Go.Core

theorem formS_unfold (st : St) : formS st = bnd (nextS st) fun x st1 => if x = 64 then bnd (numS maxN st1) (fun k st2 => match st2.cells[k]? with
   | some c => .ok (c, st2)
   | none => .error 4)
  else if 500 ≤ st1.g.length ∨ x ∉ begins then .error 4
  else bnd (innerF formS x (openS x st1)) fun c st' => .ok ((st1.g.length : Int), setS st1.g.length c st') := by
 show formF (st.s.length + 1) st = _
 conv => lhs; unfold formF
 refine bnd_congr fun x st1 h3 => ?_
 have hl : st1.s.length + 1 = st.s.length := by
  unfold nextS at h3
  split at h3
  ·cases h3
  ·rename_i y s hs
   cases h3
   rw [hs]; rfl
 split
 ·rfl
 split
 ·rfl
 rw [inner_congr (h := formS) (LocS.form st.s.length) (m := st1.s.length) (fun st2 h4 => (formS_eq (by omega)).symm) x (openS x st1) (Nat.le_refl _)]
theorem form_named {st : St} {s : B} (hs : st.s = 64 :: s) : formS st = bnd (numS maxN { st with s := s }) fun k st2 => match st2.cells[k]? with
   | some c => .ok (c, st2)
   | none => .error 4 := by
 rw [formS_unfold]
 unfold nextS
 rw [hs]
 rfl
theorem form_byte {st : St} {x : UInt8} {s : B} (hs : st.s = x :: s) (h64 : x ≠ 64) (hb : x ∈ begins) : formS st = if 500 ≤ st.g.length then .error 4 else bnd (innerF formS x (openS x { st with s := s })) fun c st' => .ok ((st.g.length : Int), setS st.g.length c st') := by
 rw [formS_unfold]
 unfold nextS
 rw [hs]
 show (if x = 64 then _ else if 500 ≤ st.g.length ∨ x ∉ begins then _ else _) = _
 rw [if_neg h64]
 by_cases h : 500 ≤ st.g.length
 ·rw [if_pos h, if_pos (.inl h)]
 ·rw [if_neg h, if_neg (by rintro (h2 | h2); exact h h2; exact h2 hb)]

/-! ### Where the cells that were read come from -/
def lk (org : List Int) (i : Int) : Int := org.getD i.toNat 0
theorem lk_app {org on : List Int} {i : Int} (h : 0 ≤ i ∧ i < (org.length : Int)) : lk (org ++ on) i = lk org i := by
 unfold lk
 rw [List.getD_eq_getElem?_getD, List.getD_eq_getElem?_getD, List.getElem?_append_left (by omega)]
theorem lk_new (org : List Int) (a : Int) (on : List Int) : lk (org ++ a :: on) (org.length : Int) = a := by
 unfold lk
 rw [Int.toNat_natCast, List.getD_eq_getElem?_getD, List.getElem?_append_right (Nat.le_refl _), Nat.sub_self]
 rfl
structure Rl (w : Wr) (st : St) (org : List Int) : Prop where
 ss : st.ss = w.ss
 len : org.length = st.g.length
 cells : st.cells.map (lk org) = w.cells
 rng : ∀ i ∈ st.cells, 0 ≤ i ∧ i < (st.g.length : Int)
structure Good (g : List Cell) (org : List Int) (n : Nat) (c : Cell) (x : Int) : Prop where
 cell : at_ g x = reNum (lk org) c
 rng : ∀ y ∈ c.items, 0 ≤ y ∧ y < (n : Int)
 inI : InI g x
def shared (c : Cell) : Prop := c.kind = 4 ∨ 6 ≤ c.kind
structure Ex (g : List Cell) (st st' : St) (org org' : List Int) (new : List Cell) (on : List Int) : Prop where
 g_ : st'.g = st.g ++ new
 o_ : org' = org ++ on
 len : on.length = new.length
 good : ∀ (j : Nat) (c : Cell) (x : Int), new[j]? = some c → on[j]? = some x → Good g org' st'.g.length c x ∧ (shared c → ((st.g.length + j : Nat) : Int) ∈ st'.cells)
 sub : ∀ i ∈ st.cells, i ∈ st'.cells
theorem Good.mono {g : List Cell} {org on : List Int} {n m : Nat} {c : Cell} {x : Int} (h : Good g org n c x) (ho : org.length = n) (hm : n ≤ m) : Good g (org ++ on) m c x :=
 ⟨by
  rw [h.cell]
  unfold reNum
  congr 1
  exact List.map_congr_left fun y hy => (lk_app (by rw [ho]; exact h.rng y hy)).symm, fun y hy => by have := h.rng y hy; omega, h.inI⟩
theorem Ex.refl (g : List Cell) (st : St) (org : List Int) (s : B) (ss : List B) : Ex g st { st with s := s, ss := ss } org org [] [] :=
 ⟨by simp, by simp, rfl, fun j c x h => by simp at h, fun _ h => h⟩
theorem Ex.trans {g : List Cell} {st st1 st2 : St} {org org1 org2 : List Int} {n1 n2 : List Cell} {o1 o2 : List Int} (h : Ex g st st1 org org1 n1 o1) (k : Ex g st1 st2 org1 org2 n2 o2) (hl : org.length = st.g.length) : Ex g st st2 org org2 (n1 ++ n2) (o1 ++ o2) := by
 have hl1 : org1.length = st1.g.length := by rw [h.o_, h.g_, List.length_append, List.length_append, hl, h.len]
 refine ⟨by rw [k.g_, h.g_, List.append_assoc], by rw [k.o_, h.o_, List.append_assoc], by rw [List.length_append, List.length_append, h.len, k.len], fun j c x hc hx => ?_, fun i hi => k.sub i (h.sub i hi)⟩
 rcases Nat.lt_or_ge j n1.length with hj | hj
 ·rw [List.getElem?_append_left hj] at hc
  rw [List.getElem?_append_left (by rw [h.len]; exact hj)] at hx
  obtain ⟨g1, g2⟩ := h.good j c x hc hx
  rw [k.o_, k.g_]
  refine ⟨g1.mono hl1 (by rw [List.length_append]; omega), fun hs => k.sub _ (g2 hs)⟩
 ·rw [List.getElem?_append_right hj] at hc
  rw [List.getElem?_append_right (by rw [h.len]; exact hj), h.len] at hx
  obtain ⟨g1, g2⟩ := k.good _ c x hc hx
  refine ⟨g1, fun hs => ?_⟩
  have := g2 hs
  rw [h.g_, List.length_append] at this
  rw [show st.g.length + j = st.g.length + n1.length + (j - n1.length) by omega]
  exact this
theorem reNum_nil {φ : Int → Int} {c : Cell} (h : c.items = []) : reNum φ c = c := by
 cases c
 simp only at h
 subst h
 rfl
def iT (c : Cell) : Nat := c.items.length

/-! ### Symbols -/
theorem sym_back {w : Wr} {t : B} (ht : t.length ≤ 40) (hs : w.ss.length ≤ maxN) : ∃ x b, (symW w t).out = w.out ++ x :: b ∧ (x = 58 ∨ x = 59) ∧ ∀ tail, rdSym x w.ss (b ++ tail) = .ok (t, (symW w t).ss, tail) := by
 have hm : maxN = 1000000000000000 := rfl
 unfold symW
 by_cases h : t ∈ w.ss
 ·have hi := List.idxOf_lt_length_iff.2 h
  rw [if_pos h]
  refine ⟨59, num (w.ss.idxOf t), rfl, .inr rfl, fun tail => ?_⟩
  unfold rdSym
  rw [if_pos rfl, rd_num (by omega) (by omega)]
  simp only
  rw [List.getElem?_eq_getElem hi, List.getElem_idxOf hi]
  rfl
 ·rw [if_neg h]
  refine ⟨58, num t.length ++ t, rfl, .inl rfl, fun tail => ?_⟩
  unfold rdSym rdT
  rw [if_neg (by decide), if_pos rfl, List.append_assoc, rd_num (by omega) (by omega)]
  simp only
  rw [if_neg (by omega), if_neg (by rw [List.length_append]; omega)]
  simp only
  rw [List.take_left, List.drop_left, if_neg h]

/-! ### A cell -/
def Back (g : List Cell) (w w' : Wr) (a : Int) : Prop := ∃ b, w'.out = w.out ++ b ∧ ∀ (tail : B) (st : St) (org : List Int), Rl w st org → st.s = b ++ tail →
 (∃ i st' org' new on, formS st = .ok (i, st') ∧ st'.s = tail ∧ Rl w' st' org' ∧ Ex g st st' org org' new on ∧ (0 ≤ i ∧ i < (st'.g.length : Int)) ∧ lk org' i = a ∧ (i = (st.g.length : Int) ∨ i ∈ st.cells) ∧ st'.g.length + wgt iT g w'.cells ≤ st.g.length + wgt iT g w.cells + 1) ∨
 (formS st = .error 4 ∧ 500 < st.g.length + 1 + wgt iT g w.cells)
theorem back_leaf {g : List Cell} {w w' : Wr} {a : Int} {x : UInt8} {b : B} {c : Cell} (ha : InI g a) (hw : w'.out = w.out ++ x :: b) (h64 : x ≠ 64) (hb : x ∈ begins) (hn : x ∉ named) (hc : at_ g a = c) (h0 : c.items = []) (hsh : ¬ shared c) (hcells : w'.cells = w.cells)
  (hi : ∀ (tail : B) (st : St), st.ss = w.ss → st.s = b ++ tail → innerF formS x st = .ok (c, { st with s := tail, ss := w'.ss })) : Back g w w' a := by
 refine ⟨x :: b, hw, fun tail st org hR hs => ?_⟩
 have hs2 : st.s = x :: (b ++ tail) := hs
 rw [form_byte hs2 h64 hb]
 by_cases h : 500 ≤ st.g.length
 ·rw [if_pos h]
  exact .inr ⟨rfl, by omega⟩
 ·rw [if_neg h, hi tail (openS x { st with s := b ++ tail }) hR.ss rfl]
  have hop : (openS x { st with s := b ++ tail }).cells = st.cells := by unfold openS; simp only; rw [if_neg hn]
  have hg : (openS x { st with s := b ++ tail }).g = st.g ++ [nilC] := rfl
  refine .inl ⟨(st.g.length : Int), ⟨tail, st.g ++ [c], st.cells, w'.ss⟩, org ++ [a], [c], [a], ?_, rfl, ⟨rfl, by simp [hR.len], ?_, fun i hi => ?_⟩, ⟨rfl, rfl, rfl, fun j d y hd hy => ?_, fun _ h => h⟩, ⟨by omega, by simp; omega⟩, ?_, .inl rfl, ?_⟩
  ·show Except.ok _ = _
   unfold setS
   simp only [hop, hg]
   rw [List.set_append_right _ _ (Nat.le_refl _), Nat.sub_self]
   rfl
  ·rw [hcells, ← hR.cells]
   exact List.map_congr_left fun y hy => lk_app (by rw [hR.len]; exact hR.rng y hy)
  ·have := hR.rng i hi
   simp only [List.length_append, List.length_cons, List.length_nil]
   omega
  ·cases j with
   | succ j => simp at hd
   | zero =>
    obtain rfl := Option.some.inj hd
    obtain rfl := Option.some.inj hy
    refine ⟨⟨?_, ?_, ha⟩, fun k => absurd k hsh⟩
    ·rw [hc, reNum_nil h0]
    ·rw [h0]; exact fun _ h => by cases h
  ·rw [← hR.len]; exact lk_new org a []
  ·rw [hcells]
   simp only [List.length_append, List.length_cons, List.length_nil]
   omega
end Go.Marshal
