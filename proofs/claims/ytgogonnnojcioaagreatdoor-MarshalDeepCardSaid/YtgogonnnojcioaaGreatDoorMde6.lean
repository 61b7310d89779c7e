/-
  Lemmas (V1 Ax50 V2 P11 C11 Ax47 D1 C12 C13 W1 P12 W2 P13 P14 X1 Ax51 X2 Ax52 X3 P15 MP1 LB3 MC1 MP2 MC2 Ax53 Z1 U1 Q1 Q2 O1 O2 K1 Q3 Q4 Q5 W3 W4 W5 U2 U3 W6 U4 Z2 Z3 Z4 Y1 Y2 Z5).
-/
import Derived.RangeFuncBox
import Derived.RangeFuncLeaves
import Derived.Shelf.Abstract
import Derived.WalkKit
import Derived.OwnWalkIn
import Derived.TacticsInMore
import Derived.LoopNIn
import Derived.LoopIn
import Derived.Maps.AppendAt
import Derived.Laws.AppendOwn
import Derived.Sort.OwnSorted
import Derived.Lib.SlicesCompact
import Derived.WideKeyRuns
import Derived.Test.YtgogonnnojcioaaGreatDoorChecked
import Derived.Tactics
import Derived.Tactics2
import Derived.Defers
import Derived.Laws.Pointers
import Derived.Laws.LoneSync
import Derived.RegionTactic
import Derived.RegionCalls
import Derived.ChangeAlike
import Derived.Lib.ItoaLen
import Derived.Lib.AppendIntMem
import Derived.Test.YtgogonnnojcioaaGreatDoorMde5
set_option linter.unusedVariables false
set_option linter.unusedSimpArgs false
namespace Go.Proofs.YtgogonnnojcioaaGreatDoor
open Go.RowKit Go.Shelf Go.AX Go.Proofs
attribute [local go_sem] Oper.semAt_some
def upto {α : Type} (f : Nat -> α) (k : Nat) : List α := (List.range k).map f
theorem Qof {α : Type} (f : Nat -> α) (k : Nat) : upto f (k + 1) = upto f k ++ [f k] := by simp [upto, List.range_succ]
theorem Qqa {α : Type} (f : Nat -> α) (k : Nat) : (upto f k).length = k := by simp [upto]
theorem Qwl (zs : List (List UInt8)) : upto (fun j => zs[j]?.getD []) zs.length = zs := by
 apply List.ext_getElem
 ·simp [upto]
 ·intro i h1 h2
  simp [upto, h2]
theorem Qtr (zs : List (List UInt8)) {k : Nat} (hk : k <= zs.length) : upto (fun j => zs[j]?.getD []) k = zs.take k := by
 apply List.ext_getElem
 ·simp [upto, hk]
 ·intro i h1 h2
  have : i < zs.length := by simp [upto] at h1; omega
  simp [upto, this]
set_option maxRecDepth 100000 in
set_option maxHeartbeats 4000000 in
theorem Qsm (F : Fence) (n : Nat) (h7 : F.fn 135) (hro : F.round = none) (hn : 1 <= n) (l Bs n₀ b off len cap : Nat) (zs : List (List UInt8)) (hreach : len * 16 <= 140737488351232) (hb : b < n₀) (J Jx : List (List UInt8) -> World -> Prop)
  (hY : ∀ pre x W, J pre W -> pre.length < len -> YieldAt F (n - 1) Tryz.prog l #[.string (bs x)] W fun e W' =>
   (e = .returned (.bool true) /\ J (pre ++ [x]) W' /\ Below n₀ W W') \/ (e = .returned (.bool false) /\ Jx (pre ++ [x]) W'))
  (W : World) (hBs : W.cell? ⟨Bs, 0, none⟩ = some (.slice (some ⟨b, off, none⟩) len cap)) (hc : ∀ j, j < len -> W.cell? ⟨b, off + j, none⟩ = some (.string (bs (zs[j]?.getD [])))) (h0 : J [] W) :
  CallsIn F n Tryz.prog 135 #[.func (.yield l) #[] #[], .pointer (some ⟨Bs, 0, none⟩)] W fun e W' => (∃ v, e = .returned v) /\
   ((∃ ys, ys = upto (fun j => zs[j]?.getD []) len /\ J ys W') \/ (∃ pre, (∃ k, k <= len /\ pre = upto (fun j => zs[j]?.getD []) k) /\ Jx pre W')) := by
 refine callsIn_of_wp Tryz.func135 rfl h7 ?_ hro
 simp only [Tryz.ntmps135, List.size_toArray, Znz, List.length_nil, Nat.reduceAdd, Nat.reduceSub, Array.replicate_succ, Array.replicate_zero, List.push_toArray, List.append_toArray, List.nil_append, List.cons_append]
 gi_wp2
 gi_loopw [7] (fun i wr => ∃ k : Nat, k <= len /\ i = .int .i64 k /\ J (upto (fun j => zs[j]?.getD []) k) wr /\ Below n₀ W wr)
  (fun i _ => len - (intOf i).toNat)
 case atStart => exact ⟨0, Zkz _, rfl, h0, Below.refl _ _⟩
 case round =>
  obtain ⟨k, hk, rfl, hJs, hnx⟩ := hrel
  have hcx : k < len -> wr.cell? ⟨b, off + k, none⟩ = some (.string (bs (zs[k]?.getD []))) := fun h => (hnx.cell (p := ⟨b, off + k, none⟩) hb).trans (hc k h)
  by_cases hlt : k < len
  ·obtain ⟨fn, tmps, assign, body, hy, hR⟩ := hY _ (zs[k]?.getD []) wr hJs (by rw [Qqa]; exact hlt)
   have hcx' := hcx hlt
   gi_wp2
   refine hR.mono ?_
   rintro e W3 (⟨rfl, hJ3, hk3⟩ | ⟨rfl, hJx3⟩)
   ·gi_wp2
    go_roundw
    case rel => exact ⟨k + 1, by omega, by simp, by rw [Qof]; exact hJ3, hnx.trans hk3⟩
    case measure => simp [intOf]; omega
   ·gi_wp2
    refine bodyPost_ret (results_none rfl _ _ _) rfl ?_
    exact ⟨⟨_, rfl⟩, .inr ⟨_, ⟨k + 1, by omega, (Qof _ _).symm⟩, hJx3⟩⟩
  ·obtain rfl : k = len := by omega
   gi_wp2
   go_end0
   exact ⟨⟨_, rfl⟩, .inl ⟨_, rfl, hJs⟩⟩
def StrsAt (n₀ : Nat) (W : World) (sv : Value) (zs : List (List UInt8)) : Prop :=
 (∃ a cap, sv = .slice a 0 cap /\ zs = []) \/ ∃ b off cap, sv = .slice (some ⟨b, off, none⟩) zs.length cap /\ b < n₀ /\ ∀ j, j < zs.length -> W.cell? ⟨b, off + j, none⟩ = some (.string (bs (zs[j]?.getD [])))
theorem StrsAt.below {n₀ : Nat} {A B : World} (h : Below n₀ A B) {sv : Value} {zs : List (List UInt8)} : StrsAt n₀ A sv zs -> StrsAt n₀ B sv zs
 | .inl e => .inl e
 | .inr ⟨b, off, cap, e, hb, hc⟩ => .inr ⟨b, off, cap, e, hb, fun j hj => (h.cell (p := ⟨b, off + j, none⟩) hb).trans (hc j hj)⟩
set_option maxRecDepth 100000 in
set_option maxHeartbeats 1000000 in
theorem Qlz (F : Fence) (n : Nat) (h7 : F.fn 135) (hro : F.round = none) (l Bs : Nat) (a : Option Addr) (cap : Nat) (J : List (List UInt8) -> World -> Prop) (W : World) (hBs : W.cell? ⟨Bs, 0, none⟩ = some (.slice a 0 cap)) (h0 : J [] W) :
  CallsIn F n Tryz.prog 135 #[.func (.yield l) #[] #[], .pointer (some ⟨Bs, 0, none⟩)] W fun e W' => (∃ v, e = .returned v) /\ J [] W' := by
 refine callsIn_of_wp Tryz.func135 rfl h7 ?_ hro
 simp only [Tryz.ntmps135, List.size_toArray, Znz, List.length_nil, Nat.reduceAdd, Nat.reduceSub, Array.replicate_succ, Array.replicate_zero, List.push_toArray, List.append_toArray, List.nil_append, List.cons_append]
 gi_wp2
 gi_loopw [7] (fun i wr => i = .int .i64 0 /\ J [] wr) (fun _ _ => 0)
 case atStart => exact ⟨rfl, h0⟩
 case round =>
  obtain ⟨rfl, hJs⟩ := hrel
  gi_wp2
  go_end0
  exact ⟨⟨_, rfl⟩, hJs⟩
theorem Qoc (F : Fence) (n : Nat) (h7 : F.fn 135) (hro : F.round = none) (hn : 1 <= n) (Bs n₀ : Nat) (sv : Value) (zs : List (List UInt8)) (hreach : zs.length * 16 <= 140737488351232) (w : World) (hBs : Bs < w.heap.size) (hn₀ : n₀ <= w.heap.size)
  (hc : w.cell? ⟨Bs, 0, none⟩ = some sv) (hI : StrsAt n₀ w sv zs) :
  SeqStopsK F n Tryz.prog 135 #[.pointer (some ⟨Bs, 0, none⟩)] (fun x : List UInt8 => #[Value.string (bs x)]) (Below n₀) (fun ys => ys = zs) (fun pre => pre <+: zs) zs.length w := fun l J Jx W hW _ _ hY h0 => by
 have hc' := (hW.cell (p := ⟨Bs, 0, none⟩) hBs).trans hc
 rcases hI.below (hW.mono hn₀) with ⟨a, cap, rfl, rfl⟩ | ⟨b, off, cap, rfl, hb, hcs⟩
 ·exact (Qlz F n h7 hro l Bs a cap J W hc' h0).mono fun e W' ⟨he, hj⟩ => ⟨he, .inl ⟨_, rfl, hj⟩⟩
 ·refine (Qsm F n h7 hro hn l Bs n₀ b off zs.length cap zs hreach hb J Jx hY W hc' hcs h0).mono ?_
  rintro e W' ⟨he, ⟨ys, rfl, hj⟩ | ⟨pre, ⟨k, hk, rfl⟩, hj⟩⟩
  ·exact ⟨he, .inl ⟨_, Qwl zs, hj⟩⟩
  ·exact ⟨he, .inr ⟨_, by rw [Qtr zs hk]; exact List.take_prefix _ _, hj⟩⟩
theorem Qwz : (Tryz.prog.info? 9).map (fun i => (i.zero, i.size, i.bytes)) = some (some (.string ⟨#[]⟩), 1, 16) := by kernel_rfl
set_option maxRecDepth 100000 in
set_option maxHeartbeats 4000000 in
theorem Qpx (F : Fence) (n : Nat) (h3 : F.fn 154) (h5 : F.fn 135) (hro : F.round = none) (hn : 3 <= n) (Bs : Nat) (sv : Value) (zs : List (List UInt8)) (hlen : zs.length <= maxLen) (hbytes : zs.length * 16 <= 140737488351232) (w : World) (hBs : Bs < w.heap.size)
  (hcs : w.cell? ⟨Bs, 0, none⟩ = some sv) (hL : StrsAt w.heap.size w sv zs) :
  CallsIn F n Tryz.prog 154 #[.slice none 0 0, .func (.func 135) #[] #[.pointer (some ⟨Bs, 0, none⟩)]] w fun e W' => ∃ v, e = .returned v /\ W'.ownsRow w.heap.size 9 1 v zs.length (zs.map fun x => Value.string (bs x)) /\ Below w.heap.size w W' := by
 have h1 : 1 <= n := by omega
 obtain ⟨i0, hi, hz0, hz1, hz2⟩ := info_parts Qwz
 refine callsIn_of_wp_marks Tryz.func154 rfl h3 ?_ hro
 simp only [Tryz.ntmps154, List.size_toArray, Znz, List.length_nil, Nat.reduceAdd, Nat.reduceSub, Array.replicate_succ, Array.replicate_zero, List.push_toArray, List.append_toArray, List.nil_append, List.cons_append]
 gi_wp2
 have bO := Boxed.new w 55 (.slice none 0 0)
 have hB0 : Below w.heap.size w (w.alloc (.cells #[.slice none 0 0] 55)) := (Below.refl _ w).alloc (Zcz _) _
 refine wpIn_rangeFunc_ownG hro h1 (gf := 135) (lb := #[.pointer (some ⟨Bs, 0, none⟩)]) rfl h5 (enters_of Tryz.func135 (by kernel_rfl) rfl)
  (Qoc F (n - 1) h5 hro (by omega) Bs w.heap.size sv zs hbytes _ (by simp; omega) (by simp) ((hB0.cell (p := ⟨Bs, 0, none⟩) hBs).trans hcs) (hL.below hB0)) belowK_t (belowK_b (by simp)) (Below.refl _ _) (fun _ => rfl)
  (fun pre W => (∃ v, Boxed W w.heap.size 55 v /\ W.ownsRow w.heap.size 9 1 v pre.length (pre.map fun x => Value.string (bs x)) /\ True) /\ Below w.heap.size w W)
  (fun _ _ _ => False)
  (OwnFrom.and (Own.from (holdsRow_own w.heap.size w.heap.size 55 9 1 (fun pre : List (List UInt8) => pre.length) (fun pre => pre.map fun x => Value.string (bs x)) (fun _ _ => True)) _) (ownFrom_below (Zcz _) (by simp)))
  (fun _ _ _ _ _ hs _ _ => hs)
  ⟨⟨_, bO, World.ownsRow_nil _ _ _ _, trivial⟩, hB0⟩
  (fun x => { tmps := #[.slice none 0 0, .func (.func 135) #[] #[.pointer (some ⟨Bs, 0, none⟩)], .pointer (some ⟨w.heap.size, 0, none⟩), undef, .slice none 0 0, .string (bs x), .func (.func 135) #[] #[.pointer (some ⟨Bs, 0, none⟩)], .string (bs x), undef, undef, undef, undef, undef], defers := [] }) ?assign ?body ?done ?stop
 case assign =>
  intro l x W K hK
  gi_wp2
  exact hK
 case body =>
  rintro l pre x W ⟨⟨v, hv, hrow, _⟩, hB⟩ hlt
  have hc := hv.cell
  gi_wp2_with (gi_at_builtin; refine wpListIn_append_own _ rfl _ _ 55 rfl w.heap.size 9 i0 (.string ⟨#[]⟩) 1 16 Tryz.underlying55 hi hz0 hz1 hz2 rfl (by decide) _ _ _ rfl (hrow.alloc _) ⟨W.heap.size, 0, none⟩ 1 1 [.string (bs x)] rfl rfl (cell_one_new _ _ _) (by simp [Value.oneCell']) (by omega) (by omega) (by have := hB.size; simp; omega) ?_; intro v' w1 hown' hgrow _; obtain ⟨g', cap', rfl⟩ := ownsRow_succ hown'; obtain ⟨hv1, hv2, hr2, hk2, hb2⟩ := hv.appended (by decide) hrow hB.size (Zcz _) hown' hgrow; have hc1 := hv1.cell; have hf1 := hv1.frozen)
  exact ⟨hk2.from _, hb2, ⟨_, hv2, by simpa using hr2, trivial⟩, hB.trans hb2⟩
 case done =>
  rintro D ys W hD rfl ⟨⟨v, hv, hrow, _⟩, hB⟩ hK
  have hc := hv.cell
  gi_wp2
  refine ⟨by simp, .inl ⟨_, _, rfl, run_takeDeferred hK, ?_⟩⟩
  exact ⟨_, results_tmp rfl _ _ _, v, rfl, ownsRow_putObj hrow _ hK rfl, hB.trans (belowK_b (w := w) (Zcz _) W D _ _ (by simp at hD; omega) hK rfl rfl)⟩
 case stop =>
  rintro D c pre W _ _ h _
  exact h.elim
end Go.Proofs.YtgogonnnojcioaaGreatDoor
namespace Go.AX
open Go.RowKit
theorem Sat.addApp {ρ : List Loc} {S : Nat -> Prop} {H : List Ent} {w w' : World} {T : TypeId} {sz n cap g : Nat} {ys : List Value} (hs : Sat ρ S H w) (h : Below w.heap.size w w') (hg : w.heap.size <= g) (hrow : RowF T sz n ys g cap w') :
  Sat (ρ ++ [⟨0, 0⟩]) S (H ++ [.app T sz ys (some ⟨g, 0, none⟩) n cap]) w' /\ Ev ρ S H w (ρ ++ [⟨0, 0⟩]) S (H ++ [.app T sz ys (some ⟨g, 0, none⟩) n cap]) w' := by
 have h1 := hs.below h
 have hcase : ∀ (i : Nat) (e : Ent), (H ++ [Ent.app T sz ys (some ⟨g, 0, none⟩) n cap])[i]? = some e -> (i < H.length /\ H[i]? = some e) \/ (i = H.length /\ e = .app T sz ys (some ⟨g, 0, none⟩) n cap) := fun i e he => by
  by_cases hi : i < H.length
  ·rw [Zrz hi] at he; exact .inl ⟨hi, he⟩
  ·have hi2 : i = H.length := by
    have := (Zfz.1 he).1
    simp at this; omega
   subst hi2
   simp at he
   exact .inr ⟨rfl, he.symm⟩
 have hb2 : ∀ (i : Nat) (e : Ent) (b : Nat), (H ++ [Ent.app T sz ys (some ⟨g, 0, none⟩) n cap])[i]? = some e -> entB (ρ ++ [⟨0, 0⟩]) i e b -> (H[i]? = some e /\ entB ρ i e b) \/ (i = H.length /\ b = g) := fun i e b he hb => by
  rcases hcase i e he with ⟨hi, he'⟩ | ⟨hi, rfl⟩
  ·rw [Qdb _ (by rw [hs.len]; exact hi)] at hb
   exact .inl ⟨he', hb⟩
  ·exact .inr ⟨hi, (Zzz hb).symm⟩
 refine ⟨⟨by simp [hs.len], fun i e he => ?_, fun i j e f b he hf heb hfb => ?_, fun b ⟨i, e, he, hb⟩ hn => ?_, h1.low⟩, ⟨⟨[⟨0, 0⟩], rfl⟩, h.os, h.tape, h.output, h.size, fun b hb _ => h.block b hb, fun b hb => .inl hb, fun b ⟨i, e, he, hb⟩ => ?_⟩⟩
 ·rcases hcase i e he with ⟨hi, he'⟩ | ⟨hi, rfl⟩
  ·have := (hs.ent i e he').move (w' := w') [⟨0, 0⟩] (fun b hb => h.block _ (hs.blk_lt he' hb)) fun b hb => h.block b (hs.low b hb)
   exact this
  ·exact .inr ⟨g, rfl, hrow⟩
 ·rcases hb2 i e b he heb with ⟨a1, a2⟩ | ⟨a1, a2⟩ <;> rcases hb2 j f b hf hfb with ⟨b1, b2⟩ | ⟨b1, b2⟩
  ·exact hs.inj i j e f b a1 b1 a2 b2
  ·have := hs.blk_lt a1 a2; omega
  ·have := hs.blk_lt b1 b2; omega
  ·omega
 ·rcases hb2 i e b he hb with ⟨a1, a2⟩ | ⟨_, a2⟩
  ·exact hs.out b ⟨i, e, a1, a2⟩ hn
  ·have := hs.low b hn; omega
 ·rcases hb2 i e b he hb with ⟨a1, a2⟩ | ⟨_, a2⟩
  ·exact .inl ⟨i, e, a1, a2⟩
  ·exact .inr (by omega)
theorem SpecH.rawN {P : Program} {f : FuncId} {xs : List Value} {H : List Ent} {K : Out -> List Ent -> Prop} {T : TypeId} {sz n : Nat} {ys : List Value} (ok : Qjl P f)
  (h : ∀ w, Qax H w -> Calls P f xs.toArray w fun e w' => ∃ v, e = .returned v /\ w'.ownsRow w.heap.size T sz v n ys /\ Below w.heap.size w w')
  (hk0 : n = 0 -> Qfa H (.app T sz [] none 0 0) 0 fun H' _ => K (.val (.c (.v (.slice none 0 0)))) H')
  (hk : ∀ b cap : Nat, n <= cap -> Qfa H (.app T sz ys (some ⟨b, 0, none⟩) n cap) 0 fun H' _ => K (.val (.c (.v (.slice (some ⟨b, 0, none⟩) n cap)))) H') : SpecH P f (pvs xs) H K := by
 simp only [Qco] at hk hk0
 refine ⟨ok, fun ρ S w vs hs hr => ?_⟩
 obtain rfl := Qe9 hr
 refine (h w hs.facts).mono fun e w' ⟨v, he, hrow, bel⟩ => ?_
 rcases hrow.2 with ⟨rfl, h0⟩ | ⟨g, cap, cur, rfl, hg, hb, h1, h2, h3, h4⟩
 ·have hs' := (hs.below bel).pad [.app T sz [] none 0 0] rfl
  obtain ⟨t, hs2, hev2⟩ := hs'
  refine ⟨ρ ++ t, S, _, .val (.c (.v (.slice none 0 0))), hs2, ?_, ⟨_, he, rfl⟩, hk0 h0⟩
  exact (Qj5 (S := S) (S' := S) (ρ := ρ) (H := H) (H' := H) [] bel (fun b hb => .inl hb) (fun b hb => by simpa using hb)).trans (by simpa using hev2)
 ·have hR : RowF T sz n ys g cap w' := ⟨cur, (0, 0), ⟨hb, .inl rfl⟩, hrow.1, h1, h2, h3, h4⟩
  obtain ⟨hs2, hev2⟩ := hs.addApp bel hg hR
  exact ⟨_, S, _, .val (.c (.v (.slice (some ⟨g, 0, none⟩) n cap))), hs2, hev2, ⟨_, he, rfl⟩, hk g cap h1⟩
end Go.AX
namespace Go.Proofs.YtgogonnnojcioaaGreatDoor
open Go.RowKit Go.AX Go.Core Go.Sort Go.Proofs
set_option maxRecDepth 20000
theorem Qpc {T : TypeId} {b cap : Nat} {zs : List (List UInt8)} {w : World} (h : RowF T 1 zs.length (strC zs) b cap w) : Holds encStr w b 0 zs.toArray := by
 obtain ⟨arr, ⟨lo, hi⟩, ⟨hb, hfr⟩, h1, h2, h3, h4, h5⟩ := h
 intro j hj
 have hj' : j < zs.length := by simpa using hj
 have h6 : (arr.toList.take (zs.length * 1))[j]? = (strC zs)[j]? := by rw [h5]
 rw [List.getElem?_take_of_lt (by omega)] at h6
 unfold strC at h6
 rw [List.getElem?_map, Zbz hj'] at h6
 refine ⟨?_, ?_⟩
 ·simp only [World.cell?, hb, Nat.zero_add]
  simp only [Option.isSome_none, Bool.false_eq_true, if_false]
  rw [Array.getElem?_toList] at h6
  rw [h6, getElem!_pos zs.toArray j (by simpa using hj')]
  rfl
 ·simp only [World.frozen?, hb, Nat.zero_add]
  rcases hfr with hfr | hfr
  ·cases hfr; simp
  ·have : ¬ lo <= j := by
    simp only at hfr
    have : j < arr.size := by omega
    omega
   simp [this]
theorem Quc {T : TypeId} {b cap k : Nat} {zs ts : List (List UInt8)} {w : World} {os : Array Obj} (h : RowF T 1 zs.length (strC zs) b cap w) (hb : b < w.heap.size) (hl : ts.length = zs.length) : RowF T 1 zs.length (strC ts) b cap (grow (putRow encStr (Sort.ahead w k) b 0 ts.toArray) os) := by
 obtain ⟨arr, fr, ⟨hh, hfr⟩, h1, h2, h3, h4, h5⟩ := h
 have hsz : (putCells encStr 0 ts.toArray arr).size = arr.size := by simp [putCells]
 refine ⟨putCells encStr 0 ts.toArray arr, fr, ⟨?_, by rw [hsz]; exact hfr⟩, by simp [strC, hl], h2, h3, by rw [hsz]; exact h4, ?_⟩
 ·rw [heap_grow_old _ _ (by simp [putRow, mapBlock, Sort.ahead, hb])]
  simp [putRow, mapBlock, Sort.ahead, Array.getElem?_modify, hh, onCells]
 ·rw [Nat.mul_one, <- hl]
  exact take_putCells arr ts (by omega)
def Qom (zs : List (List UInt8)) : List (List UInt8) := zs.mergeSort fun x y => decide (x <= y)
theorem Qol (zs : List (List UInt8)) : (Qom zs).length = zs.length := (List.mergeSort_perm zs _).length_eq
theorem QA5 {H : List Ent} {K : Out -> List Ent -> Prop} (i : Nat) (zs : List (List UInt8)) (b cap : Nat) (hz : zs.length <= 40000) (hi : nthE H i = some (.app 9 1 (strC zs) (some ⟨b, 0, none⟩) zs.length cap))
  (hk : Qd5 H i (.app 9 1 (strC (Qom zs)) (some ⟨b, 0, none⟩) zs.length cap) fun H' => K (.val (.c (.v (.tuple #[])))) H') : SpecH Tryz.prog 134 (pvs [.slice (some ⟨b, 0, none⟩) zs.length cap]) H K :=
 SpecH.rawA (Qhb Tryz.func134 (by kernel_rfl) rfl) i hi (R := fun r n' ys' => r = .tuple #[] /\ n' = zs.length /\ ys' = strC (Qom zs)) (fun w hrow hb => (Tryz.slices_Sort_string b 0 cap zs w (Qpc hrow) hb (by omega)).mono fun e w' ⟨he, k, os, hw⟩ => by
  subst hw
  have hg := grownBy_sorted (w := w) (g := b) (n := k) (os := os) (Qom zs).toArray
  exact ⟨_, _, _, he, ⟨rfl, rfl, rfl⟩, Quc hrow hb (Qol zs), hg.size, fun k hk hne => hg.block k hk (fun e => hne (Zzz e)), hg.os, hg.tape, hg.output⟩) fun r n' ys' ⟨h1, h2, h3⟩ => by
  subst h1 h2 h3
  exact hk
theorem Qv7 {H : List Ent} {K : Out -> List Ent -> Prop} (p : Option Addr) (cap : Nat) (hk : K (.val (.c (.v (.tuple #[])))) H) : SpecH Tryz.prog 134 (pvs [.slice p 0 cap]) H K :=
 SpecH.rawP (R := fun r => r = .tuple #[]) (Qhb Tryz.func134 (by kernel_rfl) rfl) (fun w _ => (Tryz.slices_Sort_string_none p cap w).mono fun e w' ⟨he, hw⟩ => by
  subst hw
  exact ⟨_, he, rfl, Below.refl _ _⟩) fun r hr => by subst hr; exact hk
theorem Qwf {H : List Ent} {K : Out -> List Ent -> Prop} (i : Nat) (zs : List (List UInt8)) (b cap : Nat) (hz : zs.length <= 40000) (hcap : zs.length <= cap) (hi : nthE H i = some (.app 9 1 (strC zs) (some ⟨b, 0, none⟩) zs.length cap))
  (hk : ∀ ys, Qd5 H i (.app 9 1 ys (some ⟨b, 0, none⟩) zs.length cap) fun H' => K (.val (.c (.v (.slice (some ⟨b, 0, none⟩) (Lib.compact zs).length cap)))) H') : SpecH Tryz.prog 112 (pvs [.slice (some ⟨b, 0, none⟩) zs.length cap]) H K :=
 SpecH.rawA (Qhb Tryz.func112 (by kernel_rfl) rfl) i hi (R := fun r n' _ => r = .slice (some ⟨b, 0, none⟩) (Lib.compact zs).length cap /\ n' = zs.length) (fun w hrow hb => (Tryz.slices_Compact_string b 0 cap zs w (Qpc hrow) (by omega) hcap).mono fun e w' ⟨he, k, hw⟩ => by
  subst hw
  have hlen : (Lib.compact zs ++ List.replicate (zs.length - (Lib.compact zs).length) []).length = zs.length := by
   have := Lib.compact_length_le zs
   simp
   omega
  have hr := Quc (k := k) (os := #[]) hrow hb hlen
  have hg := grownBy_sorted (w := w) (g := b) (n := k) (os := #[]) (Lib.compact zs ++ List.replicate (zs.length - (Lib.compact zs).length) []).toArray
  rw [grow_empty] at hr hg
  exact ⟨_, _, _, he, ⟨rfl, rfl⟩, hr, hg.size, fun k hk hne => hg.block k hk (fun e => hne (Zzz e)), hg.os, hg.tape, hg.output⟩) fun r n' ys' ⟨h1, h2⟩ => by
  subst h1 h2
  exact hk ys'
theorem Qwe {H : List Ent} {K : Out -> List Ent -> Prop} (i : Nat) (zs : List (List UInt8)) (n : Nat) (hn : zs.length = n) (b cap : Nat) (hz : n <= 40000) (hcap : n <= cap) (hi : nthE H i = some (.app 9 1 (strC zs) (some ⟨b, 0, none⟩) n cap))
  (hk : ∀ ys, Qd5 H i (.app 9 1 ys (some ⟨b, 0, none⟩) n cap) fun H' => K (.val (.c (.v (.slice (some ⟨b, 0, none⟩) (Lib.compact zs).length cap)))) H') : SpecH Tryz.prog 112 (pvs [.slice (some ⟨b, 0, none⟩) n cap]) H K := by
 subst hn
 exact Qwf i zs b cap hz hcap hi hk
theorem Qp4 {H : List Ent} {K : Out -> List Ent -> Prop} (p : Option Addr) (cap : Nat) (hk : K (.val (.c (.v (.slice p 0 cap)))) H) : SpecH Tryz.prog 112 (pvs [.slice p 0 cap]) H K :=
 SpecH.rawP (R := fun r => r = .slice p 0 cap) (Qhb Tryz.func112 (by kernel_rfl) rfl) (fun w _ => (Tryz.slices_Compact_string_empty p cap w).mono fun e w' ⟨he, hw⟩ => by
  subst hw
  exact ⟨_, he, rfl, Below.refl _ _⟩) fun r hr => by subst hr; exact hk
theorem Qys {w : World} {a : Option Addr} {cap : Nat} {zs : List (List UInt8)} (h : SlAt a (zs.length * 1) (strC zs) w) : StrsAt w.heap.size w (.slice a zs.length cap) zs \/ zs = [] := by
 cases zs with
 | nil => exact .inr rfl
 | cons z zs =>
  obtain ⟨h1, h2, h3⟩ := h
  have ha := h2 (by simp)
  obtain ⟨p, rfl⟩ := Option.isSome_iff_exists.1 ha
  have hc : ∀ j, j < (z :: zs).length -> w.cell? (p.add j) = (strC (z :: zs))[j]? := fun j hj => h3 j (by omega)
  have h0 := hc 0 (by simp)
  have hsp : p.spot = none /\ p.block < w.heap.size := by
   have e : (strC (z :: zs))[0]? = some (.string (bs z)) := rfl
   rw [e] at h0
   unfold World.cell? at h0
   split at h0
   ·rename_i c T fr hb
    have hb' : p.block < w.heap.size := (Zjz.1 hb).1
    by_cases hs : (p.add 0).spot.isSome
    ·rw [if_pos hs] at h0; cases h0
    ·refine ⟨?_, hb'⟩
     have : ¬ p.spot.isSome = true := hs
     simpa using this
   ·cases h0
  obtain ⟨pb, po, ps⟩ := p
  obtain ⟨rfl, hlt⟩ : ps = none /\ pb < w.heap.size := hsp
  refine .inl (.inr ⟨pb, po, cap, rfl, hlt, fun j hj => ?_⟩)
  have := hc j hj
  unfold strC at this
  rw [List.getElem?_map, Zbz hj] at this
  rw [Zbz hj]
  rw [add_lit] at this
  exact this
theorem Qq9 {H : List Ent} {K : Out -> List Ent -> Prop} (B cap : Nat) (a : Option Addr) (zs : List (List UInt8)) (hz : zs.length <= 40000) (hF : ∀ w, Qax H w -> w.cell? ⟨B, 0, none⟩ = some (.slice a zs.length cap) /\ SlAt a (zs.length * 1) (strC zs) w)
  (hk0 : zs.length = 0 -> Qfa H (.app 9 1 [] none 0 0) 0 fun H' _ => K (.val (.c (.v (.slice none 0 0)))) H')
  (hk : ∀ b c : Nat, zs.length <= c -> Qfa H (.app 9 1 (strC zs) (some ⟨b, 0, none⟩) zs.length c) 0 fun H' _ => K (.val (.c (.v (.slice (some ⟨b, 0, none⟩) zs.length c)))) H') :
  SpecH Tryz.prog 154 (pvs [.slice none 0 0, .func (.func 135) #[] #[.pointer (some ⟨B, 0, none⟩)]]) H K := by
 refine SpecH.rawN (T := 9) (sz := 1) (n := zs.length) (ys := strC zs) (Qhb Tryz.func154 (by kernel_rfl) rfl) (fun w hw => ?_) hk0 hk
 obtain ⟨h1, h3⟩ := hF w hw
 have hB : B < w.heap.size := by
  unfold World.cell? at h1
  split at h1
  ·rename_i hb; exact (Zjz.1 hb).1
  ·cases h1
 have hs : StrsAt w.heap.size w (.slice a zs.length cap) zs := by
  rcases Qys (cap := cap) h3 with h | h
  ·exact h
  ·subst h
   exact .inl ⟨a, cap, rfl, rfl⟩
 have hm : zs.length <= maxLen := by simp only [maxLen]; omega
 exact (callsIn_wide (n := 5)).1 ((Qpx Fence.wide 5 trivial trivial rfl (by omega) B _ zs hm (by omega) w hB h1 hs).mono fun e w' ⟨v, he, hr, hb⟩ => ⟨v, he, hr, hb⟩)
end Go.Proofs.YtgogonnnojcioaaGreatDoor
namespace Go.Core
open Go.Lib
theorem Qlg {α : Type} {p : α -> Bool} : ∀ {l : List α}, (l.filter p).length = l.length -> ∀ x ∈ l, p x = true
 | [], _, _, h => by cases h
 | a :: l, he, x, h => by
  rw [List.filter_cons] at he
  have hle := List.length_filter_le p l
  cases hp : p a with
  | false => rw [if_neg (by simp [hp])] at he; simp only [Znz] at he; omega
  | true =>
   rw [if_pos hp] at he
   simp only [Znz] at he
   rcases List.mem_cons.1 h with rfl | h
   ·exact hp
   ·exact Qlg (by omega) x h
theorem Qqy (zs : List (List UInt8)) : (compact zs).length = zs.length ↔ ∀ j, j < zs.length -> keeps zs.toArray j = true := by
 constructor
 ·intro h j hj
  unfold compact compactUpTo at h
  rw [List.length_map] at h
  exact Qlg (l := List.range zs.length) (by rw [h, List.length_range]) j (List.mem_range.2 hj)
 ·exact fun h => by rw [compact_all zs h]
theorem Qok {zs : List (List UInt8)} (hs : zs.Pairwise fun a b => decide (a <= b) = true) : (∀ j, j < zs.length -> keeps zs.toArray j = true) ↔ zs.Nodup := by
 constructor
 ·intro h
  refine List.pairwise_iff_getElem.2 fun i j hi hj hij he => ?_
  have h1 := h j hj
  unfold keeps at h1
  rw [ZBz] at h1
  have h2 : zs.toArray[j]! ≠ zs.toArray[j - 1]! := h1.resolve_left (by omega)
  rw [getElem!_pos zs.toArray j (by simpa using hj), getElem!_pos zs.toArray (j - 1) (by simp; omega)] at h2
  simp only [List.getElem_toArray] at h2
  refine h2 ?_
  rcases Nat.lt_or_ge i (j - 1) with hlt | hge
  ·have a1 := List.pairwise_iff_getElem.1 hs i (j - 1) hi (by omega) hlt
   have a2 := List.pairwise_iff_getElem.1 hs (j - 1) j (by omega) hj (by omega)
   simp only [ZBz] at a1 a2
   rw [he] at a1
   exact List.le_antisymm a1 a2
  ·have e : i = j - 1 := by omega
   subst e
   exact he.symm
 ·intro h j hj
  unfold keeps
  rw [ZBz]
  rcases Nat.eq_zero_or_pos j with h0 | h0
  ·exact .inl h0
  ·refine .inr ?_
   rw [getElem!_pos zs.toArray j (by simpa using hj), getElem!_pos zs.toArray (j - 1) (by simp; omega)]
   simp only [List.getElem_toArray]
   exact Ne.symm (List.pairwise_iff_getElem.1 h (j - 1) j (by omega) hj (by omega))
theorem Qps (ss : List (List UInt8)) : (compact (ss.mergeSort fun x y => decide (x <= y))).length = ss.length ↔ ss.Nodup := by
 have hp := List.mergeSort_perm ss fun x y => decide (x <= y)
 have hs : (ss.mergeSort fun x y => decide (x <= y)).Pairwise fun a b => decide (a <= b) = true :=
  List.pairwise_mergeSort (fun a b c h1 h2 => by simp only [ZBz] at *; exact List.le_trans h1 h2) (fun a b => by simp only [Bool.or_eq_true, ZBz]; exact List.le_total a b) ss
 rw [<- hp.length_eq, Qqy, Qok hs]
 exact hp.nodup_iff
end Go.Core
namespace Go.Proofs.YtgogonnnojcioaaGreatDoor
open Go.AX Go.RowKit Go.Core Go.Scan
set_option maxRecDepth 20000
def Qa9 (text : List UInt8) (p5 p10 p14 : Bool) (k : Int) : Option Value :=
 if k = 4 /\ p5 = true then some (.bool (decide ((text.length : Int) <= 2000))) else if k = 5 /\ p10 = true then some (.bool (decide ((text.length : Int) <= 40))) else if k = 8 /\ p14 = true then some (.bool (icB text)) else none
def plOk (p0 p13 p5 p10 p14 p15 p16 : Bool) : Bool := (!p5 || p0) && (!p10 || p0) && (!p14 || (p0 && p13)) && (!p15 || (p5 && p10 && p14)) && (!p16 || p15)
def plN (p0 p13 p5 p10 p14 p15 p16 : Bool) : Nat := (!p0).toNat + (!p13).toNat + (!p5).toNat + (!p10).toNat + (!p14).toNat + (!p15).toNat + (!p16).toNat
def mpA (p : Bool) (b : Nat) : AV := bif p then .c (.v (.map (some b))) else .c .any
def plS (c : Value) (cb b : Nat) (text : List UInt8) (p0 p13 p15 p16 : Bool) : List AV :=
 .c (.v c) :: .c (.v (.pointer (some ⟨cb, 0, none⟩))) :: .c (.v (.bool false)) :: mpA p16 b :: .c .any :: .c .any :: .c .any :: mpA p0 b ::
  .c (.v (.pointer (some ⟨cb, 2, none⟩))) :: .c (.v (.string (bs text))) :: .c (.v (.int .i64 (text.length : Int))) :: .c (.v (.bool (decide ((text.length : Int) <= 2000)))) ::
  .c (.v (.pointer (some ⟨cb, 2, none⟩))) :: .c (.v (.string (bs text))) :: .c (.v (.int .i64 (text.length : Int))) :: .c (.v (.bool (decide ((text.length : Int) <= 40)))) ::
  .c (.v (.pointer (some ⟨cb, 2, none⟩))) :: .c (.v (.string (bs text))) :: (bif p13 then .c (.v (.bool (icB text))) else .c .any) :: mpA p15 b :: mkS 111 20 []
def plH (F : World -> Prop) (cs : List Value) (cb b cl : Nat) (es : Array MapEntry) (p0 : Bool) : List Ent :=
 .fact F :: .app 57 5 cs (some ⟨cb, 0, none⟩) 1 1 :: (bif p0 then [.mp b es cl] else [])
def plJ (F : World -> Prop) (c : Value) (cs : List Value) (cb : Nat) (text : List UInt8) (n : Nat) (ls : Array Bool) (s : List AV) (H : List Ent) : Prop :=
 ∃ (p0 p13 p5 p10 p14 p15 p16 : Bool) (b cl : Nat) (es : Array MapEntry), plOk p0 p13 p5 p10 p14 p15 p16 = true /\ n = plN p0 p13 p5 p10 p14 p15 p16 /\ ls = #[p0, true, true, true, true, p5, true, true, true, true, p10, true, true, p13, p14, p15, p16] /\
  s = plS c cb b text p0 p13 p15 p16 /\ H = plH F cs cb b cl es p0 /\ MapIs .i64 es (Qa9 text p5 p10 p14)
theorem Qrv (s : List UInt8) (hs : s.length <= 200000000000000) : ∀ H, SpecH Tryz.prog 114 (pvs [.string (bs s)]) H (Ret (.bool (!iiB s)) H) := by
 refine Qd1 hm Tryz.func114 (by kernel_rfl) rfl rfl ?_
 refine wX ?_
 refine Qao (Qxm s hs _) ?_
 exact wZ
theorem Qtk (p : Option Addr) (cap : Nat) : ∀ H, SpecH Tryz.prog 112 (pvs [.slice p 0 cap]) H (Ret (.slice p 0 cap) H) := fun _ => Qp4 p cap ⟨rfl, rfl⟩
set_option maxHeartbeats 4000000 in
theorem Qws (kind num : Int) (text : List UInt8) (names : List (List UInt8)) (items : List Int) (na : Option Addr) (nc : Nat) (ia : Option Addr) (ic : Nat) (hna : na = none -> names = []) (hia : ia = none -> items = []) (hnl : names.length <= 40000) (hil : items.length <= 40000) (hnw : ∀ s ∈ names, s.length <= 200000000000000) (htl : text.length <= 200000000000000) :
  ∀ H, (∀ w, Qax H w -> SlAt na (names.length * 1) (strC names) w /\ SlAt ia (items.length * 1) (iC items) w) -> SpecH Tryz.prog 90 (pvs [.agg #[.int .i64 kind, .int .i64 num, .string (bs text), .slice na names.length nc, .slice ia items.length ic]]) H (Ret (.bool (plainS ⟨kind, num, text, names, items⟩)) H) := by
 refine Qem hm Tryz.func90 (by kernel_rfl) rfl rfl ?_
 refine wXB ?_
 refine BoxN.known [.int .i64 kind, .int .i64 num, .string (bs text), .slice na names.length nc, .slice ia items.length ic] rfl fun cb => ?_
 refine wXB ?_
 refine DrawN.walk hm (fun w => SlAt (some ⟨cb, 0, none⟩) 5 [.int .i64 kind, .int .i64 num, .string (bs text), .slice na names.length nc, .slice ia items.length ic] w) [1, 2, 3, 4, 6, 7, 8, 9, 11, 12] 7 (plJ (fun w => SlAt na (names.length * 1) (strC names) w /\ SlAt ia (items.length * 1) (iC items) w) (.agg #[.int .i64 kind, .int .i64 num, .string (bs text), .slice na names.length nc, .slice ia items.length ic]) [.int .i64 kind, .int .i64 num, .string (bs text), .slice na names.length nc, .slice ia items.length ic] cb text) (by decide +kernel) (by decide +kernel) (by decide +kernel) ?_ ?_
 ·rintro n ls s H ⟨p0, p13, p5, p10, p14, p15, p16, b, cl, es, hok, rfl, rfl, rfl, rfl, hes⟩
  refine ⟨fun w hw => hw.2.1, ?_⟩
  cases p16 with
  | true =>
   obtain ⟨rfl, rfl, rfl, rfl, rfl, rfl⟩ : p0 = true /\ p13 = true /\ p5 = true /\ p10 = true /\ p14 = true /\ p15 = true := by
    clear hes
    revert p0 p13 p5 p10 p14 p15
    decide
   refine .inl ⟨by decide +kernel, ?_⟩
   have hkk : kind < 0 \/ 8 < kind \/ kind = 0 \/ kind = 1 \/ kind = 2 \/ kind = 3 \/ kind = 4 \/ kind = 5 \/ kind = 6 \/ kind = 7 \/ kind = 8 := by omega
   obtain ⟨j, hj⟩ := hes kind
   rcases hkk with hk | hk | rfl | rfl | rfl | rfl | rfl | rfl | rfl | rfl | rfl
   ·-- what the map holds: nothing
    rw [show Qa9 text true true true kind = none by unfold Qa9; rw [if_neg (by omega), if_neg (by omega), if_neg (by omega)]] at hj
    refine wXE ?_
    refine ReadW.askMap none rfl Tryz.underlying125 Tryz.underlying3 rfl rfl rfl rfl (fun w hw => hw.2.2.1) hj ?_
    refine wXE ?_
    refine Qab (fun _ => ?_) (fun h => absurd hk h)
    refine wXE ?_
    exact Qac (by
     have : ¬ 0 <= kind := by omega
     unfold Go.Core.plainS; simp [this])
   ·-- what the map holds: nothing
    rw [show Qa9 text true true true kind = none by unfold Qa9; rw [if_neg (by omega), if_neg (by omega), if_neg (by omega)]] at hj
    refine wXE ?_
    refine ReadW.askMap none rfl Tryz.underlying125 Tryz.underlying3 rfl rfl rfl rfl (fun w hw => hw.2.2.1) hj ?_
    refine wXE ?_
    refine Qab (fun h => absurd h (by omega)) (fun _ => ?_)
    refine wXE ?_
    refine Qab (fun _ => ?_) (fun h => absurd hk h)
    refine wXE ?_
    exact Qac (by
     have : ¬ kind <= 8 := by omega
     unfold Go.Core.plainS; simp [this])
   ·-- what the map holds: nothing
    rw [show Qa9 text true true true 0 = none by unfold Qa9; rw [if_neg (by omega), if_neg (by omega), if_neg (by omega)]] at hj
    refine wXE ?_
    refine ReadW.askMap none rfl Tryz.underlying125 Tryz.underlying3 rfl rfl rfl rfl (fun w hw => hw.2.2.1) hj ?_
    refine wXE ?_
    rw [Qbx]
    cases ht : text == ([] : List UInt8) with
    | false =>
     have ht0 : text ≠ [] := fun e => by rw [e] at ht; cases ht
     refine wXE ?_
     exact Qac (by unfold Go.Core.plainS; simp [ht0])
    | true =>
    have ht0 : text = [] := eq_of_beq ht
    refine wXE ?_
    refine Qbb (fun hu => ?_) (fun hu => ?_)
    ·refine wXE ?_
     exact Qac (by unfold Go.Core.plainS; simp [hu])
    refine wXE ?_
    refine Qab (fun h => absurd h (by omega)) (fun _ => ?_)
    refine wXE ?_
    refine Qab (fun h => absurd h (by omega)) (fun _ => ?_)
    refine wXE ?_
    refine Qao (Qeb 0 _) ?_
    refine wXE ?_
    refine Qa0 (fun h1 => ?_) (fun h1 => ?_)
    ·have hi0 : items = [] := Zez (by omega)
     refine wXE ?_
     exact Qac (by
      have hmx : -Go.Core.maxI <= 0 /\ (0 : Int) <= Go.Core.maxI := by decide
      rw [Zsz]
      unfold Go.Core.plainS
      simp [hi0, ht0, hu, hmx]
      try exact ⟨fun h => Zez (by omega), fun h => by rw [h]; rfl⟩)
    ·have hi0 : items ≠ [] := fun e => by rw [e] at h1; exact h1 rfl
     refine wXE ?_
     exact Qac (by unfold Go.Core.plainS; simp [hi0])
   ·-- what the map holds: nothing
    rw [show Qa9 text true true true 1 = none by unfold Qa9; rw [if_neg (by omega), if_neg (by omega), if_neg (by omega)]] at hj
    refine wXE ?_
    refine ReadW.askMap none rfl Tryz.underlying125 Tryz.underlying3 rfl rfl rfl rfl (fun w hw => hw.2.2.1) hj ?_
    refine wXE ?_
    rw [Qbx]
    cases ht : text == ([] : List UInt8) with
    | false =>
     have ht0 : text ≠ [] := fun e => by rw [e] at ht; cases ht
     refine wXE ?_
     exact Qac (by unfold Go.Core.plainS; simp [ht0])
    | true =>
    have ht0 : text = [] := eq_of_beq ht
    refine wXE ?_
    refine Qbb (fun hu => ?_) (fun hu => ?_)
    ·refine wXE ?_
     exact Qac (by unfold Go.Core.plainS; simp [hu])
    refine wXE ?_
    refine Qab (fun h => absurd h (by omega)) (fun _ => ?_)
    refine wXE ?_
    refine Qab (fun h => absurd h (by omega)) (fun _ => ?_)
    refine wXE ?_
    refine Qao (Qeb 1 _) ?_
    refine wXE ?_
    refine Qa0 (fun h1 => ?_) (fun h1 => ?_)
    ·have hi0 : items = [] := Zez (by omega)
     refine wXE ?_
     exact Qac (by
      have hmx : -Go.Core.maxI <= 0 /\ (0 : Int) <= Go.Core.maxI := by decide
      rw [Zsz]
      unfold Go.Core.plainS
      simp [hi0, ht0, hu, hmx]
      try exact ⟨fun h => Zez (by omega), fun h => by rw [h]; rfl⟩)
    ·have hi0 : items ≠ [] := fun e => by rw [e] at h1; exact h1 rfl
     refine wXE ?_
     exact Qac (by unfold Go.Core.plainS; simp [hi0])
   ·-- what the map holds: nothing
    rw [show Qa9 text true true true 2 = none by unfold Qa9; rw [if_neg (by omega), if_neg (by omega), if_neg (by omega)]] at hj
    refine wXE ?_
    refine ReadW.askMap none rfl Tryz.underlying125 Tryz.underlying3 rfl rfl rfl rfl (fun w hw => hw.2.2.1) hj ?_
    refine wXE ?_
    rw [Qbx]
    cases ht : text == ([] : List UInt8) with
    | false =>
     have ht0 : text ≠ [] := fun e => by rw [e] at ht; cases ht
     refine wXE ?_
     exact Qac (by unfold Go.Core.plainS; simp [ht0])
    | true =>
    have ht0 : text = [] := eq_of_beq ht
    refine wXE ?_
    refine Qbb (fun hu => ?_) (fun hu => ?_)
    ·refine wXE ?_
     exact Qac (by unfold Go.Core.plainS; simp [hu])
    refine wXE ?_
    refine Qab (fun h => absurd h (by omega)) (fun _ => ?_)
    refine wXE ?_
    refine Qab (fun h => absurd h (by omega)) (fun _ => ?_)
    refine wXE ?_
    refine Qao (Qeb 2 _) ?_
    refine wXE ?_
    refine Qa0 (fun h1 => ?_) (fun h1 => ?_)
    ·have hi0 : items = [] := Zez (by omega)
     refine wXE ?_
     exact Qac (by
      have hmx : -Go.Core.maxI <= 0 /\ (0 : Int) <= Go.Core.maxI := by decide
      rw [Zsz]
      unfold Go.Core.plainS
      simp [hi0, ht0, hu, hmx]
      try exact ⟨fun h => Zez (by omega), fun h => by rw [h]; rfl⟩)
    ·have hi0 : items ≠ [] := fun e => by rw [e] at h1; exact h1 rfl
     refine wXE ?_
     exact Qac (by unfold Go.Core.plainS; simp [hi0])
   ·-- what the map holds: nothing
    rw [show Qa9 text true true true 3 = none by unfold Qa9; rw [if_neg (by omega), if_neg (by omega), if_neg (by omega)]] at hj
    refine wXE ?_
    refine ReadW.askMap none rfl Tryz.underlying125 Tryz.underlying3 rfl rfl rfl rfl (fun w hw => hw.2.2.1) hj ?_
    refine wXE ?_
    rw [Qbx]
    cases ht : text == ([] : List UInt8) with
    | false =>
     have ht0 : text ≠ [] := fun e => by rw [e] at ht; cases ht
     refine wXE ?_
     exact Qac (by unfold Go.Core.plainS; simp [ht0])
    | true =>
    have ht0 : text = [] := eq_of_beq ht
    refine wXE ?_
    refine Qab (fun hb1 => ?_) (fun hb1 => ?_)
    ·refine wXE ?_
     exact Qac (by
      have : ¬ (-Go.Core.maxI <= num) := by show ¬ (-1000000000000000 <= num); omega
      unfold Go.Core.plainS; simp [this])
    refine wXE ?_
    refine Qab (fun hb2 => ?_) (fun hb2 => ?_)
    ·refine wXE ?_
     exact Qac (by
      have : ¬ (num <= Go.Core.maxI) := by show ¬ (num <= 1000000000000000); omega
      unfold Go.Core.plainS; simp [this])
    refine wXE ?_
    have hq1 : -Go.Core.maxI <= num := by show -1000000000000000 <= num; omega
    have hq2 : num <= Go.Core.maxI := by show num <= 1000000000000000; omega
    refine Qao (Qeb 3 _) ?_
    refine wXE ?_
    refine Qa0 (fun h1 => ?_) (fun h1 => ?_)
    ·have hi0 : items = [] := Zez (by omega)
     refine wXE ?_
     exact Qac (by
      have hmx : -Go.Core.maxI <= 0 /\ (0 : Int) <= Go.Core.maxI := by decide
      rw [Zsz]
      unfold Go.Core.plainS
      simp [hi0, ht0, hq1, hq2, hmx]
      try exact ⟨fun h => Zez (by omega), fun h => by rw [h]; rfl⟩)
    ·have hi0 : items ≠ [] := fun e => by rw [e] at h1; exact h1 rfl
     refine wXE ?_
     exact Qac (by unfold Go.Core.plainS; simp [hi0])
   ·-- 4: the kind, decide ((text.length : Int) <= 2000): what the map holds
    rw [show Qa9 text true true true 4 = some (.bool (decide ((text.length : Int) <= 2000))) by simp [Qa9]] at hj
    refine wXE ?_
    refine ReadW.askMap (some (j, .bool (decide ((text.length : Int) <= 2000)))) rfl Tryz.underlying125 Tryz.underlying3 rfl rfl rfl rfl (fun w hw => hw.2.2.1) hj ?_
    refine wXE ?_
    cases hf : decide ((text.length : Int) <= 2000) with
    | false =>
     refine wXE ?_
     exact Qac (by unfold Go.Core.plainS; simp [show ¬ text.length <= 2000 from fun h => of_decide_eq_false hf (by omega)])
    | true =>
    refine wXE ?_
    refine Qbb (fun hu => ?_) (fun hu => ?_)
    ·refine wXE ?_
     exact Qac (by unfold Go.Core.plainS; simp [hu])
    refine wXE ?_
    refine Qab (fun h => absurd h (by omega)) (fun _ => ?_)
    refine wXE ?_
    refine Qab (fun h => absurd h (by omega)) (fun _ => ?_)
    refine wXE ?_
    refine Qao (Qeb 4 _) ?_
    refine wXE ?_
    refine Qa0 (fun h1 => ?_) (fun h1 => ?_)
    ·have hi0 : items = [] := Zez (by omega)
     refine wXE ?_
     exact Qac (by
      have hmx : -Go.Core.maxI <= 0 /\ (0 : Int) <= Go.Core.maxI := by decide
      rw [Zsz]
      unfold Go.Core.plainS
      simp [hi0, hu, show text.length <= 2000 from by have := of_decide_eq_true hf; omega, hmx]
      try exact ⟨fun h => Zez (by omega), fun h => by rw [h]; rfl⟩)
    ·have hi0 : items ≠ [] := fun e => by rw [e] at h1; exact h1 rfl
     refine wXE ?_
     exact Qac (by unfold Go.Core.plainS; simp [hi0])
   ·-- 5: the kind, decide ((text.length : Int) <= 40): what the map holds
    rw [show Qa9 text true true true 5 = some (.bool (decide ((text.length : Int) <= 40))) by simp [Qa9]] at hj
    refine wXE ?_
    refine ReadW.askMap (some (j, .bool (decide ((text.length : Int) <= 40)))) rfl Tryz.underlying125 Tryz.underlying3 rfl rfl rfl rfl (fun w hw => hw.2.2.1) hj ?_
    refine wXE ?_
    cases hf : decide ((text.length : Int) <= 40) with
    | false =>
     refine wXE ?_
     exact Qac (by unfold Go.Core.plainS; simp [show ¬ text.length <= 40 from fun h => of_decide_eq_false hf (by omega)])
    | true =>
    refine wXE ?_
    refine Qbb (fun hu => ?_) (fun hu => ?_)
    ·refine wXE ?_
     exact Qac (by unfold Go.Core.plainS; simp [hu])
    refine wXE ?_
    refine Qab (fun h => absurd h (by omega)) (fun _ => ?_)
    refine wXE ?_
    refine Qab (fun h => absurd h (by omega)) (fun _ => ?_)
    refine wXE ?_
    refine Qao (Qeb 5 _) ?_
    refine wXE ?_
    refine Qa0 (fun h1 => ?_) (fun h1 => ?_)
    ·have hi0 : items = [] := Zez (by omega)
     refine wXE ?_
     exact Qac (by
      have hmx : -Go.Core.maxI <= 0 /\ (0 : Int) <= Go.Core.maxI := by decide
      rw [Zsz]
      unfold Go.Core.plainS
      simp [hi0, hu, show text.length <= 40 from by have := of_decide_eq_true hf; omega, hmx]
      try exact ⟨fun h => Zez (by omega), fun h => by rw [h]; rfl⟩)
    ·have hi0 : items ≠ [] := fun e => by rw [e] at h1; exact h1 rfl
     refine wXE ?_
     exact Qac (by unfold Go.Core.plainS; simp [hi0])
   ·-- what the map holds: nothing
    rw [show Qa9 text true true true 6 = none by unfold Qa9; rw [if_neg (by omega), if_neg (by omega), if_neg (by omega)]] at hj
    refine wXE ?_
    refine ReadW.askMap none rfl Tryz.underlying125 Tryz.underlying3 rfl rfl rfl rfl (fun w hw => hw.2.2.1) hj ?_
    refine wXE ?_
    rw [Qbx]
    cases ht : text == ([] : List UInt8) with
    | false =>
     have ht0 : text ≠ [] := fun e => by rw [e] at ht; cases ht
     refine wXE ?_
     exact Qac (by unfold Go.Core.plainS; simp [ht0])
    | true =>
    have ht0 : text = [] := eq_of_beq ht
    refine wXE ?_
    refine Qbb (fun hu => ?_) (fun hu => ?_)
    ·refine wXE ?_
     exact Qac (by unfold Go.Core.plainS; simp [hu])
    refine wXE ?_
    refine Qab (fun h => absurd h (by omega)) (fun _ => ?_)
    refine wXE ?_
    refine Qab (fun h => absurd h (by omega)) (fun _ => ?_)
    refine wXE ?_
    refine Qao (Qeb 6 _) ?_
    refine wXE ?_
    refine Qa0 (fun h1 => ?_) (fun h1 => ?_)
    ·have hn0 : names = [] := Zez (by omega)
     refine wXE ?_
     exact Qac (by
      have hmx : -Go.Core.maxI <= 0 /\ (0 : Int) <= Go.Core.maxI := by decide
      rw [Zsz]
      unfold Go.Core.plainS
      simp [hn0, ht0, hu, hmx]
      try (rw [Int.tmod_eq_emod_of_nonneg (by omega)]; omega))
    ·have hn0 : names ≠ [] := fun e => by rw [e] at h1; exact h1 rfl
     refine wXE ?_
     exact Qac (by unfold Go.Core.plainS; simp [hn0])
   ·-- what the map holds: nothing
    rw [show Qa9 text true true true 7 = none by unfold Qa9; rw [if_neg (by omega), if_neg (by omega), if_neg (by omega)]] at hj
    refine wXE ?_
    refine ReadW.askMap none rfl Tryz.underlying125 Tryz.underlying3 rfl rfl rfl rfl (fun w hw => hw.2.2.1) hj ?_
    refine wXE ?_
    rw [Qbx]
    cases ht : text == ([] : List UInt8) with
    | false =>
     have ht0 : text ≠ [] := fun e => by rw [e] at ht; cases ht
     refine wXE ?_
     exact Qac (by unfold Go.Core.plainS; simp [ht0])
    | true =>
    have ht0 : text = [] := eq_of_beq ht
    refine wXE ?_
    refine Qbb (fun hu => ?_) (fun hu => ?_)
    ·refine wXE ?_
     exact Qac (by unfold Go.Core.plainS; simp [hu])
    refine wXE ?_
    refine Qab (fun h => absurd h (by omega)) (fun _ => ?_)
    refine wXE ?_
    refine Qab (fun h => absurd h (by omega)) (fun _ => ?_)
    refine wXE ?_
    refine Qao (Qeb 7 _) ?_
    refine wXE ?_
    refine Qa0 (fun h1 => ?_) (fun h1 => ?_)
    ·have hn0 : names = [] := Zez (by omega)
     refine wXE ?_
     exact Qac (by
      have hmx : -Go.Core.maxI <= 0 /\ (0 : Int) <= Go.Core.maxI := by decide
      rw [Zsz]
      unfold Go.Core.plainS
      simp [hn0, ht0, hu, hmx]
      try (rw [Int.tmod_eq_emod_of_nonneg (by omega)]; omega))
    ·have hn0 : names ≠ [] := fun e => by rw [e] at h1; exact h1 rfl
     refine wXE ?_
     exact Qac (by unfold Go.Core.plainS; simp [hn0])
   ·-- 8: the kind, icB text: what the map holds
    rw [show Qa9 text true true true 8 = some (.bool (icB text)) by simp [Qa9]] at hj
    refine wXE ?_
    refine ReadW.askMap (some (j, .bool (icB text))) rfl Tryz.underlying125 Tryz.underlying3 rfl rfl rfl rfl (fun w hw => hw.2.2.1) hj ?_
    refine wXE ?_
    cases hf : icB text with
    | false =>
     refine wXE ?_
     exact Qac (by unfold Go.Core.plainS; simp [hf])
    | true =>
    refine wXE ?_
    refine Qbb (fun hu => ?_) (fun hu => ?_)
    ·refine wXE ?_
     exact Qac (by unfold Go.Core.plainS; simp [hu])
    refine wXE ?_
    refine Qab (fun h => absurd h (by omega)) (fun _ => ?_)
    refine wXE ?_
    refine Qab (fun h => absurd h (by omega)) (fun _ => ?_)
    refine wXE ?_
    refine Qao (Qeb 8 _) ?_
    refine wXE ?_
    refine Qas hm Tryz.func111 (by kernel_rfl) rfl rfl ?_
    refine wXB ?_
    refine BoxN.known [.slice na names.length nc] rfl fun vb => ?_
    refine wXE ?_
    refine Qas hm Tryz.func110 (by kernel_rfl) rfl rfl ?_
    refine wXE ?_
    refine Qas hm Tryz.func133 (by kernel_rfl) rfl rfl ?_
    refine wXE ?_
    refine SpecH.args (args' := pvs [.slice none 0 0, .func (.func 135) #[] #[.pointer (some ⟨vb, 0, none⟩)]]) (by simp [pvs, opvs, opv, nth, Qat]; try rfl) ?_
    refine Qq9 vb nc na names (by omega) (fun w hw => ⟨?_, hw.1.1⟩) (fun h0 => ?_) (fun b2 c2 hc2 => ?_)
    ·have := (hw.2.2.2.1).2.2 0 (by simp)
     exact this
    ·have hnn : names = [] := Zez h0
     refine wXE ?_
     refine SpecH.args (args' := pvs [.slice none 0 0]) (by simp [pvs, opvs, opv, nth, Qat]; try rfl) ?_
     refine Qv7 none 0 ?_
     refine wXE ?_
     refine Qa0 (fun hln => ?_) (fun hln => ?_)
     ·refine wXE ?_
      refine Qfd (Qtk none 0 _) ?_
      refine wXE ?_
      refine Qa0 (fun _ => ?_) (fun h => absurd (show (0 : Int) = (names.length : Int) by omega) h)
      refine wXE ?_
      refine Qfd (Qyf (fun s => !iiB s) 114 #[] (fun _ => True) na nc names (fun p hp H _ => Qrv p (hnw p hp) H) hna (by omega) _ (fun w hw => ⟨hw.1.1, trivial⟩)) ?_
      refine wXE ?_
      exact Qac (by
       have hmx : -Go.Core.maxI <= 0 /\ (0 : Int) <= Go.Core.maxI := by decide
       have hi0 : items.length = 0 := by omega
       unfold Go.Core.plainS
       simp [hnn, hu, hmx, hf, hi0])
     ·refine wXE ?_
      exact Qac (by
       have : ¬ names.length = items.length := by omega
       unfold Go.Core.plainS; simp [this])
    ·refine wXE ?_
     refine SpecH.args (args' := pvs [.slice (some ⟨b2, 0, none⟩) names.length c2]) (by simp [pvs, opvs, opv, nth, Qat]; try rfl) ?_
     refine QA5 4 names b2 c2 (by omega) rfl ?_
     ((conv => whnf); (repeat ((first | refine LdN.one (a := some ⟨cb, 0, none⟩) (q := 0) (xs := [_, _, _, _, _]) _ rfl (fun w hw => hw.2.1) rfl ?_ | refine LdN.one (a := some ⟨cb, 0, none⟩) (q := 1) (xs := [_, _, _, _, _]) _ rfl (fun w hw => hw.2.1) rfl ?_ | refine LdN.one (a := some ⟨cb, 0, none⟩) (q := 2) (xs := [_, _, _, _, _]) _ rfl (fun w hw => hw.2.1) rfl ?_ | refine LdN.one (a := some ⟨cb, 0, none⟩) (q := 3) (xs := [_, _, _, _, _]) _ rfl (fun w hw => hw.2.1) rfl ?_ | refine LdN.one (a := some ⟨cb, 0, none⟩) (q := 4) (xs := [_, _, _, _, _]) _ rfl (fun w hw => hw.2.1) rfl ?_ | refine RwN.own ?_ | refine VrN.norm (Qaf (by omega)) ?_ | refine VrN.keep ?_ | refine Nd.mk (by decide +kernel) ?_ | refine Nd.mk (by omega) ?_ | (refine Nd.mk ?_ ?_; focus ((repeat' (first | exact trivial | exact Qaa _ | refine And.intro ?_ ?_)); done)) | refine RdN.intro _ rfl (by rfl) ?_); (conv => whnf))))
     refine DrawN.planR hm (fun w => SlAt (some ⟨cb, 0, none⟩) 5 [.int .i64 8, .int .i64 num, .string (bs text), .slice na names.length nc, .slice ia items.length ic] w) [0, 3] [(1, 1), (2, 1), (4, 1), (5, 1), (6, 1), (7, 1), (8, 1), (11, 1), (12, 1), (13, 1), (9, 0), (10, 1), (14, 1), (15, 1), (16, 1), (17, 1), (18, 1), (19, 0), (20, 1), (21, 1), (22, 1)] (by decide +kernel) (fun w hw => hw.2.1) ?_
     refine wXP ?_
     refine ReadC.one (T := 55) (x := .tmp 109) (a := some ⟨cb, 0, none⟩) (q := 3) (k := 5) (xs := [.int .i64 8, .int .i64 num, .string (bs text), .slice na names.length nc, .slice ia items.length ic]) (.slice na names.length nc) ?_ ?_ ?_ ?_ ?_ ?_
     ·rfl
     ·rfl
     ·rfl
     ·exact fun w hw => hw
     ·rfl
     refine wXP ?_
     refine BlindW.len (x := .tmp 110) (T := 55) (p := na) (n := names.length) (c := nc) rfl rfl rfl Tryz.underlying55 ?_ ?_
     ·rfl
     refine wXP ?_
     refine ReadC.one (T := 22) (x := .tmp 112) (a := some ⟨cb, 0, none⟩) (q := 4) (k := 5) (xs := [.int .i64 8, .int .i64 num, .string (bs text), .slice na names.length nc, .slice ia items.length ic]) (.slice ia items.length ic) ?_ ?_ ?_ ?_ ?_ ?_
     ·rfl
     ·rfl
     ·rfl
     ·exact fun w hw => hw
     ·rfl
     refine wXP ?_
     refine BlindW.len (x := .tmp 113) (T := 22) (p := ia) (n := items.length) (c := ic) rfl rfl rfl Tryz.underlying22 ?_ ?_
     ·rfl
     refine wXP ?_
     refine Qa0 (fun hln => ?_) (fun hln => ?_)
     ·-- fun w hw => hw.2.1: why the kind holds
      refine wXP ?_
      refine ReadC.one (T := 55) (x := .tmp 120) (a := some ⟨cb, 0, none⟩) (q := 3) (k := 5) (xs := [.int .i64 8, .int .i64 num, .string (bs text), .slice na names.length nc, .slice ia items.length ic]) (.slice na names.length nc) ?_ ?_ ?_ ?_ ?_ ?_
      ·rfl
      ·rfl
      ·rfl
      ·exact fun w hw => hw
      ·rfl
      refine wXP ?_
      refine BlindW.len (x := .tmp 121) (T := 55) (p := na) (n := names.length) (c := nc) rfl rfl rfl Tryz.underlying55 ?_ ?_
      ·rfl
      refine wXP ?_
      refine Qwe 4 (Qom names) names.length (Qol names) b2 c2 (by omega) hc2 rfl fun ys => ?_
      refine wXP ?_
      refine BlindW.len (x := .tmp 118) (T := 55) (p := some ⟨b2, 0, none⟩) (n := (Lib.compact (Qom names)).length) (c := c2) rfl rfl rfl Tryz.underlying55 ?_ ?_
      ·rfl
      refine wXP ?_
      have hcs := Qps names
      refine Qa0 (fun hcp => ?_) (fun hcp => ?_)
      ·-- fun w hw => hw.2.1: why the kind holds
       refine wXP ?_
       refine ReadC.one (T := 55) (x := .tmp 126) (a := some ⟨cb, 0, none⟩) (q := 3) (k := 5) (xs := [.int .i64 8, .int .i64 num, .string (bs text), .slice na names.length nc, .slice ia items.length ic]) (.slice na names.length nc) ?_ ?_ ?_ ?_ ?_ ?_
       ·rfl
       ·rfl
       ·rfl
       ·exact fun w hw => hw
       ·rfl
       refine wXP ?_
       refine Qao (Qyf (fun s => !iiB s) 114 #[] (fun _ => True) na nc names (fun p hp H _ => Qrv p (hnw p hp) H) hna (by omega) _ (fun w hw => ⟨hw.1.1, trivial⟩)) ?_
       refine wXP ?_
       exact Qac (by
        have hmx : -Go.Core.maxI <= 0 /\ (0 : Int) <= Go.Core.maxI := by decide
        have hl : names.length = items.length := by omega
        have hnd : names.Nodup := hcs.1 (by unfold Qom at hcp; omega)
        have hal : (!names.any fun s => !iiB s) = names.all iiB := by rw [List.all_eq_not_any_not]
        rw [hal]
        unfold Go.Core.plainS
        simp [hl, hnd, hu, hmx, hf])
      ·-- fun w hw => hw.2.1: why the kind holds
       refine wXP ?_
       exact Qac (by
        have hnd : ¬ names.Nodup := fun h => hcp (by have := hcs.2 h; unfold Qom; omega)
        unfold Go.Core.plainS
        simp [hnd])
     ·-- fun w hw => hw.2.1: why the kind holds
      refine wXP ?_
      exact Qac (by
       have : ¬ names.length = items.length := by omega
       unfold Go.Core.plainS; simp [this])
  | false =>
   refine .inr ⟨by clear hes; revert p0 p13 p5 p10 p14 p15; decide +kernel, plN p0 p13 p5 p10 p14 p15 true, by simp [plN], ?_⟩
   intro i hi
   have h17 : i < 17 := by
    obtain ⟨_, o, ho, _⟩ := mem_ready.1 hi
    exact (Zjz.1 ho).1
   obtain rfl | rfl | rfl | rfl | rfl | rfl | rfl | rfl | rfl | rfl | rfl | rfl | rfl | rfl | rfl | rfl | rfl : i = 0 \/ i = 1 \/ i = 2 \/ i = 3 \/ i = 4 \/ i = 5 \/ i = 6 \/ i = 7 \/ i = 8 \/ i = 9 \/ i = 10 \/ i = 11 \/ i = 12 \/ i = 13 \/ i = 14 \/ i = 15 \/ i = 16 := by omega
   ·obtain ⟨rfl, rfl, rfl, rfl, rfl⟩ : p0 = false /\ p5 = false /\ p10 = false /\ p14 = false /\ p15 = false := by
     clear hes
     revert p0 p13 p5 p10 p14 p15
     decide +kernel
    (conv => whnf)
    refine EffW.mkMap rfl fun b' => ?_
    (conv => whnf)
    exact ⟨true, p13, false, false, false, false, false, b', 0, #[], by cases p13 <;> rfl, by cases p13 <;> rfl, rfl, rfl, rfl, MapIs.nil.congr fun k => by simp [Qa9]⟩
   ·exfalso
    clear hes
    revert p0 p13 p5 p10 p14 p15
    decide +kernel
   ·exfalso
    clear hes
    revert p0 p13 p5 p10 p14 p15
    decide +kernel
   ·exfalso
    clear hes
    revert p0 p13 p5 p10 p14 p15
    decide +kernel
   ·exfalso
    clear hes
    revert p0 p13 p5 p10 p14 p15
    decide +kernel
   ·obtain ⟨rfl, rfl, rfl⟩ : p0 = true /\ p5 = false /\ p15 = false := by
     clear hes
     revert p0 p13 p5 p10 p14 p15
     decide +kernel
    (conv => whnf)
    refine EffW.putMap 2 rfl Tryz.underlying125 Tryz.underlying3 rfl rfl rfl rfl (hes.none (by simp [Qa9])) ?_
    (conv => whnf)
    exact ⟨true, p13, true, p10, p14, false, false, b, cl + 1, _, by clear hes hi; revert p13 p10 p14; decide, by cases p13 <;> cases p10 <;> cases p14 <;> rfl, rfl, rfl, rfl, (hes.put (by simp [Qa9]) _ cl).congr fun k => by
     unfold Qa9
     by_cases hk : k = 4
     ·subst hk; simp
     ·simp [hk]⟩
   ·exfalso
    clear hes
    revert p0 p13 p5 p10 p14 p15
    decide +kernel
   ·exfalso
    clear hes
    revert p0 p13 p5 p10 p14 p15
    decide +kernel
   ·exfalso
    clear hes
    revert p0 p13 p5 p10 p14 p15
    decide +kernel
   ·exfalso
    clear hes
    revert p0 p13 p5 p10 p14 p15
    decide +kernel
   ·obtain ⟨rfl, rfl, rfl⟩ : p0 = true /\ p10 = false /\ p15 = false := by
     clear hes
     revert p0 p13 p5 p10 p14 p15
     decide +kernel
    (conv => whnf)
    refine EffW.putMap 2 rfl Tryz.underlying125 Tryz.underlying3 rfl rfl rfl rfl (hes.none (by simp [Qa9])) ?_
    (conv => whnf)
    exact ⟨true, p13, p5, true, p14, false, false, b, cl + 1, _, by clear hes hi; revert p13 p5 p14; decide, by cases p13 <;> cases p5 <;> cases p14 <;> rfl, rfl, rfl, rfl, (hes.put (by simp [Qa9]) _ cl).congr fun k => by
     unfold Qa9
     by_cases hk : k = 5
     ·subst hk; simp
     ·simp [hk]⟩
   ·exfalso
    clear hes
    revert p0 p13 p5 p10 p14 p15
    decide +kernel
   ·exfalso
    clear hes
    revert p0 p13 p5 p10 p14 p15
    decide +kernel
   ·obtain ⟨rfl, rfl, rfl⟩ : p13 = false /\ p14 = false /\ p15 = false := by
     clear hes
     revert p0 p13 p5 p10 p14 p15
     decide +kernel
    (conv => whnf)
    refine Qao (Qwb text htl _) ?_
    (conv => whnf)
    exact ⟨p0, true, p5, p10, false, false, false, b, cl, es, by clear hes hi; revert p0 p5 p10; decide, by cases p0 <;> cases p5 <;> cases p10 <;> rfl, rfl, rfl, rfl, hes⟩
   ·obtain ⟨rfl, rfl, rfl, rfl⟩ : p0 = true /\ p14 = false /\ p15 = false /\ p13 = true := by
     clear hes
     revert p0 p13 p5 p10 p14 p15
     decide +kernel
    (conv => whnf)
    refine EffW.putMap 2 rfl Tryz.underlying125 Tryz.underlying3 rfl rfl rfl rfl (hes.none (by simp [Qa9])) ?_
    (conv => whnf)
    exact ⟨true, true, p5, p10, true, false, false, b, cl + 1, _, by clear hes hi; revert p5 p10; decide, by cases p5 <;> cases p10 <;> rfl, rfl, rfl, rfl, (hes.put (by simp [Qa9]) _ cl).congr fun k => by
     unfold Qa9
     by_cases hk : k = 8
     ·subst hk; simp
     ·simp [hk]⟩
   ·obtain ⟨rfl, rfl, rfl, rfl, rfl, rfl⟩ : p0 = true /\ p13 = true /\ p5 = true /\ p10 = true /\ p14 = true /\ p15 = false := by
     clear hes
     revert p0 p13 p5 p10 p14 p15
     decide +kernel
    (conv => whnf)
    exact ⟨true, true, true, true, true, true, false, b, cl, es, rfl, rfl, rfl, rfl, rfl, hes⟩
   ·obtain ⟨rfl, rfl, rfl, rfl, rfl, rfl⟩ : p0 = true /\ p13 = true /\ p5 = true /\ p10 = true /\ p14 = true /\ p15 = true := by
     clear hes
     revert p0 p13 p5 p10 p14 p15
     decide +kernel
    (conv => whnf)
    exact ⟨true, true, true, true, true, true, true, b, cl, es, rfl, rfl, rfl, rfl, rfl, hes⟩
 ·refine wX ?_
  refine ReadC.one (T := 9) (x := .tmp 8) (a := some ⟨cb, 0, none⟩) (q := 2) (k := 5) (xs := [.int .i64 kind, .int .i64 num, .string (bs text), .slice na names.length nc, .slice ia items.length ic]) (.string (bs text)) ?_ ?_ ?_ ?_ ?_ ?_
  ·rfl
  ·rfl
  ·rfl
  ·exact fun w hw => hw
  ·rfl
  refine wX ?_
  refine BlindW.lenS (x := .tmp 9) (T := 9) (b := bs text) rfl rfl rfl Tryz.underlying9 ?_ ?_
  ·rfl
  rw [Qal]
  refine wX ?_
  refine ReadC.one (T := 9) (x := .tmp 12) (a := some ⟨cb, 0, none⟩) (q := 2) (k := 5) (xs := [.int .i64 kind, .int .i64 num, .string (bs text), .slice na names.length nc, .slice ia items.length ic]) (.string (bs text)) ?_ ?_ ?_ ?_ ?_ ?_
  ·rfl
  ·rfl
  ·rfl
  ·exact fun w hw => hw
  ·rfl
  refine wX ?_
  refine BlindW.lenS (x := .tmp 13) (T := 9) (b := bs text) rfl rfl rfl Tryz.underlying9 ?_ ?_
  ·rfl
  rw [Qal]
  refine wX ?_
  refine ReadC.one (T := 9) (x := .tmp 16) (a := some ⟨cb, 0, none⟩) (q := 2) (k := 5) (xs := [.int .i64 kind, .int .i64 num, .string (bs text), .slice na names.length nc, .slice ia items.length ic]) (.string (bs text)) ?_ ?_ ?_ ?_ ?_ ?_
  ·rfl
  ·rfl
  ·rfl
  ·exact fun w hw => hw
  ·rfl
  refine wX ?_
  exact ⟨false, false, false, false, false, false, false, 0, 0, #[], rfl, rfl, rfl, rfl, rfl, MapIs.nil.congr fun k => by simp [Qa9]⟩
end Go.Proofs.YtgogonnnojcioaaGreatDoor
namespace Go.AX
def Qiw : List Ent -> List Ent -> List Ent
 | [], _ => []
 | h :: H, [] => h :: Qiw H []
 | h :: H, .fact _ :: G => h :: Qiw H G
 | h :: H, .dead :: G => h :: Qiw H G
 | .fact F :: H, _ :: G => .fact F :: Qiw H G
 | _ :: H, _ :: G => .dead :: Qiw H G
theorem Qkq : ∀ H G : List Ent, (Qiw H G).length = H.length
 | [], _ => rfl
 | _ :: H, [] => by simp [Qiw, Qkq H []]
 | h :: H, g :: G => by cases g <;> cases h <;> simp [Qiw, Qkq H G]
theorem Qgi : ∀ (H G : List Ent) (i : Nat) (e : Ent), (Qiw H G)[i]? = some e -> H[i]? = some e \/ e = .dead
 | [], _, _, _, h => by cases h
 | h :: H, [], 0, e, he => .inl he
 | h :: H, [], i + 1, e, he => Qgi H [] i e he
 | h :: H, g :: G, 0, e, he => by cases g <;> cases h <;> first | exact .inl he | exact .inr (Zzz he).symm
 | h :: H, g :: G, i + 1, e, he => Qgi H G i e (by cases g <;> cases h <;> exact he)
theorem Ql8 : ∀ (H G : List Ent) (i : Nat) (e f : Ent) (ρ : List Loc) (b : Nat), entB ρ i e b -> f.isApp = true -> G[i]? = some e -> (Qiw H G)[i]? = some f -> False
 | [], _, _, _, _, _, _, _, _, _, h => by cases h
 | h :: H, [], _, _, _, _, _, _, _, h1, _ => by cases h1
 | h :: H, g :: G, 0, e, f, ρ, b, he, hf, h1, h2 => by
  obtain rfl := Zzz h1
  cases g <;> first | (cases he; done) | (cases h <;> (obtain rfl := Zzz h2; cases hf))
 | h :: H, g :: G, i + 1, e, f, ρ, b, he, hf, h1, h2 => Ql8 H G i e f (ρ.drop 1) b (by
   revert he
   cases e <;> simp [entB]) hf h1 (by cases g <;> cases h <;> exact h2)
def QA6 (R : World -> Prop) (h g : Ent) : Prop := g = .dead \/ g = h \/ ∃ Γ, g = .fact Γ /\ ∀ w, R w -> Γ w
def SealR (R : World -> Prop) : List Ent -> List Ent -> Prop
 | [], [] => True
 | h :: H, g :: G => QA6 R h g /\ SealR R H G
 | _, _ => False
theorem SealR.get {R : World -> Prop} : ∀ {H G : List Ent}, SealR R H G -> G.length = H.length /\ ∀ (i : Nat) (g : Ent), G[i]? = some g -> ∃ h, H[i]? = some h /\ QA6 R h g
 | [], [], _ => ⟨rfl, fun _ _ h => by cases h⟩
 | h :: H, g :: G, hs => by
  obtain ⟨h1, h2⟩ := SealR.get hs.2
  refine ⟨by simp [h1], fun i e he => ?_⟩
  cases i with
  | zero => obtain rfl := Zzz he; exact ⟨h, rfl, hs.1⟩
  | succ i => exact h2 i e he
 | [], _ :: _, h => h.elim
 | _ :: _, [], h => h.elim
theorem Qkf {H G : List Ent} (h : SealR (Qax (Qiw H G)) H G) : TurnS H G := by
 obtain ⟨hl, hg⟩ := h.get
 refine ⟨hl, fun ρ S w hs => ?_⟩
 have h1 := hs.dull (Qkq H G) (Qgi H G)
 have hno : ∀ (i : Nat) (e : Ent) (b : Nat), G[i]? = some e -> entB ρ i e b -> H[i]? = some e := fun i e b he hb => by
  obtain ⟨f, hf, h2⟩ := hg i e he
  rcases h2 with rfl | rfl | ⟨Γ, rfl, _⟩
  ·cases hb
  ·exact hf
  ·cases hb
 have hmb : ∀ b, mb ρ G b -> mb ρ H b := fun b ⟨i, e, he, hb⟩ => ⟨i, e, hno i e b he hb, hb⟩
 refine ⟨fun b => S b \/ appB (Qiw H G) b, ⟨by rw [hs.len, hl], fun i e he => ?_, fun i j e f b he hf hb hc => hs.inj i j e f b (hno i e b he hb) (hno j f b hf hc) hb hc, fun b ⟨i, e, he, hb⟩ hS => ?_, fun b hb => ?_⟩, ⟨[], by simp⟩, rfl, rfl, rfl, Zcz _, fun _ _ _ => rfl, fun b hb => ?_, fun b hb => .inl (hmb b hb)⟩
 ·obtain ⟨f, hf, h2⟩ := hg i e he
  rcases h2 with rfl | rfl | ⟨Γ, rfl, hΓ⟩
  ·trivial
  ·exact (hs.ent i _ hf).grow fun b hb => .inl hb
  ·exact h1.imm.mono hΓ
 ·have a1 := hno i e b he hb
  rcases hS with hS | hS
  ·exact hs.out b ⟨i, _, a1, hb⟩ hS
  ·obtain ⟨j, f, hf, hfa, hfb⟩ := Qj6 hS
   rcases Qgi H G j f hf with hH | rfl
   ·obtain rfl := hs.inj i j _ f b a1 hH hb (hfb ρ j)
    exact Ql8 H G i e f ρ b hb hfa he hf
   ·cases hfa
 ·rcases hb with hb | hb
  ·exact hs.low b hb
  ·obtain ⟨i, e, he, heb⟩ := Qn4 (ρ := ρ) hb
   exact h1.blk_lt he heb
 ·rcases hb with hb | hb
  ·exact .inl hb
  ·obtain ⟨j, f, hf, hfa, hfb⟩ := Qj6 hb
   rcases Qgi H G j f hf with hH | rfl
   ·exact .inr (.inl ⟨j, f, hH, hfb _ _⟩)
   ·cases hfa
theorem Qog (H : List Ent) : TurnS H H := ⟨rfl, fun ρ S w hs => ⟨S, hs, Ev.refl _ _ _ _⟩⟩
end Go.AX
namespace Go.Proofs.YtgogonnnojcioaaGreatDoor
open Go.AX Go.RowKit Go.Core
set_option maxRecDepth 20000
def Small (l : List Qaj) : Prop := l.length <= 2000 /\ ∀ p ∈ l, p.c.names.length <= 2000 /\ p.c.items.length <= 2000
def GrR (l : List Cell) (v : Value) (G : World -> Prop) : Prop := ∃ (oa : Option Addr) (oc : Nat) (m : List Qaj), v = .slice oa m.length oc /\ (oa = none -> m = []) /\ m.map (·.c) = l /\ (∀ p ∈ m, Qa5 p) /\ ∀ w, G w -> GrF oa m w
structure DSt where
 i : Nat
 oa : Option Addr
 oc : Nat
 m : List Qaj
def DInv (l : List Qaj) : DSt -> Prop := fun ⟨i, oa, oc, m⟩ => i <= l.length /\ m.map (·.c) = (l.take i).map (·.c) /\ (∀ p ∈ m, Qa5 p) /\ (oa = none -> m = []) /\ m.length <= oc
theorem DInv.len {l : List Qaj} {i oc : Nat} {oa : Option Addr} {m : List Qaj} (h : DInv l ⟨i, oa, oc, m⟩) : m.length = i := by
 have h1 := congrArg List.length h.2.1
 simp only [List.length_map, List.length_take] at h1
 have := h.1
 omega
theorem Qgr (l : List Qaj) : (grC l).length = l.length * 5 := by
 unfold grC
 induction l with
 | nil => rfl
 | cons p l ih => rw [List.flatMap_cons, Zhz, ih, Znz]; show 5 + _ = _; omega
theorem Qf1 (l : List Qaj) (p : Qaj) : grC (l ++ [p]) = grC l ++ Qa2 p := by unfold grC; rw [List.flatMap_append]; simp
end Go.Proofs.YtgogonnnojcioaaGreatDoor
namespace Go.Core
theorem Qv4 (n : Nat) (c : Cell) : (c.items.any fun i => decide (i < 0) || decide (i ≥ (n : Int))) = !Qei n c := by
 unfold Qei
 rw [List.all_eq_not_any_not, Bool.not_not]
 exact congrArg (fun f => c.items.any f) (funext fun i => by rw [Zsz]; simp)
end Go.Core
namespace Go.Proofs.YtgogonnnojcioaaGreatDoor
open Go.AX Go.RowKit Go.Core Go.Scan
set_option maxRecDepth 20000
theorem Qyz (p : Qaj) (hp : Qa5 p) (hs : p.c.names.length <= 40000 /\ p.c.items.length <= 40000) : ∀ H, (∀ w, Qax H w -> Qbn p w) -> SpecH Tryz.prog 90 (pvs [Qpv p]) H (Ret (.bool (Go.Core.plainS p.c)) H) := by
 obtain ⟨⟨kind, num, text, names, items⟩, na, nc, ia, ic⟩ := p
 exact Qws kind num text names items na nc ia ic hp.na hp.ia hs.1 hs.2 hp.nw hp.tl
theorem QBj (x : Int) (b : Nat) (a : Option Addr) (n c : Nat) : ∀ H, (∀ w, Qax H w -> SlAt (some ⟨b, 0, none⟩) 1 [.slice a n c] w) -> SpecH Tryz.prog 91 (pvs [.int .i64 x, .pointer (some ⟨b, 0, none⟩)]) H (Ret (.bool (decide (x < 0) || decide (x ≥ (n : Int)))) H) := by
 refine Qem hm Tryz.func91 (by kernel_rfl) rfl rfl ?_
 refine wX ?_
 refine Qab (fun h1 => ?_) (fun h1 => ?_)
 ·refine wX ?_
  exact Qac (by simp [h1])
 ·refine wX ?_
  refine LdN.one (a := some ⟨b, 0, none⟩) (q := 0) (.slice a n c) rfl (fun w hw => hw.1) rfl ?_
  refine wX ?_
  exact Qac (by simp [h1])
def errI (b : Bool) : Value := .int .i64 (if b then 0 else 1)
set_option maxHeartbeats 4000000 in
theorem Qwh (a : Option Addr) (ca : Nat) (l : List Qaj) (ha : a = none -> l = []) (hs : l.length <= 2000 /\ ∀ p ∈ l, p.c.names.length <= 40000 /\ p.c.items.length <= 40000) (hok : ∀ p ∈ l, Qa5 p) :
  ∀ H, (∀ w, Qax H w -> GrF a l w) -> ∃ b : Bool, (b = true ↔ Qbe (l.map (·.c))) /\ SpecH Tryz.prog 65 (pvs [.slice a l.length ca]) H (Ret (errI b) H) := by
 intro H hH
 obtain ⟨b, hb⟩ : ∃ b : Bool, b = true ↔ Qbe (l.map (·.c)) := by
  by_cases h : Qbe (l.map (·.c))
  ·exact ⟨true, fun _ => h, fun _ => rfl⟩
  ·exact ⟨false, (fun h => by cases h), fun h2 => absurd h2 h⟩
 refine ⟨b, hb, ?_⟩
 obtain ⟨hl, hsm⟩ := hs
 have hml : (l.map (·.c)).length = l.length := by simp
 have hno : ¬ Qbe (l.map (·.c)) -> (1 : Int) = if b then 0 else 1 := fun h => by
  cases b with
  | false => rfl
  | true => exact absurd (hb.1 rfl) h
 refine Qem hm Tryz.func65 (by kernel_rfl) rfl rfl ?_ H hH
 refine wXB ?_
 refine BoxN.known [.slice a l.length ca] rfl fun gb => ?_
 refine wXB ?_
 refine LdN.one (a := some ⟨gb, 0, none⟩) (q := 0) (.slice a l.length ca) rfl (fun w hw => hw.2.1) rfl ?_
 refine wXB ?_
 refine Qab (fun h0 => ?_) (fun h0 => ?_)
 ·refine wXB ?_
  exact Qi0 (hno fun h => by have := h.1; omega)
 refine wXB ?_
 refine LdN.one (a := some ⟨gb, 0, none⟩) (q := 0) (.slice a l.length ca) rfl (fun w hw => hw.2.1) rfl ?_
 refine wXB ?_
 refine Qdu Nat (fun i => i <= l.length /\ ∀ p ∈ l.take i, Qbi l.length p.c = true) (fun i => mkS Tryz.f65.ntmps 0 [(1, .c (.v (.pointer (some ⟨gb, 0, none⟩)))), (10, .c (.v (.slice a l.length ca))), (11, .c (.v (.int .i64 (l.length : Int)))), (12, .c (.v (.int .i64 (i : Int))))]) (fun i => l.length - i) rfl (fun _ => rfl) 0 ⟨Zkz _, by simp⟩ ?_ ?_
 ·exact wKK
 intro i ⟨hi, hc⟩
 refine wXB ?_
 refine Qab (fun h1 => ?_) (fun h1 => ?_)
 ·obtain ⟨p, hp⟩ : ∃ p, l[i]? = some p := ⟨_, Zbz (by omega)⟩
  have hpm := Ziz hp
  have hpo := hok p hpm
  have hsa : a.isSome = true := by
   cases a with
   | none => rw [ha rfl] at hp; cases hp
   | some b => rfl
  have hbad : (Go.Core.plainS p.c && Qei l.length p.c) = false -> ¬ Qbe (l.map (·.c)) := fun h hv => by
   have := hv.2.1 p.c (Zoz.2 ⟨p, hpm, rfl⟩)
   rw [hml, <- Qlo, h] at this
   cases this
  refine wXB ?_
  refine Nd.mk ⟨hsa, by omega, by omega⟩ ?_
  refine wXB ?_
  refine LdN.agg (Qa2 p) rfl (fun w hw => hw.1.1) rfl (fun k hk => by rw [Zdz]; exact Qau l i k hk hp) ?_
  refine wXB ?_
  refine BoxN.known [.int .i64 0, .int .i64 0, .string { data := #[] }, .slice none 0 0, .slice none 0 0] rfl fun cb => ?_
  refine wXB ?_
  refine EffW.appTo (i := 2) (q := 0) (ys := Qa2 p) (Qa2 p) 5 rfl rfl rfl rfl rfl rfl rfl (Zaz rfl) rfl rfl ?_
  refine wXB ?_
  refine LdN.agg (a := some ⟨cb, 0, none⟩) (q := 0) (Qa2 p) rfl (fun w hw => hw.2.2.1) rfl (fun k hk => by rw [Nat.zero_add]) ?_
  refine wXB ?_
  refine Qao (Qyz p hpo (hsm p hpm) _ (fun w hw => hw.1.2 p hpm)) ?_
  cases hpl : Go.Core.plainS p.c with
  | false =>
   refine wXB ?_
   exact Qi0 (hno (hbad (by rw [hpl]; rfl)))
  | true =>
  refine wXB ?_
  refine LdN.one (a := some ⟨cb, 0, none⟩) (q := 4) (.slice p.ia p.c.items.length p.ic) rfl (fun w hw => hw.2.2.1) rfl ?_
  refine wXB ?_
  refine SpecH.args (args' := pvs [.slice p.ia p.c.items.length p.ic, .func (.func 91) #[] #[.pointer (some ⟨gb, 0, none⟩)]]) (by simp [pvs, opvs, opv, nth, Qat]; try rfl) ?_
  refine Qao (Qyg (fun x => decide (x < 0) || decide (x ≥ (l.length : Int))) 91 #[.pointer (some ⟨gb, 0, none⟩)] (SlAt (some ⟨gb, 0, none⟩) 1 [.slice a l.length ca]) p.ia p.ic p.c.items (fun x _ H hH => QBj x gb a l.length ca H hH) hpo.ia hpo.il _ (fun w hw => ⟨(hw.1.2 p hpm).2, hw.2.1⟩)) ?_
  rw [Qv4]
  cases hrg : Qei l.length p.c with
  | false =>
   refine wXB ?_
   exact Qi0 (hno (hbad (by rw [hpl, hrg]; rfl)))
  | true =>
  refine wXB ?_
  refine ⟨i + 1, ⟨by omega, Qf9 hc hp (by rw [<- Qlo, hpl, hrg]; rfl)⟩, by omega, ?_, wHH⟩
  exact wKK
 have hil : i = l.length := by omega
 subst hil
 rw [Ztz] at hc
 clear h1
 refine wXB ?_
 refine LdN.one (a := some ⟨gb, 0, none⟩) (q := 0) (.slice a l.length ca) rfl (fun w hw => hw.2.1) rfl ?_
 refine wXB ?_
 refine Qdu Nat (fun i => i <= l.length /\ ∀ p ∈ l.take i, p.c.kind = 7 -> ¬ Qtf (l.map (·.c)) p.c.items) (fun i => mkS Tryz.f65.ntmps 0 [(1, .c (.v (.pointer (some ⟨gb, 0, none⟩)))), (26, .c (.v (.slice a l.length ca))), (27, .c (.v (.int .i64 (l.length : Int)))), (28, .c (.v (.int .i64 (i : Int))))]) (fun i => l.length - i) rfl (fun _ => rfl) 0 ⟨Zkz _, by simp⟩ ?_ ?_
 ·exact wKK
 intro i ⟨hi, ht⟩
 refine wXB ?_
 refine Qab (fun h1 => ?_) (fun h1 => ?_)
 ·obtain ⟨p, hp⟩ : ∃ p, l[i]? = some p := ⟨_, Zbz (by omega)⟩
  have hpm := Ziz hp
  have hpo := hok p hpm
  have hsa : a.isSome = true := by
   cases a with
   | none => rw [ha rfl] at hp; cases hp
   | some b => rfl
  refine wXB ?_
  refine Nd.mk ⟨hsa, by omega, by omega⟩ ?_
  refine wXB ?_
  refine LdN.agg (Qa2 p) rfl (fun w hw => hw.1.1) rfl (fun k hk => by rw [Zdz]; exact Qau l i k hk hp) ?_
  refine wXB ?_
  refine BoxN.known [.int .i64 0, .int .i64 0, .string { data := #[] }, .slice none 0 0, .slice none 0 0] rfl fun cb => ?_
  refine wXB ?_
  refine EffW.appTo (i := 2) (q := 0) (ys := Qa2 p) (Qa2 p) 5 rfl rfl rfl rfl rfl rfl rfl (Zaz rfl) rfl rfl ?_
  refine wXB ?_
  refine LdN.one (a := some ⟨cb, 0, none⟩) (q := 0) (.int .i64 p.c.kind) rfl (fun w hw => hw.2.2.1) rfl ?_
  refine wXB ?_
  refine Qa0 (fun h7 => ?_) (fun h7 => ?_)
  ·refine wXB ?_
   refine LdN.one (a := some ⟨gb, 0, none⟩) (q := 0) (.slice a l.length ca) rfl (fun w hw => hw.2.1) rfl ?_
   refine wXB ?_
   refine LdN.agg (a := some ⟨cb, 0, none⟩) (q := 0) (Qa2 p) rfl (fun w hw => hw.2.2.1) rfl (fun k hk => by rw [Nat.zero_add]) ?_
   refine wXB ?_
   obtain ⟨t, ht1, ht2⟩ := Qyo a ca l p ha (by omega) hpo (Qsd (hc p hpm)) [.fact (GrF a l), .app 23 1 [.slice a l.length ca] (some ⟨gb, 0, none⟩) 1 1, .app 57 5 (Qa2 p) (some ⟨cb, 0, none⟩) 1 1] (fun w hw => ⟨hw.1, hw.1.2 p hpm⟩)
   refine Qao ht2 ?_
   cases ht3 : t with
   | true =>
    refine wXB ?_
    exact Qi0 (hno fun h => h.2.2 p.c (Zoz.2 ⟨p, hpm, rfl⟩) h7 (ht1.1 ht3))
   | false =>
   refine wXB ?_
   refine ⟨i + 1, ⟨by omega, Qf9 ht hp (fun _ h => by rw [ht1.2 h] at ht3; cases ht3)⟩, by omega, ?_, wHH⟩
   exact wKK
  ·refine wXB ?_
   refine ⟨i + 1, ⟨by omega, Qf9 ht hp (fun h => absurd h h7)⟩, by omega, ?_, wHH⟩
   exact wKK
 ·have hil : i = l.length := by omega
  subst hil
  rw [Ztz] at ht
  refine wXB ?_
  have hbt : b = true := hb.2 ⟨by omega, fun c hcm => by
    obtain ⟨p, hp, rfl⟩ := Zoz.1 hcm
    rw [hml]
    exact hc p hp, fun c hcm => by
    obtain ⟨p, hp, rfl⟩ := Zoz.1 hcm
    exact ht p hp⟩
  exact Qi0 (by rw [hbt]; rfl)
theorem Qwi (a : Option Addr) (ca : Nat) (l : List Qaj) (ha : a = none -> l = []) (hs : Small l) (hok : ∀ p ∈ l, Qa5 p) :
  ∀ H, (∀ w, Qax H w -> GrF a l w) -> ∃ b : Bool, (b = true ↔ Qbe (l.map (·.c))) /\ SpecH Tryz.prog 65 (pvs [.slice a l.length ca]) H (Ret (errI b) H) :=
 Qwh a ca l ha ⟨hs.1, fun p hp => ⟨Zwz (hs.2 p hp).1 (by decide), Zwz (hs.2 p hp).2 (by decide)⟩⟩ hok
end Go.Proofs.YtgogonnnojcioaaGreatDoor
namespace Go.Core
def AskP (g : List Cell) (cs : List Int) : Prop := Qbe g /\ ∀ x ∈ cs, 0 <= x /\ x < (g.length : Int)
end Go.Core
namespace Go.Proofs.YtgogonnnojcioaaGreatDoor
open Go.AX Go.RowKit Go.Core Go.Scan
set_option maxRecDepth 20000
theorem Qz8 (x : Int) (b : Nat) (a : Option Addr) (n c : Nat) : ∀ H, (∀ w, Qax H w -> SlAt (some ⟨b, 0, none⟩) 1 [.slice a n c] w) -> SpecH Tryz.prog 80 (pvs [.int .i64 x, .pointer (some ⟨b, 0, none⟩)]) H (Ret (.bool (decide (x < 0) || decide (x ≥ (n : Int)))) H) := by
 refine Qem hm Tryz.func80 (by kernel_rfl) rfl rfl ?_
 refine wX ?_
 refine Qab (fun h1 => ?_) (fun h1 => ?_)
 ·refine wX ?_
  exact Qac (by simp [h1])
 ·refine wX ?_
  refine LdN.one (a := some ⟨b, 0, none⟩) (q := 0) (.slice a n c) rfl (fun w hw => hw.1) rfl ?_
  refine wX ?_
  exact Qac (by simp [h1])
set_option maxHeartbeats 1000000 in
theorem Qzk (a : Option Addr) (ca : Nat) (l : List Qaj) (ha : a = none -> l = []) (hs : Small l) (hok : ∀ p ∈ l, Qa5 p) (sa : Option Addr) (sc : Nat) (cs : List Int) (hsa : sa = none -> cs = []) (hcl : cs.length <= 2000) :
  ∀ H, (∀ w, Qax H w -> GrF a l w /\ SlAt sa (cs.length * 1) (iC cs) w) -> ∃ b : Bool, (b = true ↔ AskP (l.map (·.c)) cs) /\ SpecH Tryz.prog 53 (pvs [.slice a l.length ca, .slice sa cs.length sc]) H (Ret (errI b) H) := by
 intro H hH
 obtain ⟨b, hb⟩ : ∃ b : Bool, b = true ↔ AskP (l.map (·.c)) cs := by
  by_cases h : AskP (l.map (·.c)) cs
  ·exact ⟨true, fun _ => h, fun _ => rfl⟩
  ·exact ⟨false, (fun h => by cases h), fun h2 => absurd h2 h⟩
 refine ⟨b, hb, ?_⟩
 refine Qem hm Tryz.func53 (by kernel_rfl) rfl rfl ?_ H hH
 refine wXB ?_
 refine BoxN.known [.slice a l.length ca] rfl fun gb => ?_
 refine wXB ?_
 refine SpecH.args (args' := pvs [.slice sa cs.length sc, .func (.func 80) #[] #[.pointer (some ⟨gb, 0, none⟩)]]) (by simp [pvs, opvs, opv, nth, Qat]; try rfl) ?_
 refine Qao (Qyg (fun x => decide (x < 0) || decide (x ≥ (l.length : Int))) 80 #[.pointer (some ⟨gb, 0, none⟩)] (SlAt (some ⟨gb, 0, none⟩) 1 [.slice a l.length ca]) sa sc cs (fun x _ H hH => Qz8 x gb a l.length ca H hH) hsa (by omega) _ (fun w hw => ⟨hw.1.2, hw.2.1⟩)) ?_
 cases hany : cs.any fun x => decide (x < 0) || decide (x ≥ (l.length : Int)) with
 | true =>
  refine wXB ?_
  obtain ⟨x, hx, hx2⟩ := List.any_eq_true.1 hany
  refine Qi0 ?_
  cases b with
  | false => rfl
  | true =>
   have h1 := (hb.1 rfl).2 x hx
   simp at hx2 h1
   omega
 | false =>
  refine wXB ?_
  refine LdN.one (a := some ⟨gb, 0, none⟩) (q := 0) (.slice a l.length ca) rfl (fun w hw => hw.2.1) rfl ?_
  refine wXB ?_
  obtain ⟨t, ht1, ht2⟩ := Qwi a ca l ha hs hok [.fact (fun w => GrF a l w /\ SlAt sa (cs.length * 1) (iC cs) w), .app 23 1 [.slice a l.length ca] (some ⟨gb, 0, none⟩) 1 1] (fun w hw => hw.1.1)
  have hbt : b = t := by
   rw [Zsz, hb, ht1]
   refine ⟨fun h => h.1, fun h => ⟨h, fun x hx => ?_⟩⟩
   have := List.any_eq_false.1 hany x hx
   simp at this ⊢
   omega
  refine Qao ht2 ?_
  rw [hbt]
  refine wXB ?_
  rfl
variable (gv : Value) (F : World -> Prop) (way : List Int) (j : BSt)
end Go.Proofs.YtgogonnnojcioaaGreatDoor
namespace Go.Core
section
variable {M : Nat} {leafT : Cell -> List UInt8} {g : List Cell}
end
end Go.Core
namespace Go.Core
theorem Qzu {n : Nat} {way : List Int} (hn : way.Nodup) (hr : ∀ x ∈ way, 0 <= x /\ x < (n : Int)) : way.length <= n := by
 have h1 : (way.map Int.toNat).Nodup := (List.pairwise_map.2 (hn.imp_of_mem fun {a b} ha hb hab => by
  have := hr a ha
  have := hr b hb
  omega))
 have := Go.AX.nodup_len (b := List.range n) h1 fun x hx => by
  obtain ⟨y, hy, rfl⟩ := Zoz.1 hx
  have := hr y hy
  exact List.mem_range.2 (by omega)
 simpa using this
theorem Qta {n : Nat} {c : Cell} (h : Qbi n c = true) : 0 <= c.kind /\ c.kind <= 8 := by
 unfold Qbi at h
 simp only [ZAz, Bool.not_eq_true', Bool.or_eq_false_iff, decide_eq_false_iff_not] at h
 have := h.1.2.1.1.1
 omega
theorem Qmn {n : Nat} {c : Cell} (h : Qbi n c = true) : c.text.length <= 2000 := by
 have hk := Qta h
 unfold Qbi at h
 simp only [ZAz] at h
 have h2 := h.2
 split at h2
 ·have := h2
  simp only [ZAz, ZBz] at this
  rw [this.1.1]; simp
 split at h2
 ·simpa using h2
 split at h2
 ·have : c.text.length <= 40 := by simpa using h2
  omega
 split at h2
 ·simp only [ZAz, ZBz] at h2
  rw [h2.1]; simp
 split at h2
 ·simp only [ZAz] at h2
  have := h2.1.1
  unfold Qpq Qfq at this
  simp only [ZAz, ZBz] at this
  omega
 ·have : c.text = [] := by simpa using h2
  rw [this]; simp
end Go.Core
namespace Go.Core
theorem QAm {g : List Cell} {a b : Int} (t : To g a b) : ∀ h, FinH g h a -> FinH g h b := by
 induction t with
 | refl => exact fun _ h => h
 | step hs _ ih =>
  intro h hf
  cases h with
  | zero => exact hf.elim
  | succ h => exact ih (h + 1) (Qle h _ (hf _ hs))
def htF (g : List Cell) : Nat -> Int -> Nat
 | 0, _ => 0
 | n + 1, i => (outs g i).foldl (fun m k => max m (htF g n k)) 0 + 1
def dep (g : List Cell) (i : Int) : Nat := htF g g.length i
end Go.Core
namespace Go.AX
def Qoz (p : Int × Int) : Value := .agg #[.int .i64 p.1, .int .i64 p.2]
structure PairT (P : Program) (kt it : TypeId) : Prop where
 k : P.underlying kt = some (.array 2 it)
 i : P.underlying it = some (.int .i64)
 s : ∃ inf, P.info? it = some inf /\ inf.size = 1
section
variable {P : Program} {kt it : TypeId}
theorem PairT.part (h : PairT P kt it) (w : World) {xs : Array Value} {off : Nat} {v : Value} (hx : xs[off]? = some v) : (Go.part it xs off).run P w = .ok v w := by
 simp [Go.part, isAgg, run_underlying h.i, hx]
theorem PairT.int (h : PairT P kt it) (w : World) (n : Nat) (x y : Int) : (Op.equalIn (n + 1) it (.int .i64 x) (.int .i64 y)).run P w = .ok (x == y) w := by
 unfold Op.equalIn
 simp [run_underlying h.i]
theorem PairT.equal (h : PairT P kt it) (w : World) (p q : Int × Int) : (Op.equal kt (Qoz p) (Qoz q)).run P w = .ok (decide (p = q)) w := by
 obtain ⟨inf, hi, hs⟩ := h.s
 obtain ⟨a, b⟩ := p
 obtain ⟨c, d⟩ := q
 have p1 : ∀ (x y : Int) (w : World), (Go.part it #[.int .i64 x, .int .i64 y] 0).run P w = .ok (.int .i64 x) w := fun x y w => h.part w rfl
 have p2 : ∀ (x y : Int) (w : World), (Go.part it #[.int .i64 x, .int .i64 y] 1).run P w = .ok (.int .i64 y) w := fun x y w => h.part w rfl
 have he := fun x y => h.int w 9998 x y
 have hso : (sizeOf it).run P w = .ok 1 w := by rw [<- hs]; simp [sizeOf, typeInfo, hi, Result.andThen]
 show (Op.equalIn (9999 + 1) kt (.agg #[.int .i64 a, .int .i64 b]) (.agg #[.int .i64 c, .int .i64 d])).run P w = _
 unfold Op.equalIn
 simp only [Sem.run_bind, run_underlying h.k, ZCz]
 simp only [Std.Legacy.Range.forIn_eq_forIn_range', Std.Legacy.Range.size, Nat.sub_zero, Nat.add_one_sub_one, Nat.div_one]
 rw [show List.range' 0 2 = [0, 1] from rfl]
 simp only [List.forIn_cons, List.forIn_nil, Sem.run_bind, hso, ZCz, Nat.mul_one, p1, he]
 by_cases h1 : a = c
 ·subst h1
  by_cases h2 : b = d
  ·subst h2
   simp [p2, he, Result.andThen]
  ·simp [p2, he, Result.andThen, h2]
 ·simp [Result.andThen, h1]
theorem PairT.check (h : PairT P kt it) (w : World) (e : Bool) (p : Int × Int) : (Instr.checkKey e 10000 kt (Qoz p)).run P w = .ok () w := by
 obtain ⟨inf, hi, hs⟩ := h.s
 obtain ⟨a, b⟩ := p
 have p1 : ∀ (x y : Int) (w : World), (Go.part it #[.int .i64 x, .int .i64 y] 0).run P w = .ok (.int .i64 x) w := fun x y w => h.part w rfl
 have p2 : ∀ (x y : Int) (w : World), (Go.part it #[.int .i64 x, .int .i64 y] 1).run P w = .ok (.int .i64 y) w := fun x y w => h.part w rfl
 have hc : ∀ x, (Instr.checkKey e 9999 it (.int .i64 x)).run P w = .ok () w := fun x => MapKept.run_checkKey (k := .int .i64 x) h.i (by simp [MapKept.IsKey]) e 9998
 have hso : (sizeOf it).run P w = .ok 1 w := by rw [<- hs]; simp [sizeOf, typeInfo, hi, Result.andThen]
 show (Instr.checkKey e (9999 + 1) kt (.agg #[.int .i64 a, .int .i64 b])).run P w = _
 unfold Instr.checkKey
 simp only [Sem.run_bind, run_underlying h.k, ZCz]
 simp only [Std.Legacy.Range.forIn_eq_forIn_range', Std.Legacy.Range.size, Nat.sub_zero, Nat.add_one_sub_one, Nat.div_one]
 rw [show List.range' 0 2 = [0, 1] from rfl]
 simp only [List.forIn_cons, List.forIn_nil, Sem.run_bind, hso, ZCz, Nat.mul_one, p1, p2, hc, Sem.run_pure]
def PairsAre (es : List MapEntry) (R : List ((Int × Int) × Value)) : Prop := es.map (fun e => (e.key, e.val)) = R.map fun r => (Qoz r.1, r.2)
theorem PairsAre.put {es : Array MapEntry} {R : List ((Int × Int) × Value)} (h : PairsAre es.toList R) (p : Int × Int) (v : Value) (born : Nat) : PairsAre (es.push { key := Qoz p, val := v, born := born }).toList (R ++ [(p, v)]) := by
 unfold PairsAre at *
 rw [Array.toList_push, List.map_append, List.map_append, h]
 rfl
end
theorem ReadW.pair {P : Program} {o : Oper} {s : List AV} {H : List Ent} {K : AV -> Prop} {T it : TypeId} {x y : Operand} {a b : Int} {inf : TypeInfo} (ho : o.op = .build T #[(0, x), (1, y)]) (hT : PairT P T it) (hi : P.info? T = some inf) (hz : inf.zero = some (.agg #[.int .i64 0, .int .i64 0]))
  (hx : opv s x = .c (.v (.int .i64 a))) (hy : opv s y = .c (.v (.int .i64 b))) (h : K (.c (.v (Qoz (a, b))))) : ReadW P o s H K :=
 ReadW.val (Qoz (a, b)) (fun cs b e => by rw [ho] at e; cases e) (by rw [ho]; show Qar s [x, y] = true; simp [Qar, hx, hy]) (fun w hw => by
  obtain ⟨i1, hi1, hs1⟩ := hT.s
  have hso : (sizeOf it).run P w = .ok 1 w := by rw [<- hs1]; simp [sizeOf, typeInfo, hi1, Result.andThen]
  have hb : (Instr.build T #[(0, Qat s x), (1, Qat s y)]).run P w = .ok (Qoz (a, b)) w := by
   rw [Qbc hx, Qbc hy]
   unfold Instr.build
   simp only [Sem.run_bind, Qbv hi hz, run_underlying hT.k, ZCz, hso]
   rfl
  unfold execOp
  simp [ho, hb, Result.andThen]) h
end Go.AX
namespace Go.AX
theorem SpecH.turn {P : Program} {f : FuncId} {args : List AV} {H : List Ent} {K : Out -> List Ent -> Prop} (G : List Ent) (t : SealR (Qax (Qiw H G)) H G) (h : SpecH P f args G K) : SpecH P f args H K := by
 refine ⟨h.ok, fun ρ S w vs hs hr => ?_⟩
 obtain ⟨S', hs', hev⟩ := (Qkf t).2 ρ S w hs
 exact (h.run ρ S' w vs hs' hr).mono fun e w' ⟨ρ2, S2, H2, out, a1, a2, a3, a4⟩ => ⟨ρ2, S2, H2, out, a1, hev.trans a2, a3, a4⟩
end Go.AX
namespace Go.Core
theorem Qds {g : List Cell} (h : Qbe g) : InG g := by
 intro c hc i hi
 have h1 := h.2.1 c hc
 unfold Qbi Qei at h1
 simp only [ZAz] at h1
 have := Zqz.1 h1.1.1 i hi
 simp only [ZAz, ZBz] at this
 exact this
end Go.Core
namespace Go.Core
theorem Qx4 {g : List Cell} {c : Cell} (h : c ∈ g) : ∃ i, InI g i /\ c = at_ g i := by
 obtain ⟨j, hj⟩ := List.getElem?_of_mem h
 have hl := (Zfz.1 hj).1
 refine ⟨(j : Int), ⟨by omega, by omega⟩, ?_⟩
 unfold at_
 rw [Zdz, Zlz, hj]
 rfl
end Go.Core
namespace Go.Marshal
open Go.Core
abbrev B := List UInt8
def numR : Nat -> Nat -> B
 | 0, _ => []
 | f + 1, m => if m = 0 then [] else UInt8.ofNat (m % 128 + 128) :: numR f (m / 128)
def num (n : Nat) : B := (UInt8.ofNat (n % 128) :: numR 10 (n / 128)).reverse
def sgn (n : Int) : Nat := if n < 0 then (-2 * n - 1).toNat else (2 * n).toNat
def Qcr (n : Nat) : Int := if n % 2 = 1 then -(((n + 1) / 2 : Nat) : Int) else ((n / 2 : Nat) : Int)
def maxN : Nat := 1000000000000000
def rdF (most : Nat) : Nat -> Nat -> B -> Except Int (Nat × B)
 | _, _, [] => .error 14
 | i, n, x :: s =>
  if i = 0 /\ x = 128 \/ 9 <= i then .error 4
  else if x.toNat < 128 then (if n * 128 + x.toNat % 128 <= most then .ok (n * 128 + x.toNat % 128, s) else .error 4)
  else rdF most (i + 1) (n * 128 + x.toNat % 128) s
def rd (most : Nat) (s : B) : Except Int (Nat × B) := rdF most 0 0 s
def rdT (most : Nat) (s : B) : Except Int (B × B) := match rd maxN s with
 | .error e => .error e
 | .ok (n, r) => if most < n then .error 4 else if r.length < n then .error 14 else .ok (r.take n, r.drop n)
def Qgk (x : UInt8) (ss : List B) (s : B) : Except Int (B × List B × B) :=
 if x = 59 then match rd maxN s with
  | .error e => .error e
  | .ok (k, r) => match ss[k]? with
   | some t => .ok (t, ss, r)
   | none => .error 4
 else if x = 58 then match rdT 40 s with
  | .error e => .error e
  | .ok (t, r) => if t ∈ ss then .error 4 else .ok (t, ss ++ [t], r)
 else .error 4
structure St where
 s : B
 g : List Cell
 cells : List Int
 ss : List B
def bnd {α β : Type} : Except Int (α × St) -> (α -> St -> Except Int (β × St)) -> Except Int (β × St)
 | .error e, _ => .error e
 | .ok (a, st), k => k a st
def Qc2 (st : St) : Except Int (UInt8 × St) := match st.s with
 | [] => .error 14
 | x :: s => .ok (x, { st with s := s })
def numS (most : Nat) (st : St) : Except Int (Nat × St) := match rd most st.s with
 | .error e => .error e
 | .ok (n, r) => .ok (n, { st with s := r })
def Qe4 (most : Nat) (st : St) : Except Int (B × St) := match rdT most st.s with
 | .error e => .error e
 | .ok (t, r) => .ok (t, { st with s := r })
def symS (x : UInt8) (st : St) : Except Int (B × St) := match Qgk x st.ss st.s with
 | .error e => .error e
 | .ok (t, ss, r) => .ok (t, { st with s := r, ss := ss })
def Qdm (f : St -> Except Int (Int × St)) : Nat -> List Int -> St -> Except Int (List Int × St)
 | 0, l, st => .ok (l, st)
 | n + 1, l, st => bnd (f st) fun i st => Qdm f n (l ++ [i]) st
def Qdq (f : St -> Except Int (Int × St)) : Nat -> List B -> List Int -> St -> Except Int ((List B × List Int) × St)
 | 0, ns, l, st => .ok ((ns, l), st)
 | n + 1, ns, l, st => bnd (Qc2 st) fun x st => bnd (symS x st) fun t st =>
  if Go.Scan.iiB t = true /\ t ∉ ns then bnd (f st) fun i st => Qdq f n (ns ++ [t]) (l ++ [i]) st else .error 4
def Qce (f : St -> Except Int (Int × St)) (x : UInt8) (st : St) : Except Int (Cell × St) :=
 if x = 48 then .ok (⟨0, 0, [], [], []⟩, st)
 else if x = 84 then .ok (⟨1, 0, [], [], []⟩, st)
 else if x = 70 then .ok (⟨2, 0, [], [], []⟩, st)
 else if x = 105 then bnd (numS (2 * maxN) st) fun n st => .ok (⟨3, Qcr n, [], [], []⟩, st)
 else if x = 34 then bnd (Qe4 maxN st) fun t st => .ok (⟨4, 0, t, [], []⟩, st)
 else if x = 58 \/ x = 59 then bnd (symS x st) fun t st => .ok (⟨5, 0, t, [], []⟩, st)
 else if x = 91 then bnd (numS maxN st) fun n st => bnd (Qdm f n [] st) fun l st => .ok (⟨6, 0, [], [], l⟩, st)
 else if x = 123 then bnd (numS maxN st) fun n st => bnd (Qdm f (2 * n) [] st) fun l st => .ok (⟨7, 0, [], [], l⟩, st)
 else bnd (Qc2 st) fun y st => bnd (symS y st) fun t st =>
  if Go.Scan.icB t = true then bnd (numS maxN st) fun n st => bnd (Qdq f n [] [] st) fun p st => .ok (⟨8, 0, t, p.1, p.2⟩, st) else .error 4
def Qbl : B := [48, 84, 70, 105, 34, 58, 59, 91, 123, 111]
def Qi1 : B := [34, 91, 123, 111]
def Qb1 (x : UInt8) (st : St) : St := ⟨st.s, st.g ++ [nilC], if x ∈ Qi1 then st.cells ++ [(st.g.length : Int)] else st.cells, st.ss⟩
def setS (i : Nat) (c : Cell) (st : St) : St := { st with g := st.g.set i c }
def Qek : Nat -> St -> Except Int (Int × St)
 | 0, _ => .error 99
 | n + 1, st => bnd (Qc2 st) fun x st =>
  if x = 64 then bnd (numS maxN st) fun k st => match st.cells[k]? with
   | some c => .ok (c, st)
   | none => .error 4
  else if 500 <= st.g.length \/ x ∉ Qbl then .error 4
  else bnd (Qce (Qek n) x (Qb1 x st)) fun c st' => .ok ((st.g.length : Int), setS st.g.length c st')
def Qns : B -> B -> Except Int B
 | [], s => .ok s
 | _ :: _, [] => .error 14
 | h :: hs, x :: s => if x = h then Qns hs s else .error 4
def headB : B := [67, 77, 1]
open Classical in
noncomputable def Qca (s : B) : Except Int (List Cell × List B) :=
 if 20000 < s.length then .error 2
 else match Qns headB s with
  | .error e => .error e
  | .ok r => match Qek (r.length + 1) ⟨r, [], [], []⟩ with
   | .error e => .error e
   | .ok (_, st) => if st.s ≠ [] then .error 4 else if Qbe st.g then .ok (st.g, st.ss) else .error 1
structure Wr where
 out : B
 cells : List Int
 ss : List B
def putW (w : Wr) (b : B) : Wr := { w with out := w.out ++ b }
def symW (w : Wr) (t : B) : Wr := if t ∈ w.ss then putW w (59 :: num (w.ss.idxOf t)) else ⟨w.out ++ (58 :: (num t.length ++ t)), w.cells, w.ss ++ [t]⟩
def Qae (g : List Cell) : Nat -> Wr -> Int -> Wr
 | 0, w, _ => w
 | n + 1, w, a =>
  let c := at_ g a
  if c.kind = 0 then putW w [48]
  else if c.kind = 1 then putW w [84]
  else if c.kind = 2 then putW w [70]
  else if c.kind = 3 then putW w (105 :: num (sgn c.num))
  else if c.kind = 5 then symW w c.text
  else if a ∈ w.cells then putW w (64 :: num (w.cells.idxOf a))
  else
   let w := { w with cells := w.cells ++ [a] }
   if c.kind = 4 then putW w (34 :: (num c.text.length ++ c.text))
   else if c.kind = 6 then c.items.foldl (Qae g n) (putW w (91 :: num c.items.length))
   else if c.kind = 7 then c.items.foldl (Qae g n) (putW w (123 :: num (c.items.length / 2)))
   else (c.names.zip c.items).foldl (fun w p => Qae g n (symW w p.1) p.2) (putW (symW (putW w [111]) c.text) (num c.names.length))
def Qdg (g : List Cell) (a : Int) : B := (Qae g (g.length + 1) ⟨headB, [], []⟩ a).out
end Go.Marshal
namespace Go.Marshal
def sw (l : List UInt8) (i : Nat) : B := (List.range l.length).map fun k => if k < i \/ l.length <= k + i then l.getD (l.length - 1 - k) 0 else l.getD k 0
theorem Ql3 (l : List UInt8) (i : Nat) : (sw l i).length = l.length := by simp [sw]
theorem Ql4 (l : List UInt8) (i k : Nat) (h : k < l.length) : (sw l i)[k]? = some (if k < i \/ l.length <= k + i then l.getD (l.length - 1 - k) 0 else l.getD k 0) := by
 simp [sw, h]
theorem Qyq (l : List UInt8) : sw l 0 = l := by
 apply List.ext_getElem?
 intro k
 rcases Nat.lt_or_ge k l.length with h | h
 ·rw [Ql4 l 0 k h, if_neg (by omega)]
  simp [List.getD, h]
 ·rw [List.getElem?_eq_none (by rw [Ql3]; exact h), List.getElem?_eq_none h]
theorem Qzy (l : List UInt8) (i : Nat) (hi : l.length <= 2 * i + 1) : sw l i = l.reverse := by
 apply List.ext_getElem?
 intro k
 rcases Nat.lt_or_ge k l.length with h | h
 ·rw [Ql4 l i k h, List.getElem?_reverse h]
  have hk : l.length - 1 - k < l.length := by omega
  by_cases h2 : k < i \/ l.length <= k + i
  ·rw [if_pos h2]
   simp [List.getD, Zbz hk]
  ·rw [if_neg h2]
   have : k = l.length - 1 - k := by omega
   rw [<- this]
   simp [List.getD, h]
 ·rw [List.getElem?_eq_none (by rw [Ql3]; exact h), List.getElem?_eq_none (by simpa using h)]
theorem Qyr (l : List UInt8) (i : Nat) (hi : i < l.length - 1 - i) : ((sw l i).set i (l.getD (l.length - 1 - i) 0)).set (l.length - 1 - i) (l.getD i 0) = sw l (i + 1) := by
 apply List.ext_getElem?
 intro k
 rcases Nat.lt_or_ge k l.length with h | h
 ·rw [Ql4 l (i + 1) k h, List.getElem?_set, List.getElem?_set]
  simp only [List.length_set, Ql3]
  by_cases h1 : l.length - 1 - i = k
  ·rw [if_pos h1, if_pos (by omega), if_pos (by omega)]
   congr 2
   omega
  ·rw [if_neg h1]
   by_cases h2 : i = k
   ·rw [if_pos h2, if_pos (by omega), if_pos (by omega), h2]
   ·rw [if_neg h2, Ql4 l i k h]
    by_cases h3 : k < i \/ l.length <= k + i
    ·rw [if_pos h3, if_pos (by omega)]
    ·rw [if_neg h3, if_neg (by omega)]
 ·rw [List.getElem?_eq_none (by simp [Ql3]; exact h), List.getElem?_eq_none (by rw [Ql3]; exact h)]
end Go.Marshal
namespace Go.Proofs.YtgogonnnojcioaaGreatDoor
open Go.AX Go.RowKit Go.Marshal
set_option maxRecDepth 20000
def own (l : List UInt8) (b cap : Nat) : Ent := .app 5 1 (u8s l) (some ⟨b, 0, none⟩) l.length cap
theorem Qm8 {a : AV} {b n q : Nat} (h : a = .c (.v (.pointer (some (Qb8 (some ⟨b, 0, none⟩) n))))) (hq : n = q) : a = .c (.v (.pointer (some ⟨b, q, none⟩))) := by
 rw [h, hq]
 unfold Qb8
 rw [show (some (⟨b, 0, none⟩ : Addr)).getD default = ⟨b, 0, none⟩ from rfl, Qck]
theorem Qxq {l : List UInt8} {k : Nat} {c : UInt8} (h : l[k]? = some c) : (u8s l)[k]? = some (.int .u8 (c.toNat : Int)) := by simp [u8s, h]
theorem Qtu {l : List UInt8} {k : Nat} (c : UInt8) (h : k < l.length) : (u8s l).take k ++ [.int .u8 (c.toNat : Int)] ++ (u8s l).drop (k + 1) = u8s (l.set k c) := by
 have := Qfw (xs := u8s l) (q := k) (.int .u8 (c.toNat : Int)) (by simpa [u8s] using h)
 rw [show [Value.int .u8 (c.toNat : Int)].length = 1 from rfl] at this
 rw [this]
 simp [u8s]
theorem Qv8 (l : List UInt8) (b cap : Nat) (hl : l.length <= 1000000) : SpecH Tryz.prog 173 [.c (.v (.slice (some ⟨b, 0, none⟩) l.length cap))] [own l b cap] (RetG (ι := Unit) (fun _ => True) (fun _ => .tuple #[]) fun _ => [own l.reverse b cap]) := by
 refine ownC hm Tryz.func173 (by kernel_rfl) rfl rfl (fun _ _ => Qan rfl) (fun _ _ => Zcz _) ?_
 refine wX ?_
 refine LoopN.intro Nat (fun i => 2 * i <= l.length + 1)
  (fun i => mkS Tryz.f173.ntmps 0 [(0, .c (.v (.slice (some ⟨b, 0, none⟩) l.length cap))), (2, .c (.v (.int .i64 (i : Int)))), (3, .c (.v (.int .i64 ((l.length : Int) - 1 - i))))])
  (fun i => [.app 5 1 (u8s (sw l i)) (some ⟨b, 0, none⟩) l.length cap]) (fun i => l.length - i) [] rfl
  (fun _ => rfl) (fun _ => rfl) (fun _ _ => Qan rfl) ⟨0, by omega, ?_, ?_⟩ ?_
 ·exact wKK
 ·rw [Qyq]
  exact Qag _
 intro i hi
 refine wX ?_
 refine Qab (fun h => ?_) (fun h => ?_)
 ·have hlen := Ql3 l i
  have g1 := Ql4 l i i (by omega)
  have g2 := Ql4 l i (l.length - 1 - i) (by omega)
  rw [if_neg (by omega)] at g1 g2
  have hst := Qyr l i (by omega)
  refine wX ?_
  refine DrawN.plan [0, 1, 2, 3, 4, 5, 8, 9] [(6, 1), (7, 1), (10, 1), (11, 1), (12, 1)] [(13, 0), (14, 0), (15, 0)] (by decide +kernel) ?_
  refine wX ?_
  refine Nd.mk ⟨rfl, by omega, by omega⟩ ?_
  refine wX ?_
  refine LdN.one (.int .u8 ((l.getD (l.length - 1 - i) 0).toNat : Int)) rfl (fun w hw => hw.1) (by
   show (u8s (sw l i))[((l.length : Int) - 1 - i).toNat * 1]? = _
   rw [Nat.mul_one, show ((l.length : Int) - 1 - i).toNat = l.length - 1 - i by omega]
   exact Qxq g2) ?_
  refine wX ?_
  refine Nd.mk ⟨rfl, by omega, by omega⟩ ?_
  refine wX ?_
  refine LdN.one (.int .u8 ((l.getD i 0).toNat : Int)) rfl (fun w hw => hw.1) (by
   show (u8s (sw l i))[(i : Int).toNat * 1]? = _
   rw [Nat.mul_one, Zdz]
   exact Qxq g1) ?_
  refine wX ?_
  refine Nd.mk ⟨rfl, by omega, by omega⟩ ?_
  refine wX ?_
  refine EffW.appTo (i := 0) (q := i) (ys := [_]) (u8s ((sw l i).set i (l.getD (l.length - 1 - i) 0))) 1 rfl (Qm8 rfl (by show (i : Int).toNat * 1 = i; omega)) rfl rfl rfl rfl rfl (by show i + 1 <= l.length * 1; omega) (Qtu _ (by omega)) rfl ?_
  refine wX ?_
  refine Nd.mk ⟨rfl, by omega, by omega⟩ ?_
  refine wX ?_
  refine EffW.appTo (i := 0) (q := l.length - 1 - i) (ys := [_]) (u8s (sw l (i + 1))) 1 rfl (Qm8 rfl (by show ((l.length : Int) - 1 - i).toNat * 1 = l.length - 1 - i; omega)) rfl rfl rfl rfl rfl (by show l.length - 1 - i + 1 <= l.length * 1; omega) (by rw [<- hst]; exact Qtu _ (by simp; omega)) rfl ?_
  refine wX ?_
  refine ⟨i + 1, by omega, by omega, ?_, wHH⟩
  exact wKK
 ·rw [Qzy l i (by omega)]
  refine wX ?_
  have e : own l.reverse b cap = .app 5 1 (u8s l.reverse) (some ⟨b, 0, none⟩) l.length cap := by unfold own; rw [List.length_reverse]
  rw [e]
  exact ⟨(), trivial, rfl, Qag _⟩
def Qyi (l : List UInt8) (v : Value) (G : World -> Prop) : Prop := ∃ ob cap, v = .slice (at0 ob) l.length cap /\ (ob = none -> l = []) /\ ∀ w, G w -> SlAt (at0 ob) l.length (u8s l) w
theorem Qtb (l : List UInt8) (b cap : Nat) : Qyi l (.slice (some ⟨b, 0, none⟩) l.length cap) (SlAt (some ⟨b, 0, none⟩) (l.length * 1) (u8s l)) :=
 ⟨some b, cap, rfl, fun h => (by cases h), fun w hw => (by rw [Nat.mul_one] at hw; exact hw)⟩
theorem Qux : ∀ f, numR f 0 = []
 | 0 => rfl
 | f + 1 => by unfold numR; rw [if_pos rfl]
theorem Qk1 {n : Nat} (h : n < 256) : ((UInt8.ofNat n).toNat : Int) = n := by
 rw [UInt8.toNat_ofNat', Nat.mod_eq_of_lt (by simpa using h)]
theorem Qwr (n : Nat) (hn : n < 9223372036854775808) : SpecF Tryz.prog 168 [.int .i64 (n : Int)] (fun _ => True) (Qyi (num n)) := by
 refine Qm2 hm Tryz.func168 (by kernel_rfl) rfl rfl ?_
 have e1 : (n : Int).tdiv 128 = ((n / 128 : Nat) : Int) := (Int.ofNat_tdiv n 128).symm
 have e2 : (n : Int).tmod 128 = ((n % 128 : Nat) : Int) := (Int.ofNat_tmod n 128).symm
 (conv => whnf)
 refine RwN.known [_] rfl fun b0 => ?_
 refine wX ?_
 refine LoopN.intro (List UInt8 × Nat × Nat × Nat × Nat) (fun ⟨l, m, f, _, _⟩ => l ++ numR f m = (num n).reverse /\ m < 128 ^ f /\ l.length + f <= 11 /\ m < 9223372036854775808)
  (fun ⟨l, m, _, b, cap⟩ => mkS Tryz.f168.ntmps 0 [(0, .c (.v (.int .i64 (m : Int)))), (3, .c (.v (.slice (some ⟨b, 0, none⟩) l.length cap)))])
  (fun ⟨l, _, _, b, cap⟩ => [.fact fun _ => True, own l b cap]) (fun ⟨_, _, f, _, _⟩ => f) [] rfl
  (fun _ => rfl) (fun _ => rfl) (fun _ _ => Qan rfl) ⟨([UInt8.ofNat (n % 128)], n / 128, 10, b0, 1), ⟨?_, ?_, ?_, ?_⟩, ?_, ?_⟩ ?_
 ·simp [num]
 ·have : n / 128 < 128 ^ 9 := by omega
  omega
 ·simp
 ·omega
 ·(repeat' (first | exact trivial | refine And.intro (by with_reducible rfl) ?_ | (with_reducible exact Qay _) | (with_reducible exact Qaq _) | refine And.intro ?_ ?_))
  all_goals first | rfl | exact Qes (by rw [e1, Qaf (by omega)])
 ·exact ⟨Qaa _, .inl ⟨rfl, rfl, by rw [e2, Qkb (by omega)]; show [_] = [Value.int .u8 ((UInt8.ofNat (n % 128)).toNat : Int)]; rw [Qk1 (by omega)], rfl, rfl, rfl⟩, Qbu _⟩
 rintro ⟨l, m, f, b, cap⟩ ⟨hl, hm1, hlf, hm2⟩
 refine wX ?_
 refine Qab (fun h => ?_) (fun h => ?_)
 ·cases f with
  | zero => omega
  | succ f =>
   have e3 : (m : Int).tdiv 128 = ((m / 128 : Nat) : Int) := (Int.ofNat_tdiv m 128).symm
   have e4 : (m : Int).tmod 128 = ((m % 128 : Nat) : Int) := (Int.ofNat_tmod m 128).symm
   have hs : numR (f + 1) m = UInt8.ofNat (m % 128 + 128) :: numR f (m / 128) := by
    conv => lhs; unfold numR
    rw [if_neg (by omega)]
   rw [hs] at hl
   refine wX ?_
   refine Nd.mk ⟨Zcz 1, rfl, rfl⟩ ?_
   (conv => whnf)
   refine AppN.grow 1 (u8s l) [_] rfl rfl ⟨Zcz 1, ⟨by show (l.length + 1) * 1 <= _; omega, by omega⟩, by show 1 ≠ 0; omega⟩ fun b' cap' h1 h2 => ?_
   refine wX ?_
   refine ⟨(l ++ [UInt8.ofNat (m % 128 + 128)], m / 128, f, b', cap'), ⟨by rw [<- hl]; simp, by rw [Nat.pow_succ, Nat.mul_comm] at hm1; exact Nat.div_lt_of_lt_mul hm1, by simp; omega, by omega⟩, by show f < f + 1; omega, ?_, ?_⟩
   ·(repeat' (first | exact trivial | refine And.intro (by with_reducible rfl) ?_ | (with_reducible exact Qay _) | (with_reducible exact Qaq _) | refine And.intro ?_ ?_))
    all_goals first | (simp; done) | exact Qes (by rw [e3, Qaf (by omega)])
   ·exact ⟨Qaa _, .inl ⟨rfl, rfl, by rw [e4, Qaf (by omega), Qkb (by omega)]; simp [u8s]; omega, rfl, by simp, rfl⟩, Qbu _⟩
 ·have hm0 : m = 0 := by omega
  subst hm0
  rw [Qux, List.append_nil] at hl
  refine wX ?_
  refine Qai (Qv8 l b cap (by omega)) [1] rfl ⟨rfl, trivial⟩ rfl fun _ _ => ?_
  refine wX ?_
  have hr : num n = l.reverse := by rw [hl, List.reverse_reverse]
  rw [hr, show Value.slice (some ⟨b, 0, none⟩) l.length cap = Value.slice (some ⟨b, 0, none⟩) l.reverse.length cap by rw [List.length_reverse]]
  exact Qfc (SlAt (some ⟨b, 0, none⟩) (l.reverse.length * 1) (u8s l.reverse)) (Qtb _ _ _) (fun w hw => hw.2.1)
end Go.Proofs.YtgogonnnojcioaaGreatDoor
namespace Go.Marshal
open Go.Core
theorem Qrz {n : Nat} (h : n < 256) : (UInt8.ofNat n).toNat = n := by
 rw [UInt8.toNat_ofNat', Nat.mod_eq_of_lt (by simpa using h)]
theorem Qni : ∀ (f m k : Nat), m < 128 ^ k -> (numR f m).length <= k
 | 0, _, _, _ => Zkz _
 | f + 1, m, k, h => by
  unfold numR
  split
  ·exact Zkz _
  ·rename_i hm
   cases k with
   | zero => rw [Nat.pow_zero] at h; omega
   | succ k =>
    have := Qni f (m / 128) k (by rw [Nat.pow_succ, Nat.mul_comm] at h; exact Nat.div_lt_of_lt_mul h)
    simp only [Znz]; omega
theorem Qmc {most : Nat} : ∀ (f m : Nat) (rest : B), m ≠ 0 -> m < 128 ^ f -> (numR f m).length <= 9 -> rdF most 0 0 ((numR f m).reverse ++ rest) = rdF most (numR f m).length m rest
 | 0, m, _, h0, h1, _ => by rw [Nat.pow_zero] at h1; omega
 | f + 1, m, rest, h0, h1, h2 => by
  have e : numR (f + 1) m = UInt8.ofNat (m % 128 + 128) :: numR f (m / 128) := by
   conv => lhs; unfold numR
   rw [if_neg h0]
  rw [e] at h2 ⊢
  simp only [Znz] at h2
  have ht : (UInt8.ofNat (m % 128 + 128)).toNat = m % 128 + 128 := Qrz (by omega)
  rw [List.reverse_cons, Zuz, List.singleton_append]
  by_cases hz : m / 128 = 0
  ·have e2 : numR f (m / 128) = [] := by
    rw [hz]
    cases f with
    | zero => rfl
    | succ f => unfold numR; rw [if_pos rfl]
   rw [e2]
   simp only [List.reverse_nil, List.nil_append, Znz, List.length_nil]
   conv => lhs; unfold rdF
   rw [if_neg, if_neg (by omega)]
   ·rw [ht]
    congr 1
    omega
   ·rintro (⟨_, h⟩ | h)
    ·have := congrArg UInt8.toNat h
     rw [ht] at this
     have : m % 128 + 128 = 128 := this
     omega
    ·omega
  ·rw [Qmc f (m / 128) _ hz (by rw [Nat.pow_succ, Nat.mul_comm] at h1; exact Nat.div_lt_of_lt_mul h1) (by omega)]
   have h3 : 1 <= (numR f (m / 128)).length := by
    cases f with
    | zero => rw [Nat.pow_succ, Nat.pow_zero] at h1; omega
    | succ f => unfold numR; rw [if_neg hz]; simp
   conv => lhs; unfold rdF
   rw [if_neg (by omega), if_neg (by omega)]
   simp only [Znz]
   rw [ht]
   congr 1
   omega
theorem Qrl {most n : Nat} (h : n <= most) (h2 : n < 9223372036854775808) (rest : B) : rd most (num n ++ rest) = .ok (n, rest) := by
 unfold rd num
 have ht : (UInt8.ofNat (n % 128)).toNat = n % 128 := Qrz (by omega)
 have hl : (numR 10 (n / 128)).length <= 8 := Qni _ _ _ (by omega)
 rw [List.reverse_cons, Zuz, List.singleton_append]
 by_cases hz : n / 128 = 0
 ·have e2 : numR 10 (n / 128) = [] := by rw [hz]; rfl
  rw [e2]
  simp only [List.reverse_nil, List.nil_append]
  unfold rdF
  rw [if_neg, if_pos (by omega), if_pos (by omega)]
  ·congr 2
   omega
  ·rintro (⟨_, h⟩ | h)
   ·have := congrArg UInt8.toNat h
    rw [ht] at this
    have : n % 128 = 128 := this
    omega
   ·omega
 ·rw [Qmc 10 (n / 128) _ hz (by omega) (by omega)]
  have h3 : 1 <= (numR 10 (n / 128)).length := by unfold numR; rw [if_neg hz]; simp
  unfold rdF
  rw [if_neg (by omega), if_pos (by omega), if_pos (by omega)]
  congr 2
  omega
theorem Qy2 (n : Nat) : 0 < (num n).length := by unfold num; simp
theorem Qbd {n : Nat} (h : n < 9223372036854775808) : (num n).length <= 9 := by
 unfold num
 have := Qni 10 (n / 128) 8 (by omega)
 simp; omega
theorem Qtt (n : Int) : Qcr (sgn n) = n := by
 unfold Qcr sgn
 split <;> split <;> omega
def Loc {α : Type} (p : B -> Except Int (α × B)) : Prop := ∀ s a r, p s = .ok (a, r) -> ∃ u, s = u ++ r /\ (∀ t, p (u ++ t) = .ok (a, t)) /\ ∀ v w, u = v ++ w -> w ≠ [] -> p v = .error 14
theorem Quo (most : Nat) : ∀ (s : B) (i n a : Nat) (r : B), rdF most i n s = .ok (a, r) -> ∃ u, s = u ++ r /\ (∀ t, rdF most i n (u ++ t) = .ok (a, t)) /\ ∀ v w, u = v ++ w -> w ≠ [] -> rdF most i n v = .error 14
 | [], i, n, a, r, h => by unfold rdF at h; cases h
 | x :: s, i, n, a, r, h => by
  unfold rdF at h
  split at h
  ·cases h
  rename_i h1
  split at h
  ·rename_i h2
   split at h
   ·rename_i h3
    cases h
    refine ⟨[x], rfl, fun t => ?_, fun v w e hw => ?_⟩
    ·show rdF most i n (x :: t) = _
     unfold rdF
     rw [if_neg h1, if_pos h2, if_pos h3]
    ·cases v with
     | nil => unfold rdF; rfl
     | cons y v =>
      injection e with _ e
      exact absurd (List.append_eq_nil_iff.1 e.symm).2 hw
   ·cases h
  ·rename_i h2
   obtain ⟨u, e1, e2, e3⟩ := Quo most s _ _ _ _ h
   refine ⟨x :: u, by rw [e1]; rfl, fun t => ?_, fun v w e hw => ?_⟩
   ·show rdF most i n (x :: (u ++ t)) = _
    unfold rdF
    rw [if_neg h1, if_neg h2]
    exact e2 t
   ·cases v with
    | nil => unfold rdF; rfl
    | cons y v =>
     injection e with ex e
     subst ex
     unfold rdF
     rw [if_neg h1, if_neg h2]
     exact e3 v w e hw
theorem Qul (most : Nat) : Loc (rd most) := fun s a r h => Quo most s 0 0 a r h
theorem Qv3 {α : Type} {a b v w : List α} (e : a ++ b = v ++ w) : (∃ z, a = v ++ z /\ z ≠ []) \/ ∃ z, v = a ++ z /\ b = z ++ w := by
 rcases List.append_eq_append_iff.1 e with ⟨z, h1, h2⟩ | ⟨z, h1, h2⟩
 ·exact .inr ⟨z, h1, h2⟩
 ·by_cases hz : z = []
  ·subst hz
   refine .inr ⟨[], by simpa using h1.symm, by simpa using h2.symm⟩
  ·exact .inl ⟨z, h1, hz⟩
theorem Qum (most : Nat) : Loc (rdT most) := by
 intro s a r h
 unfold rdT at h
 split at h
 ·cases h
 rename_i n q hq
 split at h
 ·cases h
 rename_i h1
 split at h
 ·cases h
 rename_i h2
 cases h
 obtain ⟨u, e1, e2, e3⟩ := Qul maxN _ _ _ hq
 have hl : (q.take n).length = n := by rw [List.length_take]; omega
 refine ⟨u ++ q.take n, by rw [e1, Zuz, List.take_append_drop], fun t => ?_, fun v w e hw => ?_⟩
 ·unfold rdT
  rw [Zuz, e2]
  simp only
  rw [if_neg h1, if_neg (by rw [Zhz, hl]; omega)]
  rw [List.take_append_of_le_length (by omega), List.drop_append_of_le_length (by omega), Zpz (by omega), List.drop_of_length_le (by omega)]
  rfl
 ·rcases Qv3 e with ⟨z, hz, hz2⟩ | ⟨z, hz, hz2⟩
  ·unfold rdT
   rw [e3 v z hz hz2]
  ·unfold rdT
   rw [hz, e2]
   simp only
   have : z.length < n := by
    have := congrArg List.length hz2
    rw [hl, Zhz] at this
    have : w.length ≠ 0 := fun h => hw (Zez h)
    omega
   rw [if_neg h1, if_pos this]
theorem Qun (x : UInt8) (ss : List B) : ∀ (s : B) (t : B) (ss' : List B) (r : B), Qgk x ss s = .ok (t, ss', r) -> ∃ u, s = u ++ r /\ (∀ q, Qgk x ss (u ++ q) = .ok (t, ss', q)) /\ ∀ v w, u = v ++ w -> w ≠ [] -> Qgk x ss v = .error 14 := by
 intro s t ss' r h
 unfold Qgk at h
 split at h
 ·rename_i hx
  split at h
  ·cases h
  rename_i k q hq
  obtain ⟨u, e1, e2, e3⟩ := Qul maxN _ _ _ hq
  split at h
  ·rename_i t0 ht
   cases h
   refine ⟨u, e1, fun q => ?_, fun v w e hw => ?_⟩
   ·unfold Qgk
    rw [if_pos hx, e2]
    simp only
    rw [ht]
   ·unfold Qgk
    rw [if_pos hx, e3 v w e hw]
  ·cases h
 ·rename_i hx
  split at h
  ·rename_i hx2
   split at h
   ·cases h
   rename_i t0 q hq
   obtain ⟨u, e1, e2, e3⟩ := Qum 40 _ _ _ hq
   split at h
   ·cases h
   ·rename_i hm
    cases h
    refine ⟨u, e1, fun q => ?_, fun v w e hw => ?_⟩
    ·unfold Qgk
     rw [if_neg hx, if_pos hx2, e2]
     simp only
     rw [if_neg hm]
    ·unfold Qgk
     rw [if_neg hx, if_pos hx2, e3 v w e hw]
  ·cases h
end Go.Marshal
namespace Go.Proofs.YtgogonnnojcioaaGreatDoor
open Go.AX Go.RowKit Go.Marshal
set_option maxRecDepth 20000
theorem Qzn : ∀ H, SpecH Tryz.prog 141 (pvs [.string (bs [119]), .string (bs [32])]) H (Ret (.string (bs [119])) H) := fun H =>
 SpecH.rawP (R := fun r => r = .string (bs [119])) (Qhb Tryz.func141 (by kernel_rfl) rfl)
  (fun w _ => (Tryz.strings_TrimLeft_one (bs [119]) 32 (by decide) w).mono fun e w' ⟨he, hw⟩ => ⟨_, he, rfl, by subst hw; exact Below.refl _ _⟩) fun r hr => by subst hr; exact ⟨rfl, rfl⟩
theorem Qv6 (x : List UInt8) : ∀ H, SpecH Tryz.prog 141 (pvs [.string (bs []), .string (bs x)]) H (Ret (.string (bs [])) H) := by
 refine Qd1 hm Tryz.func141 (by kernel_rfl) rfl rfl ?_
 exact wZ
def QBo : List UInt8 := [67, 99, 83, 115, 76, 108, 81, 113, 110, 78, 119, 85, 97, 65, 90, 72, 120, 64]
def wC : List Value := [.int .u8 119, .bool false, .int .i64 (-2)]
theorem Qz2 : SpecF Tryz.prog 119 [.string (bs [119])] (fun _ => True) (fun v G => ∃ db cap, v = .tuple #[.slice (some ⟨db, 0, none⟩) 1 cap, .bool true] /\ ∀ w, G w -> SlAt (some ⟨db, 0, none⟩) 3 wC w) := by
 refine Qm2 hm Tryz.func119 (by kernel_rfl) rfl rfl ?_
 refine wX ?_
 refine Qao (Qzn _) ?_
 refine wX ?_
 refine LoopN.unroll 2 ?_
 refine wX ?_
 rw [show Qcx (bs [119]) (Int.toNat 0) = 119 from rfl]
 refine Qao (Qe3 QBo 119 _) ?_
 refine wX ?_
 refine ReadW.tl rfl Tryz.underlying9 rfl rfl ?_
 refine wX ?_
 refine Qao (Qlv [] [62] _) ?_
 refine wX ?_
 refine Qao (Qv6 [48, 49, 50, 51, 52, 53, 54, 55, 56, 57] _) ?_
 refine wX ?_
 refine Qao (Qlv [] [42] _) ?_
 refine wX ?_
 refine AppN.new wC ⟨rfl, rfl, rfl⟩ rfl (by refine ⟨Zcz 1, ⟨?_, ?_⟩, ?_⟩ <;> decide +kernel) fun b cap h1 h2 => ?_
 refine wX ?_
 refine Qao (Qv6 [32] _) ?_
 refine wX ?_
 exact Qfc (SlAt (some ⟨b, 0, none⟩) 3 wC) ⟨b, cap, rfl, fun w hw => hw⟩ (fun w hw => hw.2.1)
theorem Qgd (n : Nat) (hn : n < 9223372036854775808) : ∀ H, SpecH Tryz.prog 57 (pvs [.int .i64 (n : Int)]) H (Ret (.string (bs (num n))) H) := by
 refine Qd1 hm Tryz.func57 (by kernel_rfl) rfl rfl ?_
 refine wXR ?_
 refine RwN.known [.bool false, .int .i64 (n : Int), .string ⟨#[]⟩] rfl fun ib => ?_
 refine wXR ?_
 refine Qas hm Tryz.func83 (by kernel_rfl) rfl rfl ?_
 refine wXR ?_
 refine Qas hm Tryz.func96 (by kernel_rfl) rfl rfl ?_
 refine wXR ?_
 refine SpecF.call Qz2 (fun w _ => trivial) fun v G hR => ?_
 obtain ⟨db, dc, rfl, hG⟩ := hR
 refine wXB ?_
 refine BoxN.known [.slice none 0 0, .slice (some ⟨ib, 0, none⟩) 1 1, .int .i64 0] rfl fun pb => ?_
 refine wX ?_
 refine LoopN.unroll 2 ?_
 refine wX ?_
 refine Nd.mk ⟨rfl, by decide, by decide⟩ ?_
 refine wX ?_
 refine LdN.agg wC rfl (fun w hw => hG w hw.2.1) rfl (fun k hk => by show wC[0 * 3 + k]? = _; rw [Nat.zero_mul, Nat.zero_add]) ?_
 refine wX ?_
 refine Qas hm Tryz.func120 (by kernel_rfl) rfl rfl ?_
 refine wX ?_
 refine Qao (Qe3 [97, 65, 90, 72] 119 _) ?_
 refine wX ?_
 refine Qas hm Tryz.func121 (by kernel_rfl) rfl rfl ?_
 refine wX ?_
 refine LoopN.unroll 2 ?_
 refine wX ?_
 refine Qas hm Tryz.func122 (by kernel_rfl) rfl rfl ?_
 refine wX ?_
 refine Qas hm Tryz.func120 (by kernel_rfl) rfl rfl ?_
 refine wX ?_
 refine Qao (Qe3 [97, 65, 90, 72] 119 _) ?_
 refine wX ?_
 refine Qas hm Tryz.func144 (by kernel_rfl) rfl rfl ?_
 refine wX ?_
 refine LdN.one (a := some ⟨pb, 0, none⟩) (q := 2) (.int .i64 0) rfl (fun w hw => hw.2.2.1) rfl ?_
 refine wX ?_
 refine LdN.one (a := some ⟨pb, 0, none⟩) (q := 1) (.slice (some ⟨ib, 0, none⟩) 1 1) rfl (fun w hw => hw.2.2.1) rfl ?_
 refine wX ?_
 refine DrawN.plan [0, 4] [(1, 1), (2, 1), (3, 1), (5, 1), (6, 1), (7, 1), (8, 1), (9, 1)] [(10, 2), (11, 0)] (by decide +kernel) ?_
 refine wX ?_
 refine LdN.one (a := some ⟨pb, 0, none⟩) (q := 1) (.slice (some ⟨ib, 0, none⟩) 1 1) rfl (fun w hw => hw.2.2.1) rfl ?_
 refine wX ?_
 refine LdN.one (a := some ⟨pb, 0, none⟩) (q := 2) (.int .i64 0) rfl (fun w hw => hw.2.2.1) rfl ?_
 refine wX ?_
 refine Nd.mk ⟨rfl, by decide, by decide⟩ ?_
 refine wX ?_
 refine LdN.agg [.bool false, .int .i64 (n : Int), .string ⟨#[]⟩] rfl (fun w hw => hw.1) rfl (fun k hk => by show [Value.bool false, .int .i64 (n : Int), .string ⟨#[]⟩][0 * 3 + k]? = _; rw [Nat.zero_mul, Nat.zero_add]) ?_
 refine wX ?_
 refine LdN.one (a := some ⟨pb, 0, none⟩) (q := 2) (.int .i64 0) rfl (fun w hw => hw.2.2.1) rfl ?_
 refine wX ?_
 refine EffW.appTo (i := 2) (q := 2) (ys := [_]) [.slice none 0 0, .slice (some ⟨ib, 0, none⟩) 1 1, .int .i64 1] 3 rfl rfl rfl rfl rfl rfl rfl (Zaz rfl) rfl rfl ?_
 refine wX ?_
 refine Qas hm Tryz.func120 (by kernel_rfl) rfl rfl ?_
 refine wX ?_
 refine Qao (Qe3 [97, 65, 90, 72] 119 _) ?_
 refine wX ?_
 refine Qas hm Tryz.func146 (by kernel_rfl) rfl rfl ?_
 refine wX ?_
 refine SpecF.call (Qwr n hn) (fun w _ => trivial) fun v G2 hR => ?_
 obtain ⟨ob, oc, rfl, hob, hG2⟩ := hR
 have hpos := Qy2 n
 have hnl := Qbd hn
 generalize num n = l at hpos hnl hG2 hob ⊢
 obtain ⟨ob, rfl⟩ : ∃ b, ob = some b := by
  cases ob with
  | none => rw [hob rfl] at hpos; exact absurd hpos (Nat.lt_irrefl 0)
  | some b => exact ⟨b, rfl⟩
 obtain ⟨k, hk⟩ : ∃ k, l.length = k + 1 := ⟨l.length - 1, by omega⟩
 rw [hk] at hnl hG2 ⊢
 refine wX ?_
 refine LdN.one (a := some ⟨pb, 0, none⟩) (q := 0) (.slice none 0 0) rfl (fun w hw => hw.2.2.1) rfl ?_
 refine wX ?_
 refine Qab (fun h => absurd h (by rw [Qaf (by omega)]; omega)) (fun _ => ?_)
 refine wX ?_
 refine LdN.one (a := some ⟨pb, 0, none⟩) (q := 0) (.slice none 0 0) rfl (fun w hw => hw.2.2.1) rfl ?_
 refine wX ?_
 refine Nd.mk rfl ?_
 (conv => whnf)
 refine ApN.intro (u8s l) (by show _ = (k + 1) * 1; rw [Qym]; omega) (fun u hu => by obtain ⟨c, _, rfl⟩ := Zoz.1 hu; rfl) (fun w hw j v hv => (hG2 w hw.2.2.2.1).cell hv) ?_
 (conv => whnf)
 refine AppN.new (u8s l) ⟨rfl, rfl, rfl⟩ (Qkv _) ⟨by show 1 <= k + 1; omega, ⟨by show (0 + (k + 1)) * 1 <= _; omega, by omega⟩, by decide⟩ fun b' cap' h2 h3 => ?_
 refine wX ?_
 refine EffW.appTo (i := 2) (q := 0) (ys := [_]) [.slice (some ⟨b', 0, none⟩) (k + 1) cap', .slice (some ⟨ib, 0, none⟩) 1 1, .int .i64 1] 3 rfl rfl rfl rfl rfl rfl rfl (Zaz rfl) rfl rfl ?_
 refine wX ?_
 refine LdN.one (a := some ⟨pb, 0, none⟩) (q := 0) (.slice (some ⟨b', 0, none⟩) (k + 1) cap') rfl (fun w hw => hw.2.2.1) rfl ?_
 refine wX ?_
 refine ReadW.bytes l hk rfl rfl rfl rfl rfl (fun w hw => by have h9 : SlAt (some ⟨b', 0, none⟩) ((k + 1) * 1) (u8s l) w := hw.2.2.2.2.1; rw [Nat.mul_one] at h9; exact h9) ?_
 refine wX ?_
 rfl
end Go.Proofs.YtgogonnnojcioaaGreatDoor
namespace Go.AX
def seek {α : Type} [DecidableEq α] (k : α) : List (α × Value) -> Nat -> Option (Nat × Value)
 | [], _ => none
 | (q, v) :: R, i => if k = q then some (i, v) else seek k R (i + 1)
def upd {α : Type} [DecidableEq α] (k : α) (v : Value) : List (α × Value) -> List (α × Value)
 | [] => [(k, v)]
 | (q, x) :: R => if k = q then (q, v) :: R else (q, x) :: upd k v R
theorem Qkm {α : Type} [DecidableEq α] (k : α) : ∀ (R : List (α × Value)) (i : Nat), (seek k R i).map Prod.snd = R.lookup k
 | [], _ => rfl
 | (q, v) :: R, i => by
  unfold seek
  rw [List.lookup_cons]
  by_cases h : k = q
  ·subst h
   rw [if_pos rfl, beq_self_eq_true]
   rfl
  ·rw [if_neg h, show (k == q) = false by simp [h]]
   exact Qkm k R (i + 1)
theorem Qua {α : Type} [DecidableEq α] (k : α) : ∀ (R : List (α × Value)) (i j : Nat) (v : Value), seek k R i = some (j, v) -> i <= j
 | [], _, _, _, h => by cases h
 | (q, x) :: R, i, j, v, h => by
  unfold seek at h
  split at h
  ·cases h; exact Zcz _
  ·have := Qua k R (i + 1) j v h; omega
def KeysAre {α : Type} (enc : α -> Value) (es : List MapEntry) (R : List (α × Value)) : Prop := es.map (fun e => (e.key, e.val)) = R.map fun r => (enc r.1, r.2)
section
variable {α : Type} [DecidableEq α] {enc : α -> Value}
theorem KeysAre.put {k : α} {v : Value} {born : Nat} : ∀ {es : List MapEntry} {R : List (α × Value)} {i : Nat}, KeysAre enc es R -> seek k R i = none -> KeysAre enc (es ++ [{ key := enc k, val := v, born := born }]) (upd k v R)
 | [], [], _, _, _ => rfl
 | [], _ :: _, _, h, _ => by cases h
 | _ :: _, [], _, h, _ => by cases h
 | e :: es, (q, x) :: R, i, h, hs => by
  unfold KeysAre at h
  simp only [List.map_cons, List.cons.injEq] at h
  unfold seek at hs
  split at hs
  ·cases hs
  ·rename_i hk
   have ih := KeysAre.put (v := v) (born := born) (es := es) (R := R) h.2 hs
   unfold upd
   rw [if_neg hk]
   unfold KeysAre at ih ⊢
   rw [List.cons_append, List.map_cons, List.map_cons, ih, h.1]
theorem KeysAre.set {k : α} {v : Value} : ∀ {es : List MapEntry} {R : List (α × Value)} {i j : Nat} {x : Value}, KeysAre enc es R -> seek k R i = some (i + j, x) -> KeysAre enc (es.modify j fun e => { e with key := enc k, val := v }) (upd k v R) /\ ∃ e, es[j]? = some e /\ e.key = enc k
 | [], [], _, _, _, _, hs => by cases hs
 | [], _ :: _, _, _, _, h, _ => by cases h
 | _ :: _, [], _, _, _, h, _ => by cases h
 | e :: es, (q, y) :: R, i, j, x, h, hs => by
  unfold KeysAre at h
  simp only [List.map_cons, List.cons.injEq] at h
  unfold seek at hs
  unfold upd
  split at hs
  ·rename_i hk
   subst hk
   simp only [Option.some.injEq, Prod.mk.injEq] at hs
   obtain rfl : j = 0 := by omega
   rw [if_pos rfl]
   refine ⟨?_, e, rfl, congrArg Prod.fst h.1⟩
   unfold KeysAre
   show _ :: List.map _ es = _ :: _
   rw [h.2]
  ·rename_i hk
   have hge := Qua k R (i + 1) (i + j) x hs
   obtain ⟨j, rfl⟩ : ∃ j2, j = j2 + 1 := ⟨j - 1, by omega⟩
   obtain ⟨h1, e2, h2, h3⟩ := KeysAre.set (v := v) (es := es) (R := R) (i := i + 1) (j := j) (x := x) h.2 (by rw [hs]; congr 2; omega)
   rw [if_neg hk]
   refine ⟨?_, e2, h2, h3⟩
   unfold KeysAre at h1 ⊢
   rw [show List.modify (e :: es) (j + 1) (fun e => { e with key := enc k, val := v }) = e :: List.modify es j (fun e => { e with key := enc k, val := v }) from rfl, List.map_cons, List.map_cons, h1, h.1]
end
structure KeyT (P : Program) (kt : TypeId) {α : Type} [DecidableEq α] (enc : α -> Value) : Prop where
 check : ∀ (w : World) (e : Bool) (k : α), (Instr.checkKey e 10000 kt (enc k)).run P w = .ok () w
 find : ∀ (w : World) (k : α) (es : List MapEntry) (R : List (α × Value)), KeysAre enc es R -> (Instr.findKey kt (enc k) es).run P w = .ok (seek k R 0) w
 stay : ∀ (w : World) (k : α), (Instr.keyThatStays (enc k) (enc k)).run P w = .ok (enc k) w
theorem Qjj {κ : IntKind} (k : Int) : ∀ (es : List MapEntry) (R : List (Int × Value)) (i : Nat), KeysAre (fun k => .int κ k) es R -> Instr.findNow (.int κ) (.int κ k) es i = some (seek k R i)
 | [], [], _, _ => rfl
 | [], _ :: _, _, h => by cases h
 | _ :: _, [], _, h => by cases h
 | e :: es, (q, x) :: R, i, h => by
  unfold KeysAre at h
  simp only [List.map_cons, List.cons.injEq, Prod.mk.injEq] at h
  have ih := Qjj k es R (i + 1) h.2
  unfold seek
  rw [Instr.findNow, h.1.1]
  by_cases hk : k = q
  ·subst hk
   simp [Instr.sameNow, h.1.2]
  ·have hb : (k == q) = false := by simp [hk]
   simp [Instr.sameNow, hb, hk, ih]
theorem Qy6 {P : Program} {kt : TypeId} {κ : IntKind} (h : P.underlying kt = some (.int κ)) : KeyT P kt (fun k : Int => .int κ k) where
 check := fun w e k => MapKept.run_checkKey (k := .int κ k) h (by simp [MapKept.IsKey]) e 9999
 find := fun w k es R hr => MapKept.run_findKey h (Qjj k es R 0 hr)
 stay := fun w k => MapKept.run_keyThatStays (d := .int κ) (k := .int κ k) (by simp [MapKept.IsKey])
section
variable {P : Program} {o : Oper} {s : List AV} {H : List Ent} {t kt et : TypeId} {m k : Operand} {b c : Nat} {es : Array MapEntry} {α : Type} [DecidableEq α] {enc : α -> Value} {p : α}
theorem ReadW.keyMap {K : AV -> Prop} {inf : TypeInfo} {z : Value} (R : List (α × Value)) (ho : o.op = .lookup t m k false) (ht : P.underlying t = some (.map kt et)) (hkt : KeyT P kt enc) (hi : P.info? et = some inf) (hz : inf.zero = some z)
  (hm : opv s m = .c (.v (.map (some b)))) (hk : opv s k = .c (.v (enc p))) (hF : ∀ w, Qax H w -> w.heap[b]? = some (.map es c)) (hf : KeysAre enc es.toList R) (h : K (.c (.v ((R.lookup p).getD z)))) : ReadW P o s H K :=
 ReadW.val ((R.lookup p).getD z) (fun cs b e => by rw [ho] at e; cases e) (by rw [ho]; show Qar s [m, k] = true; simp [Qar, hm, hk]) (fun w hw => by
  have hb := hF w hw
  have hc := hkt.check w es.isEmpty p
  have hj := hkt.find w p es.toList R hf
  have hlk := Qkm p R 0
  have hrun : (Instr.lookup t (.map (some b)) (enc p) false).run P w = .ok ((R.lookup p).getD z) w := by
   cases hr : seek p R 0 with
   | none => rw [hr] at hj hlk; rw [<- hlk]; simp [Instr.lookup, run_underlying ht, MapKept.run_getObj_map hb, hc, hj, Result.andThen, Qbv hi hz]
   | some q => rw [hr] at hj hlk; rw [<- hlk]; simp [Instr.lookup, run_underlying ht, MapKept.run_getObj_map hb, hc, hj, Result.andThen]
  unfold execOp
  simp only [ho, Qbc hm, Qbc hk, Sem.run_bind, hrun, ZCz, Sem.run_pure]) h
theorem EffW.setMap {K : AV -> List Ent -> Prop} {x : Operand} {val : Value} (i : Nat) (R : List (α × Value)) (ho : o.op = .mapUpdate t m k x) (ht : P.underlying t = some (.map kt et)) (hkt : KeyT P kt enc)
  (hm : opv s m = .c (.v (.map (some b)))) (hk : opv s k = .c (.v (enc p))) (hx : opv s x = .c (.v val)) (hi : nthE H i = some (.mp b es c)) (hf : KeysAre enc es.toList R)
  (next : ∀ es' c', KeysAre enc es'.toList (upd p val R) -> Qd5 H i (.mp b es' c') fun H' => K (.c .any) H') : EffW P o s H K := by
 rw [Qbp] at hi
 obtain ⟨es', c', hnew, hrun⟩ : ∃ es' c', KeysAre enc es'.toList (upd p val R) /\ ∀ w : World, w.heap[b]? = some (.map es c) -> (Instr.mapUpdate t (.map (some b)) (enc p) val).run P w = .ok () { w with heap := w.heap.setIfInBounds b (.map es' c') } := by
  cases hr : seek p R 0 with
  | none =>
   refine ⟨es.push { key := enc p, val := val, born := c }, c + 1, by rw [Array.toList_push]; exact hf.put hr, fun w hb => ?_⟩
   have hj := hkt.find w p es.toList R hf
   rw [hr] at hj
   simp [Instr.mapUpdate, run_underlying ht, MapKept.run_getObj_map hb, hkt.check w false p, hj, MapKept.run_setObj_map _ hb, Result.andThen]
  | some q =>
   obtain ⟨j, v0⟩ := q
   obtain ⟨h1, e, h2, h3⟩ := hf.set (v := val) (i := 0) (j := j) (x := v0) (by rw [Nat.zero_add]; exact hr)
   refine ⟨es.modify j fun e => { e with key := enc p, val := val }, c, by rw [Array.toList_modify]; exact h1, fun w hb => ?_⟩
   have hj := hkt.find w p es.toList R hf
   rw [hr] at hj
   have h2' : es[j]? = some e := by rw [<- h2]; simp
   have hst : (Instr.keyThatStays (((es[j]?).map (·.key)).getD (enc p)) (enc p)).run P w = .ok (enc p) w := by
    rw [h2']
    show (Instr.keyThatStays e.key (enc p)).run P w = _
    rw [h3]
    exact hkt.stay w p
   simp only [Instr.mapUpdate, Sem.run_bind, run_underlying ht, ZCz, MapKept.run_getObj_map hb, hkt.check w false p, hj, hst, MapKept.run_setObj_map _ hb]
 obtain ⟨_, hk2⟩ := Qa8 (next es' c' hnew)
 refine Effs.w (fun ρ S w a hs hr => ?_) hk2
 have h1 : a.eval m = .map (some b) := by have := Qah hr m; rw [hm] at this; exact this
 have h2 : a.eval k = enc p := by have := Qah hr k; rw [hk] at this; exact this
 have h3 : a.eval x = val := by have := Qah hr x; rw [hx] at this; exact this
 have hb : w.heap[b]? = some (.map es c) := hs.ent i _ hi
 have hbl : b < w.heap.size := (Zjz.1 hb).1
 have hS := hs.setG (e' := .mp b es' c') (c := b) (w' := { w with heap := w.heap.setIfInBounds b (.map es' c') }) hi rfl (by simp) (fun j _ hne => by simp [Ne.symm hne]) rfl rfl rfl (fun _ hc => .inl (Zzz hc).symm) (by show (w.heap.setIfInBounds b _)[b]? = _; simp [hbl])
 refine ⟨.skip, undef, ρ, _, ?_, .inr ⟨rfl, rfl⟩, hS.1, hS.2, trivial⟩
 unfold execOp
 simp only [ho, h1, h2, h3, Sem.run_bind, Sem.run_pure, hrun w hb, ZCz]
end
end Go.AX
namespace Go.Core
def Qoo (L : List Int) : List (Int × Value) := L.map fun i => (i, .bool true)
theorem Qt9 (L : List Int) (i : Int) : ((Qoo L).lookup i).getD (.bool false) = .bool (decide (i ∈ L)) := by
 unfold Qoo
 induction L with
 | nil => rfl
 | cons q R ih =>
  rw [List.map_cons, List.lookup_cons]
  by_cases h : i = q
  ·subst h
   rw [beq_self_eq_true]
   simp
  ·rw [show (i == q) = false by simp [h], ih]
   simp [h]
theorem Qt8 {L : List Int} {i : Int} (h : ¬ i ∈ L) : Go.AX.upd i (.bool true) (Qoo L) = Qoo (L ++ [i]) := by
 unfold Qoo
 induction L with
 | nil => rfl
 | cons q R ih =>
  simp only [List.mem_cons, not_or] at h
  rw [List.map_cons, Go.AX.upd, if_neg h.1, ih h.2]
  rfl
theorem Qmk {β : Type} {f : β -> Int -> β} {l : List Int} {k : Nat} {x : Int} {b : β} (h : l[k]? = some x) : (l.take (k + 1)).foldl f b = f ((l.take k).foldl f b) x := by
 rw [List.take_add_one, h, List.foldl_append]
 rfl
theorem Qot (g : List Cell) : ∀ (n : Nat) (L : List Int) (i x : Int), x ∈ L -> x ∈ Qbk g n L i
 | 0, _, _, _, h => h
 | n + 1, L, i, x, h => by
  have hf : ∀ (ks L : List Int), x ∈ L -> x ∈ ks.foldl (Qbk g n) L := by
   intro ks
   induction ks with
   | nil => exact fun _ h => h
   | cons k ks ih => exact fun L h => ih _ (Qot g n L k x h)
  unfold Qbk
  split
  ·exact h
  ·exact hf _ _ (by simp [h])
theorem Qnu (g : List Cell) (n : Nat) (x : Int) : ∀ (ks L : List Int), x ∈ L -> x ∈ ks.foldl (Qbk g n) L
 | [], _, h => h
 | k :: ks, L, h => Qnu g n x ks _ (Qot g n L k x h)
theorem Qj1 {g : List Cell} {f : List Int -> Int -> List Int} (hf : ∀ L k, InI g k -> (f L k).length + Qb3 g (f L k) <= L.length + Qb3 g L) : ∀ (ks L : List Int), (∀ k ∈ ks, InI g k) -> (ks.foldl f L).length + Qb3 g (ks.foldl f L) <= L.length + Qb3 g L
 | [], _, _ => Zcz _
 | k :: ks, L, h => Zwz (Qj1 hf ks (f L k) fun x hx => h x (by simp [hx])) (hf L k (h k (by simp)))
theorem Qh5 {g : List Cell} (hg : InG g) : ∀ (n : Nat) (L : List Int) (i : Int), InI g i -> (Qbk g n L i).length + Qb3 g (Qbk g n L i) <= L.length + Qb3 g L
 | 0, _, _, _ => Zcz _
 | n + 1, L, i, hi => by
  unfold Qbk
  split
  ·exact Zcz _
  ·rename_i hm
   have h1 := Qj1 (g := g) (fun L k hk => Qh5 hg n L k hk) (outs g i) (L ++ [i]) (fun k hk => Qc5 hg hi hk)
   have h2 := Qdx hi hm (t := L ++ [i]) (fun x hx => by simp [hx]) (by simp)
   simp only [Zhz, Znz, List.length_nil] at h1
   omega
end Go.Core
namespace Go.Proofs.YtgogonnnojcioaaGreatDoor
open Go.AX Go.RowKit Go.Core
set_option maxRecDepth 20000
theorem intT : KeyT Tryz.prog 3 (fun k : Int => .int .i64 k) := Qy6 (by kernel_rfl)
def rcF (a : Option Addr) (ca : Nat) (l : List Qaj) (sb ob gb fb mb : Nat) (w : World) : Prop :=
 GrF a l w /\ SlAt (some ⟨sb, 0, none⟩) 1 [.map (some mb)] w /\ SlAt (some ⟨gb, 0, none⟩) 1 [.slice a l.length ca] w /\ SlAt (some ⟨fb, 0, none⟩) 1 [.func (.func 81) #[] #[.pointer (some ⟨sb, 0, none⟩), .pointer (some ⟨ob, 0, none⟩), .pointer (some ⟨gb, 0, none⟩), .pointer (some ⟨fb, 0, none⟩)]] w
def rcA (i : Int) (sb ob gb fb : Nat) : List AV := pvs [.int .i64 i, .pointer (some ⟨sb, 0, none⟩), .pointer (some ⟨ob, 0, none⟩), .pointer (some ⟨gb, 0, none⟩), .pointer (some ⟨fb, 0, none⟩)]
structure WSt where
 es : Array MapEntry
 c : Nat
 o : BSt
def WSt.ok (L : List Int) (st : WSt) : Prop := KeysAre (fun k : Int => .int .i64 k) st.es.toList (Qoo L) /\ st.o.ok L.length
def rcH (F : World -> Prop) (mb ob : Nat) (L : List Int) (st : WSt) : List Ent := [.mp mb st.es st.c, .app 22 1 [.slice (at0 st.o.ob) L.length st.o.cap] (some ⟨ob, 0, none⟩) 1 1, .app 3 1 (iC L) (at0 st.o.ob) L.length st.o.cap, .fact F]
theorem Qz6 (F : World -> Prop) (mb ob : Nat) (L : List Int) (st : WSt) : okH (rcH F mb ob L st).length (rcH F mb ob L st) := Qan rfl
set_option maxHeartbeats 4000000 in
theorem Qyw (a : Option Addr) (ca : Nat) (l : List Qaj) (ha : a = none -> l = []) (hs : Small l) (hok : ∀ p ∈ l, Qa5 p) (hg : InG (l.map (·.c))) (sb ob gb fb mb : Nat) : ∀ (n : Nat) (L : List Int) (st : WSt) (i : Int), InI (l.map (·.c)) i -> Qb3 (l.map (·.c)) L < n -> L.length + Qb3 (l.map (·.c)) L <= 3000 -> st.ok L ->
  SpecH Tryz.prog 81 (rcA i sb ob gb fb) (rcH (rcF a ca l sb ob gb fb mb) mb ob L st) (RetG (ι := WSt) (fun st => st.ok (Qbk (l.map (·.c)) n L i)) (fun _ => .tuple #[]) (fun st => rcH (rcF a ca l sb ob gb fb mb) mb ob (Qbk (l.map (·.c)) n L i) st)) := by
 intro n
 induction n with
 | zero => intro L st i _ h; omega
 | succ n ih =>
  rintro L ⟨es, c, o⟩ i0 hi hn hlen ⟨hk, ho⟩
  simp only at hk ho
  obtain ⟨i, rfl⟩ : ∃ i : Nat, i0 = (i : Int) := ⟨i0.toNat, by have := hi.1; omega⟩
  have hil : i < l.length := by have := hi.2; simp only [List.length_map] at this; omega
  obtain ⟨p, hp⟩ : ∃ x, l[i]? = some x := ⟨_, Zbz hil⟩
  have hpm := Ziz hp
  have hpo := hok p hpm
  have hps := hs.2 p hpm
  have hl := hs.1
  have hsa : a.isSome = true := by
   cases a with
   | none => rw [ha rfl] at hil; exact absurd hil (Nat.not_lt_zero _)
   | some b => rfl
  refine ownC hm Tryz.func81 (by kernel_rfl) rfl rfl (fun _ _ => Qz6 _ _ _ _ _) (fun _ _ => Zcz _) ?_
  refine wX ?_
  refine LdN.one (a := some ⟨sb, 0, none⟩) (q := 0) (.map (some mb)) rfl (fun w hw => hw.2.2.2.1.2.1) rfl ?_
  refine wX ?_
  refine ReadW.keyMap (et := 4) (p := (i : Int)) (Qoo L) rfl (by kernel_rfl) intT rfl rfl rfl rfl (fun w hw => hw.1) hk ?_
  rw [Qt9]
  refine wX ?_
  refine Qab (fun hmem => ?_) (fun hmem => ?_)
  ·have hsf : Qbk (l.map (·.c)) (n + 1) L (i : Int) = L := by unfold Qbk; rw [if_pos hmem]
   rw [hsf]
   refine wX ?_
   exact ⟨⟨es, c, o⟩, ⟨hk, ho⟩, rfl, Qag _⟩
  have hsf : Qbk (l.map (·.c)) (n + 1) L (i : Int) = (outs (l.map (·.c)) (i : Int)).foldl (Qbk (l.map (·.c)) n) (L ++ [(i : Int)]) := by
   conv => lhs; unfold Qbk
   rw [if_neg hmem]
  rw [hsf, show outs (l.map (·.c)) (i : Int) = p.c.items by unfold outs; rw [Qgx hp]]
  have hlt := Qdx hi hmem (t := L ++ [(i : Int)]) (fun x hx => by simp [hx]) (by simp)
  refine wX ?_
  refine LdN.one (a := some ⟨sb, 0, none⟩) (q := 0) (.map (some mb)) rfl (fun w hw => hw.2.2.2.1.2.1) rfl ?_
  refine wX ?_
  refine EffW.setMap (et := 4) (p := (i : Int)) 0 (Qoo L) rfl (by kernel_rfl) intT rfl rfl rfl rfl hk fun es2 c2 hk2 => ?_
  rw [Qt8 hmem] at hk2
  obtain ⟨ob0, ocap⟩ := o
  refine wX ?_
  refine LdN.one (a := some ⟨ob, 0, none⟩) (q := 0) (.slice (at0 ob0) L.length ocap) rfl (fun w hw => hw.2.1) rfl ?_
  refine wX ?_
  try refine Nd.mk ⟨Zcz 1, rfl, rfl⟩ ?_
  (conv => whnf)
  refine AppN.grow 2 (iC L) [.int .i64 (i : Int)] rfl rfl ⟨Zcz 1, ⟨by show (L.length + 1) * 8 <= _; omega, by omega⟩, Nat.one_ne_zero⟩ fun wb wc hwc _ => ?_
  have hcl : iC L ++ [.int .i64 (i : Int)] = iC (L ++ [(i : Int)]) := by simp [iC]
  have hll : L.length + 1 = (L ++ [(i : Int)]).length := by simp
  have hlen2 : (L ++ [(i : Int)]).length + Qb3 (l.map (·.c)) (L ++ [(i : Int)]) <= 3000 := by rw [<- hll]; omega
  rw [hcl, hll]
  have hwc2 : (L ++ [(i : Int)]).length <= wc := by rw [<- hll]; exact hwc
  generalize L ++ [(i : Int)] = L2 at *
  refine wX ?_
  refine EffW.appTo (i := 1) (q := 0) (ys := [.slice (some ⟨wb, 0, none⟩) L2.length wc]) [.slice (some ⟨wb, 0, none⟩) L2.length wc] 1 rfl rfl rfl rfl rfl rfl rfl (Zaz rfl) rfl rfl ?_
  refine wX ?_
  refine LdN.one (a := some ⟨gb, 0, none⟩) (q := 0) (.slice a l.length ca) rfl (fun w hw => hw.2.2.2.1.2.2.1) rfl ?_
  refine wX ?_
  refine Nd.mk ⟨hsa, by omega, by omega⟩ ?_
  refine wX ?_
  refine LdN.fld (.slice p.ia p.c.items.length p.ic) rfl (fun w hw => hw.2.2.2.1.1.1) (by rw [Zdz]; exact Qau l i 4 (by decide) hp) ?_
  refine wX ?_
  have hitem : ∀ x ∈ p.c.items, InI (l.map (·.c)) x := fun x hx => Qc5 hg hi (by unfold outs; rw [Qgx hp]; exact hx)
  obtain ⟨f, hf⟩ : ∃ f, f = Qbk (l.map (·.c)) n := ⟨_, rfl⟩
  have hfl : ∀ k, ((p.c.items.take k).foldl f L2).length + Qb3 (l.map (·.c)) ((p.c.items.take k).foldl f L2) <= 3000 := fun k => by
   rw [hf]
   have := Qj1 (g := l.map (·.c)) (fun L k hk => Qh5 hg n L k hk) (p.c.items.take k) L2 (fun x hx => hitem x (List.mem_of_mem_take hx))
   omega
  have hff : ∀ k, Qb3 (l.map (·.c)) ((p.c.items.take k).foldl f L2) < n := fun k => by
   rw [hf]
   have := Qct (g := l.map (·.c)) (s := L2) (t := (p.c.items.take k).foldl (Qbk (l.map (·.c)) n) L2) (fun x hx => Qnu _ n x _ _ hx)
   omega
  rw [<- hf] at ih ⊢
  refine LoopN.intro (Nat × WSt) (fun ⟨k, st⟩ => k <= p.c.items.length /\ st.ok ((p.c.items.take k).foldl f L2))
   (fun ⟨k, st⟩ => mkS Tryz.f81.ntmps 0 [(4, .c (.v (.pointer (some ⟨fb, 0, none⟩)))), (21, .c (.v (.slice p.ia p.c.items.length p.ic))), (22, .c (.v (.int .i64 (p.c.items.length : Int)))), (23, .c (.v (.int .i64 (k : Int))))])
   (fun ⟨k, st⟩ => rcH (rcF a ca l sb ob gb fb mb) mb ob ((p.c.items.take k).foldl f L2) st ++ [.dead]) (fun ⟨k, _⟩ => p.c.items.length - k) [] rfl (fun ⟨_, _⟩ => rfl) (fun ⟨_, _⟩ => rfl) (fun ⟨_, _⟩ _ => Qan rfl) ?_ ?_
  ·refine ⟨(0, ⟨es2, c2, ⟨some wb, wc⟩⟩), ⟨Zkz _, hk2, (fun h => by cases h), hwc2, fun h => by have : wc = 0 := h; omega⟩, ?_, Qaa _, Qaa _, Qaa _, Qaa _, trivial, trivial⟩
   exact wKK
  rintro ⟨k, st⟩ ⟨hk3, hst⟩
  refine wX ?_
  refine Qab (fun h1 => ?_) (fun h1 => ?_)
  ·obtain ⟨x, hx⟩ : ∃ z, p.c.items[k]? = some z := ⟨_, Zbz (by omega)⟩
   have hxa : p.ia.isSome = true := by
    cases hq : p.ia with
    | none => rw [hpo.ia hq] at hx; cases hx
    | some b => rfl
   refine wX ?_
   refine Nd.mk ⟨hxa, by omega, by omega⟩ ?_
   refine wX ?_
   refine LdN.one (.int .i64 x) rfl (fun w hw => (hw.2.2.2.1.1.2 p hpm).2) (by rw [Zdz]; show (iC p.c.items)[k * 1]? = _; rw [Nat.mul_one]; exact Qcb hx) ?_
   refine wX ?_
   refine LdN.one (a := some ⟨fb, 0, none⟩) (q := 0) (.func (.func 81) #[] #[.pointer (some ⟨sb, 0, none⟩), .pointer (some ⟨ob, 0, none⟩), .pointer (some ⟨gb, 0, none⟩), .pointer (some ⟨fb, 0, none⟩)]) rfl (fun w hw => hw.2.2.2.1.2.2.2) rfl ?_
   refine wX ?_
   refine SpecH.args (args' := rcA x sb ob gb fb) (by simp [rcA, pvs, opvs, opv, nth, Qat]; try rfl) ?_
   refine Qai (ih ((p.c.items.take k).foldl f L2) st x (hitem x (Ziz hx)) (hff k) (hfl k) hst) [0, 1, 2, 3] rfl ⟨rfl, rfl, rfl, rfl, trivial⟩ rfl fun st2 hst2 => ?_
   have hnx : f ((p.c.items.take k).foldl f L2) x = (p.c.items.take (k + 1)).foldl f L2 := (Qmk hx).symm
   rw [hnx] at hst2 ⊢
   refine wX ?_
   refine ⟨(k + 1, st2), ⟨by omega, hst2⟩, by show p.c.items.length - (k + 1) < p.c.items.length - k; omega, ?_, Qag _⟩
   exact wKK
  ·have hkl : k = p.c.items.length := by omega
   subst hkl
   rw [Ztz] at hst ⊢
   refine wX ?_
   exact ⟨st, hst, rfl, Qaa _, Qaa _, Qaa _, Qaa _, trivial⟩
end Go.Proofs.YtgogonnnojcioaaGreatDoor
namespace Go.Proofs.YtgogonnnojcioaaGreatDoor
open Go.AX Go.RowKit Go.Core Go.Scan
set_option maxRecDepth 20000
theorem Qx1 (a : Option Addr) (c : Nat) (l : List Int) (x : Int) (ha : a = none -> l = []) (hl : l.length <= 200000000000000) : ∀ H, (∀ w, Qax H w -> SlAt a (l.length * 1) (iC l) w) -> SpecH Tryz.prog 69 (pvs [.slice a l.length c, .int .i64 x]) H (Ret (.bool (decide (x ∈ l))) H) := by
 refine Qem hm Tryz.func69 (by kernel_rfl) rfl rfl ?_
 refine wX ?_
 refine Qdu Nat (fun i => i <= l.length /\ x ∉ l.take i) (fun i => mkS Tryz.f69.ntmps 0 [(0, .c (.v (.slice a l.length c))), (1, .c (.v (.int .i64 x))), (5, .c (.v (.int .i64 (i : Int))))]) (fun i => l.length - i) rfl (fun _ => rfl) 0 ⟨Zkz _, by simp⟩ ?_ ?_
 ·exact wKK
 intro i ⟨hi, hno⟩
 refine wX ?_
 refine Qab (fun h1 => ?_) (fun h1 => ?_)
 ·obtain ⟨s, hs⟩ : ∃ s, l[i]? = some s := ⟨_, Zbz (by omega)⟩
  have hsa : a.isSome = true := by
   cases a with
   | none => rw [ha rfl] at hs; cases hs
   | some b => rfl
  refine wX ?_
  refine Nd.mk ⟨hsa, by omega, by omega⟩ ?_
  refine wX ?_
  refine LdN.one (.int .i64 s) rfl (fun w hw => hw.1) (by rw [Zdz]; show (iC l)[i * 1]? = _; rw [Nat.mul_one]; exact Qcb hs) ?_
  refine wX ?_
  refine Qa0 (fun h2 => ?_) (fun h2 => ?_)
  ·refine wX ?_
   exact Qac (decide_eq_true (h2 ▸ Ziz hs)).symm
  ·refine wX ?_
   refine ⟨i + 1, ⟨by omega, ?_⟩, by omega, ?_, wHH⟩
   ·rw [List.take_add_one, hs]
    intro h
    rcases Zmz.1 h with h | h
    ·exact hno h
    ·exact h2 (Zgz.1 (show x ∈ [s] from h)).symm
   ·exact wKK
 ·have hin : i = l.length := by omega
  subst hin
  rw [Ztz] at hno
  refine wX ?_
  exact Qac (decide_eq_false hno).symm
end Go.Proofs.YtgogonnnojcioaaGreatDoor
namespace Go.AX
theorem BlindW.min2 {P : Program} {o : Oper} {s : List AV} {K : AV -> Prop} {x y : Operand} {args : Array Operand} {ts : Array TypeId} {a b : Int} (ho : o.op = .call { callee := .builtin .min, args := args, argTypes := ts }) (ha : args = #[x, y])
  (hx : opv s x = .c (.v (.int .i64 a))) (hy : opv s y = .c (.v (.int .i64 b))) (hk : K (.c (.v (.int .i64 (minI a b))))) : ∃ x, BlindW P o s K x := by
 subst ha
 refine ⟨.int .i64 (minI a b), ?_, fun w => Qcd ho fun consts => ?_, hk⟩
 ·rw [ho]
  show Qar s [x, y] = true
  simp [Qar, hx, hy]
 ·have e1 : Qat s x = .int .i64 a := by unfold Qat; rw [hx]
  have e2 : Qat s y = .int .i64 b := by unfold Qat; rw [hy]
  simp [builtin, Builtin.min_, Builtin.min2, e1, e2, minI]
end Go.AX
namespace Go.Proofs.YtgogonnnojcioaaGreatDoor
open Go.AX Go.RowKit Go.Core Go.Scan
set_option maxRecDepth 20000
section
attribute [local irreducible] Int.decLt
end
end Go.Proofs.YtgogonnnojcioaaGreatDoor
namespace Go.Proofs.YtgogonnnojcioaaGreatDoor
open Go.AX Go.RowKit Go.Core Go.Scan
set_option maxRecDepth 20000
theorem Qm3 {l m : List Qaj} (hs : Small l) (h : m.map (·.c) = l.map (·.c)) : Small m := by
 refine ⟨by have := congrArg List.length h; simp at this; have := hs.1; omega, fun p hp => ?_⟩
 have h1 : p.c ∈ l.map (·.c) := h ▸ List.mem_map_of_mem hp
 obtain ⟨q, hq, e⟩ := Zoz.1 h1
 rw [<- e]
 exact hs.2 q hq
theorem QA7 (a : Option Addr) (ca : Nat) (l : List Qaj) (ha : a = none -> l = []) (hl : l.length <= 200000000000000) (hok : ∀ p ∈ l, Qa5 p) (u : Int) :
  ∀ H, (∀ w, Qax H w -> GrF a l w) -> ∃ b : Bool, (b = true ↔ AskP (l.map (·.c)) [u]) /\ SpecH Tryz.prog 42 (pvs [.slice a l.length ca, .int .i64 u]) H (Ret (.bool b) H) := by
 intro H hH
 obtain ⟨b, hb⟩ : ∃ b : Bool, b = true ↔ AskP (l.map (·.c)) [u] := by
  by_cases h : AskP (l.map (·.c)) [u]
  ·exact ⟨true, fun _ => h, fun _ => rfl⟩
  ·exact ⟨false, (fun h => by cases h), fun h2 => absurd h2 h⟩
 refine ⟨b, hb, ?_⟩
 have hgl : (l.map (·.c)).length = l.length := by simp
 refine Qem hm Tryz.func42 (by kernel_rfl) rfl rfl ?_ H hH
 refine wX ?_
 obtain ⟨v, hv1, hv2⟩ := Qq7 a ca l ha hl hok [.fact (GrF a l)] (fun w hw => hw.1)
 refine Qao hv2 ?_
 cases v with
 | false =>
  refine wX ?_
  exact Qac (by
   cases b with
   | false => rfl
   | true => exact absurd (hv1.2 (hb.1 rfl).1) (by decide))
 | true =>
  refine wX ?_
  refine Qab (fun h1 => ?_) (fun h1 => ?_)
  ·refine wX ?_
   refine Qac ?_
   rw [Zsz, hb, ZBz]
   constructor
   ·intro h
    exact ⟨hv1.1 rfl, fun x hx => by rw [Zgz.1 hx]; omega⟩
   ·intro h
    have := h.2 u (by simp)
    omega
  ·refine wX ?_
   refine Qac ?_
   cases b with
   | false => rfl
   | true => have := (hb.1 rfl).2 u (by simp); omega
end Go.Proofs.YtgogonnnojcioaaGreatDoor
namespace Go.Proofs.YtgogonnnojcioaaGreatDoor
open Go.AX Go.RowKit Go.Core
set_option maxRecDepth 20000
def IntR (L : List Int) (v : Value) (G : World -> Prop) : Prop := ∃ (oa : Option Addr) (oc : Nat), v = .slice oa L.length oc /\ (oa = none -> L = []) /\ ∀ w, G w -> SlAt oa (L.length * 1) (iC L) w
def IntE (e : Bool) (L : List Int) (v : Value) (G : World -> Prop) : Prop := ∃ (oa : Option Addr) (oc : Nat), v = .tuple #[.slice oa L.length oc, errI e] /\ (oa = none -> L = []) /\ ∀ w, G w -> SlAt oa (L.length * 1) (iC L) w
def Qgj (g : List Cell) (i : Int) : List Int := Qbk g (g.length + 1) [] i
set_option maxHeartbeats 4000000 in
theorem Qyy {a : Option Addr} (ca : Nat) {l : List Qaj} (ha : a = none -> l = []) (hs : Small l) (hok : ∀ p ∈ l, Qa5 p) (hg : InG (l.map (·.c))) (i : Int) (hi : InI (l.map (·.c)) i) :
  SpecF Tryz.prog 54 [.slice a l.length ca, .int .i64 i] (GrF a l) (IntR (Qgj (l.map (·.c)) i)) := by
 refine Qm2 hm Tryz.func54 (by kernel_rfl) rfl rfl ?_
 (conv => whnf)
 refine BoxN.known [.slice a l.length ca] rfl fun gb => ?_
 refine wXB ?_
 refine EffW.mkMap rfl fun mb => ?_
 refine wXB ?_
 refine BoxN.known [.map none] rfl fun sb => ?_
 refine wXB ?_
 refine EffW.appTo (i := 3) (q := 0) (ys := [.map (some mb)]) [.map (some mb)] 1 rfl rfl rfl rfl rfl rfl rfl (Zaz rfl) rfl rfl ?_
 refine wXB ?_
 refine BoxN.known [.slice none 0 0] rfl fun ob => ?_
 refine wXB ?_
 refine BoxN.known [.nilFunc] rfl fun fb => ?_
 refine wXB ?_
 refine EffW.appTo (i := 5) (q := 0) (ys := [.func (.func 81) #[] #[.pointer (some ⟨sb, 0, none⟩), .pointer (some ⟨ob, 0, none⟩), .pointer (some ⟨gb, 0, none⟩), .pointer (some ⟨fb, 0, none⟩)]]) [.func (.func 81) #[] #[.pointer (some ⟨sb, 0, none⟩), .pointer (some ⟨ob, 0, none⟩), .pointer (some ⟨gb, 0, none⟩), .pointer (some ⟨fb, 0, none⟩)]] 1 rfl rfl rfl (by simp [opv, nth, Qat, Qdz, vs]; try rfl) rfl rfl rfl (Zaz rfl) rfl rfl ?_
 refine wXB ?_
 refine LdN.one (a := some ⟨fb, 0, none⟩) (q := 0) (.func (.func 81) #[] #[.pointer (some ⟨sb, 0, none⟩), .pointer (some ⟨ob, 0, none⟩), .pointer (some ⟨gb, 0, none⟩), .pointer (some ⟨fb, 0, none⟩)]) rfl (fun w hw => hw.2.2.2.2.2.1) rfl ?_
 refine wXB ?_
 refine SpecH.args (args' := rcA i sb ob gb fb) (by simp [rcA, pvs, opvs, opv, nth, Qat]; try rfl) ?_
 refine SpecH.pad [.app 3 1 [] none 0 0] rfl ?_
 refine SpecH.turn [.fact (GrF a l), .fact (rcF a ca l sb ob gb fb mb), .mp mb #[] 0, .dead, .app 22 1 [.slice none 0 0] (some ⟨ob, 0, none⟩) 1 1, .dead, .app 3 1 [] none 0 0] ⟨.inr (.inl rfl), .inr (.inr ⟨_, rfl, fun w hw => ⟨hw.1, hw.2.2.1, hw.2.1, hw.2.2.2.1⟩⟩), .inr (.inl rfl), .inl rfl, .inr (.inl rfl), .inl rfl, .inr (.inl rfl), trivial⟩ ?_
 have hfr := Qf2 (l.map (·.c)) []
 have hgl : (l.map (·.c)).length = l.length := by simp
 have hl := hs.1
 refine Qai (Qyw a ca l ha hs hok hg sb ob gb fb mb ((l.map (·.c)).length + 1) [] ⟨#[], 0, ⟨none, 0⟩⟩ i hi (by omega) (by simp only [List.length_nil]; omega) ⟨rfl, fun _ => ⟨rfl, rfl⟩, Zcz _, fun _ => rfl⟩) [2, 4, 6, 1] rfl ⟨rfl, rfl, rfl, rfl, trivial⟩ rfl fun ⟨es, c, ⟨ob2, oc⟩⟩ hst => ?_
 obtain ⟨_, h2⟩ := hst
 have hL : Qbk (l.map (·.c)) ((l.map (·.c)).length + 1) [] i = Qgj (l.map (·.c)) i := rfl
 rw [hL] at h2 ⊢
 generalize Qgj (l.map (·.c)) i = L at *
 refine wX ?_
 refine LdN.one (a := some ⟨ob, 0, none⟩) (q := 0) (.slice (at0 ob2) L.length oc) rfl (fun w hw => hw.2.2.2.1) rfl ?_
 refine wX ?_
 refine Qfc (SlAt (at0 ob2) (L.length * 1) (iC L)) ⟨_, _, rfl, fun h => ?_, fun w hw => hw⟩ fun w hw => ?_
 ·cases ob2 with
  | none => exact Zez (h2.1 rfl).1
  | some b => cases h
 ·exact hw.2.2.2.2.1
end Go.Proofs.YtgogonnnojcioaaGreatDoor
namespace Go.Proofs.YtgogonnnojcioaaGreatDoor
open Go.AX Go.RowKit Go.Core
set_option maxRecDepth 20000
def QAz (u d : List Int) (i : Int) : Int := if i ∈ u then 1 else if i ∈ d then 2 else 0
def okC (u d : List Int) (st : Array MapEntry × Nat) : Prop := ∃ R : List (Int × Value), KeysAre (fun k : Int => .int .i64 k) st.1.toList R /\ ∀ i, (R.lookup i).getD (.int .i64 0) = .int .i64 (QAz u d i)
def Qpu (g : List Cell) (i : Int) : Bool := (Qgc g (g.length + 1) [] [] i).1
end Go.Proofs.YtgogonnnojcioaaGreatDoor
namespace Go.Core
def idxP (n : Nat) (p : Int × Int) : Nat := p.1.toNat * n + p.2.toNat
theorem Qvf {g : List Cell} {p : Int × Int} (h : InP g p) : idxP g.length p < g.length * g.length := by
 obtain ⟨⟨h1, h2⟩, h3, h4⟩ := h
 unfold idxP
 have : (p.1.toNat + 1) * g.length <= g.length * g.length := Nat.mul_le_mul_right _ (by omega)
 rw [Nat.add_mul, Nat.one_mul] at this
 omega
theorem Qw3 {g : List Cell} {p q : Int × Int} (hp : InP g p) (hq : InP g q) (h : idxP g.length p = idxP g.length q) : p = q := by
 obtain ⟨⟨a1, a2⟩, a3, a4⟩ := hp
 obtain ⟨⟨b1, b2⟩, b3, b4⟩ := hq
 unfold idxP at h
 have m1 : (p.1.toNat * g.length + p.2.toNat) % g.length = p.2.toNat := by rw [Nat.mul_add_mod_self_right]; exact Nat.mod_eq_of_lt (by omega)
 have m2 : (q.1.toNat * g.length + q.2.toNat) % g.length = q.2.toNat := by rw [Nat.mul_add_mod_self_right]; exact Nat.mod_eq_of_lt (by omega)
 have hz : p.2.toNat = q.2.toNat := by rw [<- m1, <- m2, h]
 have hx : p.1.toNat = q.1.toNat := Nat.eq_of_mul_eq_mul_right (show 0 < g.length by omega) (by omega)
 exact Prod.ext (by omega) (by omega)
structure SeenS (g : List Cell) (l : List (Int × Int)) (S : List Bool) : Prop where
 len : S.length = g.length * g.length
 get : ∀ p, InP g p -> S[idxP g.length p]? = some (decide (p ∈ l))
theorem SeenS.none (g : List Cell) : SeenS g [] (List.replicate (g.length * g.length) false) := ⟨by simp, fun p hp => by rw [List.getElem?_replicate, if_pos (Qvf hp)]; simp⟩
theorem SeenS.put {g : List Cell} {l : List (Int × Int)} {S : List Bool} (h : SeenS g l S) {p : Int × Int} (hp : InP g p) : SeenS g (l ++ [p]) (S.set (idxP g.length p) true) := by
 refine ⟨by rw [List.length_set, h.len], fun q hq => ?_⟩
 by_cases e : q = p
 ·subst e
  rw [List.getElem?_set_self (by rw [h.len]; exact Qvf hq)]
  simp
 ·rw [Zyz (fun he => e (Qw3 hp hq he).symm), h.get q hq]
  simp [e]
end Go.Core
namespace Go.Proofs.YtgogonnnojcioaaGreatDoor
open Go.AX Go.RowKit Go.Core
set_option maxRecDepth 20000
theorem Qn1 (g : List Cell) (cs : List Int) : ∃ b : Bool, b = true ↔ AskP g cs := by
 by_cases h : AskP g cs
 ·exact ⟨true, fun _ => h, fun _ => rfl⟩
 ·exact ⟨false, (fun h => by cases h), fun h2 => absurd h2 h⟩
end Go.Proofs.YtgogonnnojcioaaGreatDoor
namespace Go.Proofs.YtgogonnnojcioaaGreatDoor
open Go.AX Go.RowKit Go.Core
set_option maxRecDepth 20000
set_option maxHeartbeats 4000000 in
theorem Qzo {a : Option Addr} (ca : Nat) {l : List Qaj} (ha : a = none -> l = []) (hs : Small l) (hok : ∀ p ∈ l, Qa5 p) (u : Int) :
  ∃ e : Bool, (e = true ↔ AskP (l.map (·.c)) [u]) /\ SpecF Tryz.prog 33 [.slice a l.length ca, .int .i64 u] (GrF a l) (IntE e (if e then Qgj (l.map (·.c)) u else [])) := by
 obtain ⟨e, he⟩ := Qn1 (l.map (·.c)) [u]
 refine ⟨e, he, ?_⟩
 refine Qm2 hm Tryz.func33 (by kernel_rfl) rfl rfl ?_
 refine wXR ?_
 refine RwN.known [.int .i64 u] rfl fun rb => ?_
 refine wXR ?_
 obtain ⟨t, ht1, ht2⟩ := Qzk a ca l ha hs hok (some ⟨rb, 0, none⟩) 1 [u] (fun h => by cases h) (by simp) [.fact (GrF a l), .app 3 1 [.int .i64 u] (some ⟨rb, 0, none⟩) 1 1] (fun w hw => ⟨hw.1, hw.2.1⟩)
 obtain rfl : t = e := by rw [Zsz, ht1, he]
 refine Qao ht2 ?_
 cases t with
 | false =>
  refine wX ?_
  exact Qfc (fun _ => True) ⟨_, _, rfl, fun _ => rfl, fun w _ => SlAt.nil⟩ fun w hw => trivial
 | true =>
  have hask := he.1 rfl
  have hin := Qds hask.1
  refine wX ?_
  refine SpecF.call (Qyy ca ha hs hok hin u (hask.2 u (by simp))) (fun w hw => hw.1) fun v G hv => ?_
  obtain ⟨oa, oc, rfl, hoa, hG⟩ := hv
  refine wX ?_
  exact Qfc G ⟨oa, oc, rfl, hoa, hG⟩ fun w hw => hw.2.2.1
end Go.Proofs.YtgogonnnojcioaaGreatDoor
