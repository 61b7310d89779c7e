/-
  Lemmas (V1 Ax50 V2 P11).
-/
import Derived.RangeFuncBox
import Derived.RangeFuncLeaves
import Derived.Shelf.Abstract
import Derived.WalkKit
import Derived.OwnWalkIn
import Derived.TacticsInMore
import Derived.LoopNIn
import Derived.LoopIn
import Derived.Maps.AppendAt
import Derived.Laws.AppendOwn
import Derived.Sort.OwnSorted
import Derived.Lib.SlicesCompact
import Derived.Test.YtahjbnfbilkbcaaGreatDoorPrt5
/-
  Contracts: slices.Values and slices.AppendSeq at strings (turned from the guide's worked callers of iterators).
-/
namespace Go.Proofs.YtahjbnfbilkbcaaGreatDoor
open Go.RowKit Go.Shelf Go.AX Go.Proofs

attribute [local go_sem] Oper.semAt_some

/-- What has come when k rounds are over. -/
def upto {α : Type} (f : Nat → α) (k : Nat) : List α := (List.range k).map f
theorem upto_succ {α : Type} (f : Nat → α) (k : Nat) : upto f (k + 1) = upto f k ++ [f k] := by simp [upto, List.range_succ]
theorem upto_length {α : Type} (f : Nat → α) (k : Nat) : (upto f k).length = k := by simp [upto]
theorem upto_all (zs : List (List UInt8)) : upto (fun j => zs[j]?.getD []) zs.length = zs := by
  apply List.ext_getElem
  · simp [upto]
  · intro i h1 h2
    simp [upto, h2]
theorem upto_take (zs : List (List UInt8)) {k : Nat} (hk : k ≤ zs.length) : upto (fun j => zs[j]?.getD []) k = zs.take k := by
  apply List.ext_getElem
  · simp [upto, hk]
  · intro i h1 h2
    have : i < zs.length := by simp [upto] at h1; omega
    simp [upto, this]

set_option maxRecDepth 100000 in
set_option maxHeartbeats 4000000 in
theorem values1_in (F : Fence) (n : Nat) (h7 : F.fn 114) (hro : F.round = none) (hn : 1 ≤ n) (l Bs n₀ b off len cap : Nat) (zs : List (List UInt8)) (hreach : len * 16 ≤ 140737488351232) (hb : b < n₀) (J Jx : List (List UInt8) → World → Prop)
    (hY : ∀ pre x W, J pre W → pre.length < len → YieldAt F (n - 1) Tryz.prog l #[.string (bs x)] W fun e W' =>
      (e = .returned (.bool true) ∧ J (pre ++ [x]) W' ∧ Below n₀ W W') ∨ (e = .returned (.bool false) ∧ Jx (pre ++ [x]) W'))
    (W : World) (hBs : W.cell? ⟨Bs, 0, none⟩ = some (.slice (some ⟨b, off, none⟩) len cap)) (hc : ∀ j, j < len → W.cell? ⟨b, off + j, none⟩ = some (.string (bs (zs[j]?.getD [])))) (h0 : J [] W) :
    CallsIn F n Tryz.prog 114 #[.func (.yield l) #[] #[], .pointer (some ⟨Bs, 0, none⟩)] W fun e W' => (∃ v, e = .returned v) ∧
      ((∃ ys, ys = upto (fun j => zs[j]?.getD []) len ∧ J ys W') ∨ (∃ pre, (∃ k, k ≤ len ∧ pre = upto (fun j => zs[j]?.getD []) k) ∧ Jx pre W')) := by
  refine callsIn_of_wp Tryz.func114 rfl h7 ?_ hro
  simp only [Tryz.ntmps114, List.size_toArray, List.length_cons, List.length_nil, Nat.reduceAdd, Nat.reduceSub, Array.replicate_succ, Array.replicate_zero, List.push_toArray, List.append_toArray, List.nil_append, List.cons_append]
  gi_wp2
  gi_loopw [7] (fun i wr => ∃ k : Nat, k ≤ len ∧ i = .int .i64 k ∧ J (upto (fun j => zs[j]?.getD []) k) wr ∧ Below n₀ W wr)
    (fun i _ => len - (intOf i).toNat)
  case atStart => exact ⟨0, Nat.zero_le _, rfl, h0, Below.refl _ _⟩
  case round =>
    obtain ⟨k, hk, rfl, hJs, hnx⟩ := hrel
    have hcx : k < len → wr.cell? ⟨b, off + k, none⟩ = some (.string (bs (zs[k]?.getD []))) := fun h => (hnx.cell (p := ⟨b, off + k, none⟩) hb).trans (hc k h)
    by_cases hlt : k < len
    · obtain ⟨fn, tmps, assign, body, hy, hR⟩ := hY _ (zs[k]?.getD []) wr hJs (by rw [upto_length]; exact hlt)
      have hcx' := hcx hlt
      gi_wp2
      refine hR.mono ?_
      rintro e W3 (⟨rfl, hJ3, hk3⟩ | ⟨rfl, hJx3⟩)
      · gi_wp2
        go_roundw
        case rel => exact ⟨k + 1, by omega, by simp, by rw [upto_succ]; exact hJ3, hnx.trans hk3⟩
        case measure => simp [intOf]; omega
      · gi_wp2
        refine bodyPost_ret (results_none rfl _ _ _) rfl ?_
        exact ⟨⟨_, rfl⟩, .inr ⟨_, ⟨k + 1, by omega, (upto_succ _ _).symm⟩, hJx3⟩⟩
    · obtain rfl : k = len := by omega
      gi_wp2
      go_end0
      exact ⟨⟨_, rfl⟩, .inl ⟨_, rfl, hJs⟩⟩
/-- The slice value sv holds the strings zs, in a block below n₀; or it is nil and there are none. -/
def StrsAt (n₀ : Nat) (W : World) (sv : Value) (zs : List (List UInt8)) : Prop :=
  (∃ a cap, sv = .slice a 0 cap ∧ zs = []) ∨ ∃ b off cap, sv = .slice (some ⟨b, off, none⟩) zs.length cap ∧ b < n₀ ∧ ∀ j, j < zs.length → W.cell? ⟨b, off + j, none⟩ = some (.string (bs (zs[j]?.getD [])))
theorem StrsAt.below {n₀ : Nat} {A B : World} (h : Below n₀ A B) {sv : Value} {zs : List (List UInt8)} : StrsAt n₀ A sv zs → StrsAt n₀ B sv zs
  | .inl e => .inl e
  | .inr ⟨b, off, cap, e, hb, hc⟩ => .inr ⟨b, off, cap, e, hb, fun j hj => (h.cell (p := ⟨b, off + j, none⟩) hb).trans (hc j hj)⟩

set_option maxRecDepth 100000 in
set_option maxHeartbeats 1000000 in
theorem values1_nil_in (F : Fence) (n : Nat) (h7 : F.fn 114) (hro : F.round = none) (l Bs : Nat) (a : Option Addr) (cap : Nat) (J : List (List UInt8) → World → Prop) (W : World) (hBs : W.cell? ⟨Bs, 0, none⟩ = some (.slice a 0 cap)) (h0 : J [] W) :
    CallsIn F n Tryz.prog 114 #[.func (.yield l) #[] #[], .pointer (some ⟨Bs, 0, none⟩)] W fun e W' => (∃ v, e = .returned v) ∧ J [] W' := by
  refine callsIn_of_wp Tryz.func114 rfl h7 ?_ hro
  simp only [Tryz.ntmps114, List.size_toArray, List.length_cons, List.length_nil, Nat.reduceAdd, Nat.reduceSub, Array.replicate_succ, Array.replicate_zero, List.push_toArray, List.append_toArray, List.nil_append, List.cons_append]
  gi_wp2
  gi_loopw [7] (fun i wr => i = .int .i64 0 ∧ J [] wr) (fun _ _ => 0)
  case atStart => exact ⟨rfl, h0⟩
  case round =>
    obtain ⟨rfl, hJs⟩ := hrel
    gi_wp2
    go_end0
    exact ⟨⟨_, rfl⟩, hJs⟩

theorem values_stops (F : Fence) (n : Nat) (h7 : F.fn 114) (hro : F.round = none) (hn : 1 ≤ n) (Bs n₀ : Nat) (sv : Value) (zs : List (List UInt8)) (hreach : zs.length * 16 ≤ 140737488351232) (w : World) (hBs : Bs < w.heap.size) (hn₀ : n₀ ≤ w.heap.size)
    (hc : w.cell? ⟨Bs, 0, none⟩ = some sv) (hI : StrsAt n₀ w sv zs) :
    SeqStopsK F n Tryz.prog 114 #[.pointer (some ⟨Bs, 0, none⟩)] (fun x : List UInt8 => #[Value.string (bs x)]) (Below n₀) (fun ys => ys = zs) (fun pre => pre <+: zs) zs.length w := fun l J Jx W hW _ _ hY h0 => by
  have hc' := (hW.cell (p := ⟨Bs, 0, none⟩) hBs).trans hc
  rcases hI.below (hW.mono hn₀) with ⟨a, cap, rfl, rfl⟩ | ⟨b, off, cap, rfl, hb, hcs⟩
  · exact (values1_nil_in F n h7 hro l Bs a cap J W hc' h0).mono fun e W' ⟨he, hj⟩ => ⟨he, .inl ⟨_, rfl, hj⟩⟩
  · refine (values1_in F n h7 hro hn l Bs n₀ b off zs.length cap zs hreach hb J Jx hY W hc' hcs h0).mono ?_
    rintro e W' ⟨he, ⟨ys, rfl, hj⟩ | ⟨pre, ⟨k, hk, rfl⟩, hj⟩⟩
    · exact ⟨he, .inl ⟨_, upto_all zs, hj⟩⟩
    · exact ⟨he, .inr ⟨_, by rw [upto_take zs hk]; exact List.take_prefix _ _, hj⟩⟩

theorem info_str : (Tryz.prog.info? 9).map (fun i => (i.zero, i.size, i.bytes)) = some (some (.string ⟨#[]⟩), 1, 16) := by kernel_rfl

set_option maxRecDepth 100000 in
set_option maxHeartbeats 4000000 in
/-- AppendSeq(nil, Values of zs): a new slice that holds zs. -/
theorem appendSeq_in (F : Fence) (n : Nat) (h3 : F.fn 127) (h5 : F.fn 114) (hro : F.round = none) (hn : 3 ≤ n) (Bs : Nat) (sv : Value) (zs : List (List UInt8)) (hlen : zs.length ≤ maxLen) (hbytes : zs.length * 16 ≤ 140737488351232) (w : World) (hBs : Bs < w.heap.size)
    (hcs : w.cell? ⟨Bs, 0, none⟩ = some sv) (hL : StrsAt w.heap.size w sv zs) :
    CallsIn F n Tryz.prog 127 #[.slice none 0 0, .func (.func 114) #[] #[.pointer (some ⟨Bs, 0, none⟩)]] w fun e W' => ∃ v, e = .returned v ∧ W'.ownsRow w.heap.size 9 1 v zs.length (zs.map fun x => Value.string (bs x)) ∧ Below w.heap.size w W' := by
  have h1 : 1 ≤ n := by omega
  obtain ⟨i0, hi, hz0, hz1, hz2⟩ := info_parts info_str
  refine callsIn_of_wp_marks Tryz.func127 rfl h3 ?_ hro
  simp only [Tryz.ntmps127, List.size_toArray, List.length_cons, List.length_nil, Nat.reduceAdd, Nat.reduceSub, Array.replicate_succ, Array.replicate_zero, List.push_toArray, List.append_toArray, List.nil_append, List.cons_append]
  gi_wp2
  have bO := Boxed.new w 40 (.slice none 0 0)
  have hB0 : Below w.heap.size w (w.alloc (.cells #[.slice none 0 0] 40)) := (Below.refl _ w).alloc (Nat.le_refl _) _
  refine wpIn_rangeFunc_ownG hro h1 (gf := 114) (lb := #[.pointer (some ⟨Bs, 0, none⟩)]) rfl h5 (enters_of Tryz.func114 (by kernel_rfl) rfl)
    (values_stops F (n - 1) h5 hro (by omega) Bs w.heap.size sv zs hbytes _ (by simp; omega) (by simp) ((hB0.cell (p := ⟨Bs, 0, none⟩) hBs).trans hcs) (hL.below hB0)) belowK_t (belowK_b (by simp)) (Below.refl _ _) (fun _ => rfl)
    (fun pre W => (∃ v, Boxed W w.heap.size 40 v ∧ W.ownsRow w.heap.size 9 1 v pre.length (pre.map fun x => Value.string (bs x)) ∧ True) ∧ Below w.heap.size w W)
    (fun _ _ _ => False)
    (OwnFrom.and (Own.from (holdsRow_own w.heap.size w.heap.size 40 9 1 (fun pre : List (List UInt8) => pre.length) (fun pre => pre.map fun x => Value.string (bs x)) (fun _ _ => True)) _) (ownFrom_below (Nat.le_refl _) (by simp)))
    (fun _ _ _ _ _ hs _ _ => hs)
    ⟨⟨_, bO, World.ownsRow_nil _ _ _ _, trivial⟩, hB0⟩
    (fun x => { tmps := #[.slice none 0 0, .func (.func 114) #[] #[.pointer (some ⟨Bs, 0, none⟩)], .pointer (some ⟨w.heap.size, 0, none⟩), undef, .slice none 0 0, .string (bs x), .func (.func 114) #[] #[.pointer (some ⟨Bs, 0, none⟩)], .string (bs x), undef, undef, undef, undef, undef], defers := [] }) ?assign ?body ?done ?stop
  case assign =>
    intro l x W K hK
    gi_wp2
    exact hK
  case body =>
    rintro l pre x W ⟨⟨v, hv, hrow, _⟩, hB⟩ hlt
    have hc := hv.cell
    gi_wp2_with (gi_at_builtin; refine wpListIn_append_own _ rfl _ _ 40 rfl w.heap.size 9 i0 (.string ⟨#[]⟩) 1 16 Tryz.underlying40 hi hz0 hz1 hz2 rfl (by decide) _ _ _ rfl (hrow.alloc _) ⟨W.heap.size, 0, none⟩ 1 1 [.string (bs x)] rfl rfl (cell_one_new _ _ _) (by simp [Value.oneCell']) (by omega) (by omega) (by have := hB.size; simp; omega) ?_; intro v' w1 hown' hgrow _; obtain ⟨g', cap', rfl⟩ := ownsRow_succ hown'; obtain ⟨hv1, hv2, hr2, hk2, hb2⟩ := hv.appended (by decide) hrow hB.size (Nat.le_refl _) hown' hgrow; have hc1 := hv1.cell; have hf1 := hv1.frozen)
    exact ⟨hk2.from _, hb2, ⟨_, hv2, by simpa using hr2, trivial⟩, hB.trans hb2⟩
  case done =>
    rintro D ys W hD rfl ⟨⟨v, hv, hrow, _⟩, hB⟩ hK
    have hc := hv.cell
    gi_wp2
    refine ⟨by simp, .inl ⟨_, _, rfl, run_takeDeferred hK, ?_⟩⟩
    exact ⟨_, results_tmp rfl _ _ _, v, rfl, ownsRow_putObj hrow _ hK rfl, hB.trans (belowK_b (w := w) (Nat.le_refl _) W D _ _ (by simp at hD; omega) hK rfl rfl)⟩
  case stop =>
    rintro D c pre W _ _ h _
    exact h.elim
end Go.Proofs.YtahjbnfbilkbcaaGreatDoor

/-
  AX, fiftieth text: a call over plain values that hands back a slice of its own, with room behind it, perhaps nil.
-/
namespace Go.AX
open Go.RowKit

theorem Sat.addApp {ρ : List Loc} {S : Nat → Prop} {H : List Ent} {w w' : World} {T : TypeId} {sz n cap g : Nat} {ys : List Value} (hs : Sat ρ S H w) (h : Below w.heap.size w w') (hg : w.heap.size ≤ g) (hrow : RowF T sz n ys g cap w') :
    Sat (ρ ++ [⟨0, 0⟩]) S (H ++ [.app T sz ys (some ⟨g, 0, none⟩) n cap]) w' ∧ Ev ρ S H w (ρ ++ [⟨0, 0⟩]) S (H ++ [.app T sz ys (some ⟨g, 0, none⟩) n cap]) w' := by
  have h1 := hs.below h
  have hcase : ∀ (i : Nat) (e : Ent), (H ++ [Ent.app T sz ys (some ⟨g, 0, none⟩) n cap])[i]? = some e → (i < H.length ∧ H[i]? = some e) ∨ (i = H.length ∧ e = .app T sz ys (some ⟨g, 0, none⟩) n cap) := fun i e he => by
    by_cases hi : i < H.length
    · rw [List.getElem?_append_left hi] at he; exact .inl ⟨hi, he⟩
    · have hi2 : i = H.length := by
        have := (List.getElem?_eq_some_iff.1 he).1
        simp at this; omega
      subst hi2
      simp at he
      exact .inr ⟨rfl, he.symm⟩
  have hb2 : ∀ (i : Nat) (e : Ent) (b : Nat), (H ++ [Ent.app T sz ys (some ⟨g, 0, none⟩) n cap])[i]? = some e → entB (ρ ++ [⟨0, 0⟩]) i e b → (H[i]? = some e ∧ entB ρ i e b) ∨ (i = H.length ∧ b = g) := fun i e b he hb => by
    rcases hcase i e he with ⟨hi, he'⟩ | ⟨hi, rfl⟩
    · rw [entB_pre _ (by rw [hs.len]; exact hi)] at hb
      exact .inl ⟨he', hb⟩
    · exact .inr ⟨hi, (Option.some.inj hb).symm⟩
  refine ⟨⟨by simp [hs.len], fun i e he => ?_, fun i j e f b he hf heb hfb => ?_, fun b ⟨i, e, he, hb⟩ hn => ?_, h1.low⟩, ⟨⟨[⟨0, 0⟩], rfl⟩, h.os, h.tape, h.output, h.size, fun b hb _ => h.block b hb, fun b hb => .inl hb, fun b ⟨i, e, he, hb⟩ => ?_⟩⟩
  · rcases hcase i e he with ⟨hi, he'⟩ | ⟨hi, rfl⟩
    · have := (hs.ent i e he').move (w' := w') [⟨0, 0⟩] (fun b hb => h.block _ (hs.blk_lt he' hb)) fun b hb => h.block b (hs.low b hb)
      exact this
    · exact .inr ⟨g, rfl, hrow⟩
  · rcases hb2 i e b he heb with ⟨a1, a2⟩ | ⟨a1, a2⟩ <;> rcases hb2 j f b hf hfb with ⟨b1, b2⟩ | ⟨b1, b2⟩
    · exact hs.inj i j e f b a1 b1 a2 b2
    · have := hs.blk_lt a1 a2; omega
    · have := hs.blk_lt b1 b2; omega
    · omega
  · rcases hb2 i e b he hb with ⟨a1, a2⟩ | ⟨_, a2⟩
    · exact hs.out b ⟨i, e, a1, a2⟩ hn
    · have := hs.low b hn; omega
  · rcases hb2 i e b he hb with ⟨a1, a2⟩ | ⟨_, a2⟩
    · exact .inl ⟨i, e, a1, a2⟩
    · exact .inr (by omega)
theorem SpecH.rawN {P : Program} {f : FuncId} {xs : List Value} {H : List Ent} {K : Out → List Ent → Prop} {T : TypeId} {sz n : Nat} {ys : List Value} (ok : CallOk P f)
    (h : ∀ w, Facts H w → Calls P f xs.toArray w fun e w' => ∃ v, e = .returned v ∧ w'.ownsRow w.heap.size T sz v n ys ∧ Below w.heap.size w w')
    (hk0 : n = 0 → snocK H (.app T sz [] none 0 0) 0 fun H' _ => K (.val (.c (.v (.slice none 0 0)))) H')
    (hk : ∀ b cap : Nat, n ≤ cap → snocK H (.app T sz ys (some ⟨b, 0, none⟩) n cap) 0 fun H' _ => K (.val (.c (.v (.slice (some ⟨b, 0, none⟩) n cap)))) H') : SpecH P f (pvs xs) H K := by
  simp only [snocK_eq] at hk hk0
  refine ⟨ok, fun ρ S w vs hs hr => ?_⟩
  obtain rfl := RelS_pvs hr
  refine (h w hs.facts).mono fun e w' ⟨v, he, hrow, bel⟩ => ?_
  rcases hrow.2 with ⟨rfl, h0⟩ | ⟨g, cap, cur, rfl, hg, hb, h1, h2, h3, h4⟩
  · have hs' := (hs.below bel).pad [.app T sz [] none 0 0] rfl
    obtain ⟨t, hs2, hev2⟩ := hs'
    refine ⟨ρ ++ t, S, _, .val (.c (.v (.slice none 0 0))), hs2, ?_, ⟨_, he, rfl⟩, hk0 h0⟩
    exact (below_ev (S := S) (S' := S) (ρ := ρ) (H := H) (H' := H) [] bel (fun b hb => .inl hb) (fun b hb => by simpa using hb)).trans (by simpa using hev2)
  · have hR : RowF T sz n ys g cap w' := ⟨cur, (0, 0), ⟨hb, .inl rfl⟩, hrow.1, h1, h2, h3, h4⟩
    obtain ⟨hs2, hev2⟩ := hs.addApp bel hg hR
    exact ⟨_, S, _, .val (.c (.v (.slice (some ⟨g, 0, none⟩) n cap))), hs2, hev2, ⟨_, he, rfl⟩, hk g cap h1⟩
end Go.AX

/-
  Contracts: slices.AppendSeq, Sort and Compact at strings, over slices of one's own.
-/
namespace Go.Proofs.YtahjbnfbilkbcaaGreatDoor
open Go.RowKit Go.AX Go.Core Go.Sort Go.Proofs
set_option maxRecDepth 20000

theorem holds_row {T : TypeId} {b cap : Nat} {zs : List (List UInt8)} {w : World} (h : RowF T 1 zs.length (strC zs) b cap w) : Holds encStr w b 0 zs.toArray := by
  obtain ⟨arr, ⟨lo, hi⟩, ⟨hb, hfr⟩, h1, h2, h3, h4, h5⟩ := h
  intro j hj
  have hj' : j < zs.length := by simpa using hj
  have h6 : (arr.toList.take (zs.length * 1))[j]? = (strC zs)[j]? := by rw [h5]
  rw [List.getElem?_take_of_lt (by omega)] at h6
  unfold strC at h6
  rw [List.getElem?_map, List.getElem?_eq_getElem hj'] at h6
  refine ⟨?_, ?_⟩
  · simp only [World.cell?, hb, Nat.zero_add]
    simp only [Option.isSome_none, Bool.false_eq_true, if_false]
    rw [Array.getElem?_toList] at h6
    rw [h6, getElem!_pos zs.toArray j (by simpa using hj')]
    rfl
  · simp only [World.frozen?, hb, Nat.zero_add]
    rcases hfr with hfr | hfr
    · cases hfr; simp
    · have : ¬ lo ≤ j := by
        simp only at hfr
        have : j < arr.size := by omega
        omega
      simp [this]
theorem row_put {T : TypeId} {b cap k : Nat} {zs ts : List (List UInt8)} {w : World} {os : Array Obj} (h : RowF T 1 zs.length (strC zs) b cap w) (hb : b < w.heap.size) (hl : ts.length = zs.length) : RowF T 1 zs.length (strC ts) b cap (grow (putRow encStr (Sort.ahead w k) b 0 ts.toArray) os) := by
  obtain ⟨arr, fr, ⟨hh, hfr⟩, h1, h2, h3, h4, h5⟩ := h
  have hsz : (putCells encStr 0 ts.toArray arr).size = arr.size := by simp [putCells]
  refine ⟨putCells encStr 0 ts.toArray arr, fr, ⟨?_, by rw [hsz]; exact hfr⟩, by simp [strC, hl], h2, h3, by rw [hsz]; exact h4, ?_⟩
  · rw [heap_grow_old _ _ (by simp [putRow, mapBlock, Sort.ahead, hb])]
    simp [putRow, mapBlock, Sort.ahead, Array.getElem?_modify, hh, onCells]
  · rw [Nat.mul_one, ← hl]
    exact take_putCells arr ts (by omega)
def sortS (zs : List (List UInt8)) : List (List UInt8) := zs.mergeSort fun x y => decide (x ≤ y)
theorem sortS_len (zs : List (List UInt8)) : (sortS zs).length = zs.length := (List.mergeSort_perm zs _).length_eq
theorem Sort_c {H : List Ent} {K : Out → List Ent → Prop} (i : Nat) (zs : List (List UInt8)) (b cap : Nat) (hz : zs.length ≤ 2000) (hi : nthE H i = some (.app 9 1 (strC zs) (some ⟨b, 0, none⟩) zs.length cap))
    (hk : setEK H i (.app 9 1 (strC (sortS zs)) (some ⟨b, 0, none⟩) zs.length cap) fun H' => K (.val (.c (.v (.tuple #[])))) H') : SpecH Tryz.prog 113 (pvs [.slice (some ⟨b, 0, none⟩) zs.length cap]) H K :=
  SpecH.rawA (callOk Tryz.func113 (by kernel_rfl) rfl) i hi (R := fun r n' ys' => r = .tuple #[] ∧ n' = zs.length ∧ ys' = strC (sortS zs)) (fun w hrow hb => (Tryz.slices_Sort_string b 0 cap zs w (holds_row hrow) hb (by omega)).mono fun e w' ⟨he, k, os, hw⟩ => by
    subst hw
    have hg := grownBy_sorted (w := w) (g := b) (n := k) (os := os) (sortS zs).toArray
    exact ⟨_, _, _, he, ⟨rfl, rfl, rfl⟩, row_put hrow hb (sortS_len zs), hg.size, fun k hk hne => hg.block k hk (fun e => hne (Option.some.inj e)), hg.os, hg.tape, hg.output⟩) fun r n' ys' ⟨h1, h2, h3⟩ => by
    subst h1 h2 h3
    exact hk
theorem SortNil_c {H : List Ent} {K : Out → List Ent → Prop} (p : Option Addr) (cap : Nat) (hk : K (.val (.c (.v (.tuple #[])))) H) : SpecH Tryz.prog 113 (pvs [.slice p 0 cap]) H K :=
  SpecH.rawP (R := fun r => r = .tuple #[]) (callOk Tryz.func113 (by kernel_rfl) rfl) (fun w _ => (Tryz.slices_Sort_string_none p cap w).mono fun e w' ⟨he, hw⟩ => by
    subst hw
    exact ⟨_, he, rfl, Below.refl _ _⟩) fun r hr => by subst hr; exact hk
theorem Compact_c {H : List Ent} {K : Out → List Ent → Prop} (i : Nat) (zs : List (List UInt8)) (b cap : Nat) (hz : zs.length ≤ 2000) (hcap : zs.length ≤ cap) (hi : nthE H i = some (.app 9 1 (strC zs) (some ⟨b, 0, none⟩) zs.length cap))
    (hk : ∀ ys, setEK H i (.app 9 1 ys (some ⟨b, 0, none⟩) zs.length cap) fun H' => K (.val (.c (.v (.slice (some ⟨b, 0, none⟩) (Lib.compact zs).length cap)))) H') : SpecH Tryz.prog 88 (pvs [.slice (some ⟨b, 0, none⟩) zs.length cap]) H K :=
  SpecH.rawA (callOk Tryz.func88 (by kernel_rfl) rfl) i hi (R := fun r n' _ => r = .slice (some ⟨b, 0, none⟩) (Lib.compact zs).length cap ∧ n' = zs.length) (fun w hrow hb => (Tryz.slices_Compact_string b 0 cap zs w (holds_row hrow) (by omega) hcap).mono fun e w' ⟨he, k, hw⟩ => by
    subst hw
    have hlen : (Lib.compact zs ++ List.replicate (zs.length - (Lib.compact zs).length) []).length = zs.length := by
      have := Lib.compact_length_le zs
      simp
      omega
    have hr := row_put (k := k) (os := #[]) hrow hb hlen
    have hg := grownBy_sorted (w := w) (g := b) (n := k) (os := #[]) (Lib.compact zs ++ List.replicate (zs.length - (Lib.compact zs).length) []).toArray
    rw [grow_empty] at hr hg
    exact ⟨_, _, _, he, ⟨rfl, rfl⟩, hr, hg.size, fun k hk hne => hg.block k hk (fun e => hne (Option.some.inj e)), hg.os, hg.tape, hg.output⟩) fun r n' ys' ⟨h1, h2⟩ => by
    subst h1 h2
    exact hk ys'
theorem Compact_n {H : List Ent} {K : Out → List Ent → Prop} (i : Nat) (zs : List (List UInt8)) (n : Nat) (hn : zs.length = n) (b cap : Nat) (hz : n ≤ 2000) (hcap : n ≤ cap) (hi : nthE H i = some (.app 9 1 (strC zs) (some ⟨b, 0, none⟩) n cap))
    (hk : ∀ ys, setEK H i (.app 9 1 ys (some ⟨b, 0, none⟩) n cap) fun H' => K (.val (.c (.v (.slice (some ⟨b, 0, none⟩) (Lib.compact zs).length cap)))) H') : SpecH Tryz.prog 88 (pvs [.slice (some ⟨b, 0, none⟩) n cap]) H K := by
  subst hn
  exact Compact_c i zs b cap hz hcap hi hk
theorem CompactNil_c {H : List Ent} {K : Out → List Ent → Prop} (p : Option Addr) (cap : Nat) (hk : K (.val (.c (.v (.slice p 0 cap)))) H) : SpecH Tryz.prog 88 (pvs [.slice p 0 cap]) H K :=
  SpecH.rawP (R := fun r => r = .slice p 0 cap) (callOk Tryz.func88 (by kernel_rfl) rfl) (fun w _ => (Tryz.slices_Compact_string_empty p cap w).mono fun e w' ⟨he, hw⟩ => by
    subst hw
    exact ⟨_, he, rfl, Below.refl _ _⟩) fun r hr => by subst hr; exact hk
theorem strs_at {w : World} {a : Option Addr} {cap : Nat} {zs : List (List UInt8)} (h : SlAt a (zs.length * 1) (strC zs) w) : StrsAt w.heap.size w (.slice a zs.length cap) zs ∨ zs = [] := by
  cases zs with
  | nil => exact .inr rfl
  | cons z zs =>
    obtain ⟨h1, h2, h3⟩ := h
    have ha := h2 (by simp)
    obtain ⟨p, rfl⟩ := Option.isSome_iff_exists.1 ha
    have hc : ∀ j, j < (z :: zs).length → w.cell? (p.add j) = (strC (z :: zs))[j]? := fun j hj => h3 j (by omega)
    have h0 := hc 0 (by simp)
    have hsp : p.spot = none ∧ p.block < w.heap.size := by
      have e : (strC (z :: zs))[0]? = some (.string (bs z)) := rfl
      rw [e] at h0
      unfold World.cell? at h0
      split at h0
      · rename_i c T fr hb
        have hb' : p.block < w.heap.size := (Array.getElem?_eq_some_iff.1 hb).1
        by_cases hs : (p.add 0).spot.isSome
        · rw [if_pos hs] at h0; cases h0
        · refine ⟨?_, hb'⟩
          have : ¬ p.spot.isSome = true := hs
          simpa using this
      · cases h0
    obtain ⟨pb, po, ps⟩ := p
    obtain ⟨rfl, hlt⟩ : ps = none ∧ pb < w.heap.size := hsp
    refine .inl (.inr ⟨pb, po, cap, rfl, hlt, fun j hj => ?_⟩)
    have := hc j hj
    unfold strC at this
    rw [List.getElem?_map, List.getElem?_eq_getElem hj] at this
    rw [List.getElem?_eq_getElem hj]
    rw [add_lit] at this
    exact this
theorem AppendSeq_c {H : List Ent} {K : Out → List Ent → Prop} (B cap : Nat) (a : Option Addr) (zs : List (List UInt8)) (hz : zs.length ≤ 2000) (hF : ∀ w, Facts H w → w.cell? ⟨B, 0, none⟩ = some (.slice a zs.length cap) ∧ SlAt a (zs.length * 1) (strC zs) w)
    (hk0 : zs.length = 0 → snocK H (.app 9 1 [] none 0 0) 0 fun H' _ => K (.val (.c (.v (.slice none 0 0)))) H')
    (hk : ∀ b c : Nat, zs.length ≤ c → snocK H (.app 9 1 (strC zs) (some ⟨b, 0, none⟩) zs.length c) 0 fun H' _ => K (.val (.c (.v (.slice (some ⟨b, 0, none⟩) zs.length c)))) H') :
    SpecH Tryz.prog 127 (pvs [.slice none 0 0, .func (.func 114) #[] #[.pointer (some ⟨B, 0, none⟩)]]) H K := by
  refine SpecH.rawN (T := 9) (sz := 1) (n := zs.length) (ys := strC zs) (callOk Tryz.func127 (by kernel_rfl) rfl) (fun w hw => ?_) hk0 hk
  obtain ⟨h1, h3⟩ := hF w hw
  have hB : B < w.heap.size := by
    unfold World.cell? at h1
    split at h1
    · rename_i hb; exact (Array.getElem?_eq_some_iff.1 hb).1
    · cases h1
  have hs : StrsAt w.heap.size w (.slice a zs.length cap) zs := by
    rcases strs_at (cap := cap) h3 with h | h
    · exact h
    · subst h
      exact .inl ⟨a, cap, rfl, rfl⟩
  have hm : zs.length ≤ maxLen := by simp only [maxLen]; omega
  exact (callsIn_wide (n := 5)).1 ((appendSeq_in Fence.wide 5 trivial trivial rfl (by omega) B _ zs hm (by omega) w hB h1 hs).mono fun e w' ⟨v, he, hr, hb⟩ => ⟨v, he, hr, hb⟩)
end Go.Proofs.YtahjbnfbilkbcaaGreatDoor

/-
  Plain: names are different just where sorting them and striking equal neighbours leaves as many.
-/
namespace Go.Core
open Go.Lib

theorem filter_full {α : Type} {p : α → Bool} : ∀ {l : List α}, (l.filter p).length = l.length → ∀ x ∈ l, p x = true
  | [], _, _, h => by cases h
  | a :: l, he, x, h => by
    rw [List.filter_cons] at he
    have hle := List.length_filter_le p l
    cases hp : p a with
    | false => rw [if_neg (by simp [hp])] at he; simp only [List.length_cons] at he; omega
    | true =>
      rw [if_pos hp] at he
      simp only [List.length_cons] at he
      rcases List.mem_cons.1 h with rfl | h
      · exact hp
      · exact filter_full (by omega) x h
theorem compact_len (zs : List (List UInt8)) : (compact zs).length = zs.length ↔ ∀ j, j < zs.length → keeps zs.toArray j = true := by
  constructor
  · intro h j hj
    unfold compact compactUpTo at h
    rw [List.length_map] at h
    exact filter_full (l := List.range zs.length) (by rw [h, List.length_range]) j (List.mem_range.2 hj)
  · exact fun h => by rw [compact_all zs h]
theorem sorted_nodup {zs : List (List UInt8)} (hs : zs.Pairwise fun a b => decide (a ≤ b) = true) : (∀ j, j < zs.length → keeps zs.toArray j = true) ↔ zs.Nodup := by
  constructor
  · intro h
    refine List.pairwise_iff_getElem.2 fun i j hi hj hij he => ?_
    -- the neighbour of j lies between both
    have h1 := h j hj
    unfold keeps at h1
    rw [decide_eq_true_eq] at h1
    have h2 : zs.toArray[j]! ≠ zs.toArray[j - 1]! := h1.resolve_left (by omega)
    rw [getElem!_pos zs.toArray j (by simpa using hj), getElem!_pos zs.toArray (j - 1) (by simp; omega)] at h2
    simp only [List.getElem_toArray] at h2
    refine h2 ?_
    rcases Nat.lt_or_ge i (j - 1) with hlt | hge
    · have a1 := List.pairwise_iff_getElem.1 hs i (j - 1) hi (by omega) hlt
      have a2 := List.pairwise_iff_getElem.1 hs (j - 1) j (by omega) hj (by omega)
      simp only [decide_eq_true_eq] at a1 a2
      rw [he] at a1
      exact List.le_antisymm a1 a2
    · have e : i = j - 1 := by omega
      subst e
      exact he.symm
  · intro h j hj
    unfold keeps
    rw [decide_eq_true_eq]
    rcases Nat.eq_zero_or_pos j with h0 | h0
    · exact .inl h0
    · refine .inr ?_
      rw [getElem!_pos zs.toArray j (by simpa using hj), getElem!_pos zs.toArray (j - 1) (by simp; omega)]
      simp only [List.getElem_toArray]
      exact Ne.symm (List.pairwise_iff_getElem.1 h (j - 1) j (by omega) hj (by omega))
theorem compact_sort (ss : List (List UInt8)) : (compact (ss.mergeSort fun x y => decide (x ≤ y))).length = ss.length ↔ ss.Nodup := by
  have hp := List.mergeSort_perm ss fun x y => decide (x ≤ y)
  have hs : (ss.mergeSort fun x y => decide (x ≤ y)).Pairwise fun a b => decide (a ≤ b) = true :=
    List.pairwise_mergeSort (fun a b c h1 h2 => by simp only [decide_eq_true_eq] at *; exact List.le_trans h1 h2) (fun a b => by simp only [Bool.or_eq_true, decide_eq_true_eq]; exact List.le_total a b) ss
  rw [← hp.length_eq, compact_len, sorted_nodup hs]
  exact hp.nodup_iff
end Go.Core
