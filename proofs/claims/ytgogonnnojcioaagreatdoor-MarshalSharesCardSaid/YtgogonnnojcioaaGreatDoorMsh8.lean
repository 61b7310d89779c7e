/-
  Lemmas (MC16 Ax59 MC15 LB3 MC1 MC17 MP16 Ax38 MC18 MC19 MC2 Ax53 Z1 U1 Q1 Q2 O1 O2 K1 Q3 Q4 Q5 W3 W4 W5 U2 U3 W6 U4 Z2 Z3 Z4 Y1 Y2 Z5 Ax58 MC3 MC4).
-/
import Derived.Scope
import Derived.Lib.SlBytesConst
import Derived.Test.YtgogonnnojcioaaGreatDoorChecked
import Derived.Tactics
import Derived.Tactics2
import Derived.Defers
import Derived.Laws.Pointers
import Derived.Laws.LoneSync
import Derived.RegionTactic
import Derived.RegionCalls
import Derived.ChangeAlike
import Derived.Lib.ItoaLen
import Derived.Lib.AppendIntMem
import Derived.Test.YtgogonnnojcioaaGreatDoorMsh7
set_option linter.unusedVariables false
set_option linter.unusedSimpArgs false
/-
 Contracts: what stands behind the byte that begins a cell is read (program).
-/
namespace Go.Proofs.YtgogonnnojcioaaGreatDoor
open Go.AX Go.RowKit Go.Core Go.Marshal
set_option maxRecDepth 20000

theorem ok_leaf {c : Cell} (hn : c.names = []) (hi : c.items = []) (ht : c.text.length ≤ 30000) : CellOk ⟨c, none, 0, none, 0⟩ :=
 ⟨fun _ => hn, fun _ => hi, by rw [hn]; exact Nat.zero_le _, by rw [hi]; exact Nat.zero_le _, (fun s hs => by rw [hn] at hs; cases hs), by show c.text.length ≤ _; omega, by rw [hn]; exact Nat.le_refl _, by rw [hi]; exact Nat.le_refl _⟩
theorem inner_rd (n : Nat) (hc : CellC n) (rb : Nat) (st : PS) (p : RdP) (ok : RdOk st p) (bd : Bd st) (hn : st.s.length < n ∨ st.e ≠ 0) (x : UInt8) (hx : x ∈ begins) : SpecH Tryz.prog 89 [.c (.v (.pointer (some ⟨rb, 0, none⟩))), .c (.v (.int .u8 (x.toNat : Int)))] (rdE rb st p) (RetG (ι := ObP) (fun i => RdOk (innerM (cellM n) x st).2 i.p ∧ CellOk ⟨(innerM (cellM n) x st).1, i.na, i.nc, i.ia, i.ic⟩) (fun i => cellV ⟨(innerM (cellM n) x st).1, i.na, i.nc, i.ia, i.ic⟩) fun i => rdE rb (innerM (cellM n) x st).2 i.p ++ [ownS (innerM (cellM n) x st).1.names i.na i.nc, ownI (innerM (cellM n) x st).1.items i.ia i.ic]) := by
 have bp := bd.pot
 have htk := cell_takes n
 simp only [begins, List.mem_cons, List.not_mem_nil, or_false] at hx
 rcases hx with rfl | rfl | rfl | rfl | rfl | rfl | rfl | rfl | rfl | rfl
 ·refine SpecH.pad [.app 9 1 [] none 0 0, .app 3 1 [] none 0 0] rfl ?_
  refine ownC hm Tryz.func89 (by kernel_rfl) rfl rfl (fun _ _ => okHB_eq rfl) (fun _ _ => Nat.le_of_ble_eq_true rfl) ?_
  (first | refine wX ?_ | exact wZ)
  exact ⟨⟨p, none, 0, none, 0⟩, ⟨ok, ok_leaf rfl rfl (Nat.zero_le _)⟩, rfl, wkE_refl _, wkE_refl _, wkE_refl _, wkE_refl _, wkE_refl _, wkE_refl _, wkE_refl _, wkH_nil _⟩
 ·refine SpecH.pad [.app 9 1 [] none 0 0, .app 3 1 [] none 0 0] rfl ?_
  refine ownC hm Tryz.func89 (by kernel_rfl) rfl rfl (fun _ _ => okHB_eq rfl) (fun _ _ => Nat.le_of_ble_eq_true rfl) ?_
  (first | refine wX ?_ | exact wZ)
  exact ⟨⟨p, none, 0, none, 0⟩, ⟨ok, ok_leaf rfl rfl (Nat.zero_le _)⟩, rfl, wkE_refl _, wkE_refl _, wkE_refl _, wkE_refl _, wkE_refl _, wkE_refl _, wkE_refl _, wkH_nil _⟩
 ·refine SpecH.pad [.app 9 1 [] none 0 0, .app 3 1 [] none 0 0] rfl ?_
  refine ownC hm Tryz.func89 (by kernel_rfl) rfl rfl (fun _ _ => okHB_eq rfl) (fun _ _ => Nat.le_of_ble_eq_true rfl) ?_
  (first | refine wX ?_ | exact wZ)
  exact ⟨⟨p, none, 0, none, 0⟩, ⟨ok, ok_leaf rfl rfl (Nat.zero_le _)⟩, rfl, wkE_refl _, wkE_refl _, wkE_refl _, wkE_refl _, wkE_refl _, wkE_refl _, wkE_refl _, wkH_nil _⟩
 ·have hk := num_keep (2 * maxN) st
  have hmo := num_most (2 * maxN) st
  have hnum := number_m rb st p (2 * maxN) (by decide)
  have e : innerM (cellM n) 105 st = (⟨3, unsgn (numM (2 * maxN) st).1, [], [], []⟩, (numM (2 * maxN) st).2) := rfl
  rw [e]
  clear e
  generalize numM (2 * maxN) st = q at hk hmo hnum ⊢
  obtain ⟨m, s2⟩ := q
  simp only at hk hmo hnum
  have hmo : m ≤ 2000000000000000 := hmo
  refine SpecH.pad [.app 9 1 [] none 0 0, .app 3 1 [] none 0 0] rfl ?_
  refine ownC hm Tryz.func89 (by kernel_rfl) rfl rfl (fun _ _ => okHB_eq rfl) (fun _ _ => Nat.le_of_ble_eq_true rfl) ?_
  (first | refine wX ?_ | exact wZ)
  refine callG (hnum) [0, 1, 2, 3, 4] rfl ⟨rfl, rfl, rfl, rfl, rfl, trivial⟩ rfl fun _ _ => ?_
  (first | refine wX ?_ | exact wZ)
  have em : (m : Int).tmod 2 = ((m % 2 : Nat) : Int) := (Int.ofNat_tmod m 2).symm
  have ed : (m : Int).tdiv 2 = ((m / 2 : Nat) : Int) := (Int.ofNat_tdiv m 2).symm
  refine brd_eq (fun h => ?_) (fun h => ?_)
  ·have hu : unsgn m = -(((m + 1) / 2 : Nat) : Int) := by unfold unsgn; rw [if_pos (by omega)]
   (first | refine wX ?_ | exact wZ)
   rw [show IntKind.i64.wrap ((IntKind.i64.wrap (0 - IntKind.i64.wrap ((m : Int) + 1))).tdiv 2) = unsgn m by
    rw [wrap_i64 (x := (m : Int) + 1) (by omega), wrap_i64 (x := 0 - ((m : Int) + 1)) (by omega), show (0 : Int) - ((m : Int) + 1) = -(((m + 1 : Nat)) : Int) by omega, Int.neg_tdiv, show ((m + 1 : Nat) : Int).tdiv 2 = (((m + 1) / 2 : Nat) : Int) from (Int.ofNat_tdiv (m + 1) 2).symm, wrap_i64 (by omega), hu]]
   exact ⟨⟨p, none, 0, none, 0⟩, ⟨ok.same hk, ok_leaf rfl rfl (Nat.zero_le _)⟩, rfl, wkE_refl _, wkE_refl _, wkE_refl _, wkE_refl _, wkE_refl _, wkE_refl _, wkE_refl _, wkH_nil _⟩
  ·have hu : unsgn m = ((m / 2 : Nat) : Int) := by unfold unsgn; rw [if_neg (by omega)]
   (first | refine wX ?_ | exact wZ)
   rw [show IntKind.i64.wrap ((m : Int).tdiv 2) = unsgn m by rw [ed, wrap_i64 (by omega), hu]]
   exact ⟨⟨p, none, 0, none, 0⟩, ⟨ok.same hk, ok_leaf rfl rfl (Nat.zero_le _)⟩, rfl, wkE_refl _, wkE_refl _, wkE_refl _, wkE_refl _, wkE_refl _, wkE_refl _, wkE_refl _, wkH_nil _⟩
 ·have hk := text_keep maxN st
  have hl := text_len maxN st
  have ht := text_rd rb st p maxN
  have e : innerM (cellM n) 34 st = (⟨4, 0, (textM maxN st).1, [], []⟩, (textM maxN st).2) := rfl
  rw [e]
  clear e
  generalize textM maxN st = q at hk hl ht ⊢
  obtain ⟨t, s2⟩ := q
  simp only at hk hl ht
  refine SpecH.pad [.app 9 1 [] none 0 0, .app 3 1 [] none 0 0] rfl ?_
  refine ownC hm Tryz.func89 (by kernel_rfl) rfl rfl (fun _ _ => okHB_eq rfl) (fun _ _ => Nat.le_of_ble_eq_true rfl) ?_
  (first | refine wX ?_ | exact wZ)
  refine callG (ht) [0, 1, 2, 3, 4] rfl ⟨rfl, rfl, rfl, rfl, rfl, trivial⟩ rfl fun _ _ => ?_
  (first | refine wX ?_ | exact wZ)
  exact ⟨⟨p, none, 0, none, 0⟩, ⟨ok.same hk, ok_leaf rfl rfl (by show t.length ≤ _; omega)⟩, rfl, wkE_refl _, wkE_refl _, wkE_refl _, wkE_refl _, wkE_refl _, wkE_refl _, wkE_refl _, wkH_nil _⟩
 ·have hs := symbol_rd rb 58 st p ok (by omega)
  have ho := fun i hi => ok.sym (by omega) 58 (i := i) hi
  have hl := symM_len 58 st (by omega) ok.sw
  have e : innerM (cellM n) 58 st = (⟨5, 0, (symM 58 st).1, [], []⟩, (symM 58 st).2) := rfl
  rw [e]
  clear e
  generalize symM 58 st = q at hs ho hl ⊢
  obtain ⟨t, s2⟩ := q
  simp only at hs ho hl
  refine SpecH.pad [.app 9 1 [] none 0 0, .app 3 1 [] none 0 0] rfl ?_
  refine ownC hm Tryz.func89 (by kernel_rfl) rfl rfl (fun _ _ => okHB_eq rfl) (fun _ _ => Nat.le_of_ble_eq_true rfl) ?_
  (first | refine wX ?_ | exact wZ)
  refine callG hs [0, 1, 2, 3, 4] rfl ⟨rfl, rfl, rfl, rfl, rfl, trivial⟩ rfl fun i hi => ?_
  (first | refine wX ?_ | exact wZ)
  exact ⟨⟨{ p with sa := i.1, sc := i.2 }, none, 0, none, 0⟩, ⟨ho i hi, ok_leaf rfl rfl hl⟩, rfl, wkE_refl _, wkE_refl _, wkE_refl _, wkE_refl _, wkE_refl _, wkE_refl _, wkE_refl _, wkH_nil _⟩
 ·have hs := symbol_rd rb 59 st p ok (by omega)
  have ho := fun i hi => ok.sym (by omega) 59 (i := i) hi
  have hl := symM_len 59 st (by omega) ok.sw
  have e : innerM (cellM n) 59 st = (⟨5, 0, (symM 59 st).1, [], []⟩, (symM 59 st).2) := rfl
  rw [e]
  clear e
  generalize symM 59 st = q at hs ho hl ⊢
  obtain ⟨t, s2⟩ := q
  simp only at hs ho hl
  refine SpecH.pad [.app 9 1 [] none 0 0, .app 3 1 [] none 0 0] rfl ?_
  refine ownC hm Tryz.func89 (by kernel_rfl) rfl rfl (fun _ _ => okHB_eq rfl) (fun _ _ => Nat.le_of_ble_eq_true rfl) ?_
  (first | refine wX ?_ | exact wZ)
  refine callG hs [0, 1, 2, 3, 4] rfl ⟨rfl, rfl, rfl, rfl, rfl, trivial⟩ rfl fun i hi => ?_
  (first | refine wX ?_ | exact wZ)
  exact ⟨⟨{ p with sa := i.1, sc := i.2 }, none, 0, none, 0⟩, ⟨ho i hi, ok_leaf rfl rfl hl⟩, rfl, wkE_refl _, wkE_refl _, wkE_refl _, wkE_refl _, wkE_refl _, wkE_refl _, wkE_refl _, wkH_nil _⟩
 ·have hnum := number_m rb st p maxN (by decide)
  have hk := num_keep maxN st
  have hmo := num_most maxN st
  have hle := num_le maxN st
  have hnn := fuel_keep hn (num_le maxN st) (fun h => by rw [num_dead h])
  have e : innerM (cellM n) 91 st = (⟨6, 0, [], [], (itemsM (cellM n) ((numM maxN st).1) [] (numM maxN st).2).1⟩, (itemsM (cellM n) ((numM maxN st).1) [] (numM maxN st).2).2) := rfl
  rw [e]
  clear e
  generalize numM maxN st = q at hnum hk hmo hle hnn ⊢
  obtain ⟨m, s2⟩ := q
  simp only at hnum hk hmo hle hnn
  have hmo : m ≤ 1000000000000000 := hmo
  have b2 := bd.le hle
  have hit := items_rd n hc rb s2 p (ok.same hk) b2 hnn (m) (by omega)
  have hil := (items_le htk (m) [] s2).2
  simp only
  generalize itemsM (cellM n) (m) [] s2 = r at hit hil ⊢
  obtain ⟨l, s3⟩ := r
  simp only at hit hil
  have hll : l.length ≤ 30001 := by
   have := b2.pot
   have h9 : liv s2 ≤ 1 := by unfold liv; split <;> omega
   have h8 : ([] : List Int).length = 0 := rfl
   omega
  refine SpecH.pad [.app 9 1 [] none 0 0, .app 3 1 [] none 0 0] rfl ?_
  refine ownC hm Tryz.func89 (by kernel_rfl) rfl rfl (fun _ _ => okHB_eq rfl) (fun _ _ => Nat.le_of_ble_eq_true rfl) ?_
  (first | refine wX ?_ | exact wZ)
  refine callG (hnum) [0, 1, 2, 3, 4] rfl ⟨rfl, rfl, rfl, rfl, rfl, trivial⟩ rfl fun _ _ => ?_
  (first | refine wX ?_ | exact wZ)
  refine callG hit [0, 1, 2, 3, 4, 6] rfl ⟨rfl, rfl, rfl, rfl, rfl, rfl, trivial⟩ rfl fun i hi => ?_
  (first | refine wX ?_ | exact wZ)
  exact ⟨⟨i.1, none, 0, i.2.1, i.2.2⟩, ⟨hi.1, ⟨fun _ => rfl, hi.2.1, Nat.zero_le _, by show l.length ≤ _; omega, (fun s hs => by cases hs), Nat.zero_le _, Nat.le_refl _, hi.2.2⟩⟩, rfl, wkE_refl _, wkE_refl _, wkE_refl _, wkE_refl _, wkE_refl _, wkE_refl _, wkE_refl _, wkH_nil _⟩
 ·have hnum := number_m rb st p maxN (by decide)
  have hk := num_keep maxN st
  have hmo := num_most maxN st
  have hle := num_le maxN st
  have hnn := fuel_keep hn (num_le maxN st) (fun h => by rw [num_dead h])
  have e : innerM (cellM n) 123 st = (⟨7, 0, [], [], (itemsM (cellM n) (2 * (numM maxN st).1) [] (numM maxN st).2).1⟩, (itemsM (cellM n) (2 * (numM maxN st).1) [] (numM maxN st).2).2) := rfl
  rw [e]
  clear e
  generalize numM maxN st = q at hnum hk hmo hle hnn ⊢
  obtain ⟨m, s2⟩ := q
  simp only at hnum hk hmo hle hnn
  have hmo : m ≤ 1000000000000000 := hmo
  have b2 := bd.le hle
  have hit := items_rd n hc rb s2 p (ok.same hk) b2 hnn (2 * m) (by omega)
  have hil := (items_le htk (2 * m) [] s2).2
  simp only
  generalize itemsM (cellM n) (2 * m) [] s2 = r at hit hil ⊢
  obtain ⟨l, s3⟩ := r
  simp only at hit hil
  have hll : l.length ≤ 30001 := by
   have := b2.pot
   have h9 : liv s2 ≤ 1 := by unfold liv; split <;> omega
   have h8 : ([] : List Int).length = 0 := rfl
   omega
  refine SpecH.pad [.app 9 1 [] none 0 0, .app 3 1 [] none 0 0] rfl ?_
  refine ownC hm Tryz.func89 (by kernel_rfl) rfl rfl (fun _ _ => okHB_eq rfl) (fun _ _ => Nat.le_of_ble_eq_true rfl) ?_
  (first | refine wX ?_ | exact wZ)
  refine callG (hnum) [0, 1, 2, 3, 4] rfl ⟨rfl, rfl, rfl, rfl, rfl, trivial⟩ rfl fun _ _ => ?_
  (first | refine wX ?_ | exact wZ)
  first | rw [show IntKind.i64.wrap (2 * (m : Int)) = ((2 * m : Nat) : Int) by rw [wrap_i64 (by omega)]; omega] | rw [show 2 * (m : Int) = ((2 * m : Nat) : Int) by omega]
  refine callG hit [0, 1, 2, 3, 4, 6] rfl ⟨rfl, rfl, rfl, rfl, rfl, rfl, trivial⟩ rfl fun i hi => ?_
  (first | refine wX ?_ | exact wZ)
  exact ⟨⟨i.1, none, 0, i.2.1, i.2.2⟩, ⟨hi.1, ⟨fun _ => rfl, hi.2.1, Nat.zero_le _, by show l.length ≤ _; omega, (fun s hs => by cases hs), Nat.zero_le _, Nat.le_refl _, hi.2.2⟩⟩, rfl, wkE_refl _, wkE_refl _, wkE_refl _, wkE_refl _, wkE_refl _, wkE_refl _, wkE_refl _, wkH_nil _⟩
 ·have hob := object_rd n hc rb st p ok bd hn
  have e : innerM (cellM n) 111 st = objM (cellM n) st := rfl
  rw [e]
  clear e
  generalize objM (cellM n) st = r at hob ⊢
  obtain ⟨c, s3⟩ := r
  simp only at hob
  refine SpecH.pad [.app 9 1 [] none 0 0, .app 3 1 [] none 0 0] rfl ?_
  refine ownC hm Tryz.func89 (by kernel_rfl) rfl rfl (fun _ _ => okHB_eq rfl) (fun _ _ => Nat.le_of_ble_eq_true rfl) ?_
  (first | refine wX ?_ | exact wZ)
  refine callG hob [0, 1, 2, 3, 4, 5, 6] rfl ⟨rfl, rfl, rfl, rfl, rfl, rfl, rfl, trivial⟩ rfl fun i hi => ?_
  (first | refine wX ?_ | exact wZ)
  exact ⟨i, hi, rfl, wkE_refl _, wkE_refl _, wkE_refl _, wkE_refl _, wkE_refl _, wkE_refl _, wkE_refl _, wkH_nil _⟩
end Go.Proofs.YtgogonnnojcioaaGreatDoor

/-
 AX, fifty-ninth text: an executor that goes through a scope whose labels no run jumps to.
-/
namespace Go.AX

def execG (P : Program) (c : Code) : List AV → List Ent → (Ex → List AV → List Ent → Prop) → Prop :=
 Code.rec (motive := fun _ => List AV → List Ent → (Ex → List AV → List Ent → Prop) → Prop)
  (fun s H K => K .normal s H)
  (fun _ ops draw s H K => regionK P ops draw s H K)
  (fun _ _ ia ib s H K => SeqN ia ib s H K)
  (fun c _ _ ia ib s H K => condK c s (fun s => ia s H K) (fun s => ib s H K))
  (fun id _ ib s H K => ib s H (blockK id K))
  (fun _ ib s H K => LoopN ib s H K)
  (fun _ _ _ _ _ _ _ _ _ => False)
  (fun id s H K => K (.exit id) s H)
  (fun _ ib s H K => ib s H K)
  (fun _ s H K => K .normal s H)
  (fun _ _ _ _ => False)
  (fun s H K => K .ret s H)
  (fun _ _ _ _ => False)
  c
theorem execG_sound {P : Program} (hm : P.follows .mixedOrders = true) : ∀ (c : Code) (s : List AV) (H : List Ent) (K : Ex → List AV → List Ent → Prop), execG P c s H K →
  ∀ (ρ : List Loc) (S : Nat → Prop) (w : World) (a : Act), Sat ρ S H w → RelS ρ s a.tmps.toList → c.wp P (Post ρ S H w a.defers K) a w := by
 intro c
 induction c with
 | skip => intro s H K h ρ S w a hs hr; exact wp_skip ⟨ρ, S, s, H, .normal, hs, Ev.refl _ _ _ _, hr, rfl, trivial, h⟩
 | label l => intro s H K h ρ S w a hs hr; exact wp_label ⟨ρ, S, s, H, .normal, hs, Ev.refl _ _ _ _, hr, rfl, trivial, h⟩
 | exit id => intro s H K h ρ S w a hs hr; exact wp_exit ⟨ρ, S, s, H, .exit id, hs, Ev.refl _ _ _ _, hr, rfl, rfl, h⟩
 | ret => intro s H K h ρ S w a hs hr; exact wp_ret ⟨ρ, S, s, H, .ret, hs, Ev.refl _ _ _ _, hr, rfl, trivial, h⟩
 | goto l => intro s H K h; exact h.elim
 | refuse y => intro s H K h; exact h.elim
 | scope b ih =>
  intro s H K h0 ρ S w a hs hr
  have h : execG P b s H K := h0
  refine wp_scope_straight (wp_mono (ih s H K h ρ S w a hs hr) fun e a' w' hp => ?_)
  cases e with
  | goto l =>
   obtain ⟨ρ1, S1, s1, H1, ex, hs1, hev, hr1, hd, hex, hK⟩ := hp
   cases ex <;> exact hex.elim
  | _ => exact hp
 | rangeFunc f ps _ b _ _ => intro s H K h; exact h.elim
 | region id ops draw =>
  intro s H K h0 ρ S w a hs hr
  have h : regionK P ops draw s H K := h0
  clear h0
  unfold regionK at h
  split at h
  ·exact wp_region_list (execOps_sound _ _ _ h ρ S w a hs hr)
  ·have h0 : Cls ρ S H w { w with drawn := w.drawn + 1 } := ⟨S, hs.heap rfl, Ev.drew _ _ _ _⟩
   rcases h with ⟨hB, h⟩ | ⟨pre, hd, tl, hB, h⟩ | ⟨pre, hd, tl, hB, h⟩ | ⟨C, pre, hd, tl, hB, hC, h⟩ | ⟨pre, t, n, hB, h⟩ | h
   ·refine wp_region_quiet (C := Cls ρ S H w) hm hB h0 ?_
    have hq := execQ_sound ⟨_, h0⟩ _ _ h a hr
    refine exec_sound.wpQuiet_mono (fun a' ⟨s', hK, hr', hd⟩ w' ⟨S', hs', hev⟩ => ?_) _ _ hq
    exact ⟨ρ, S', s', H, .normal, hs', hev, hr', hd, trivial, hK⟩
   ·exact plan_sound hm hB h hs hr
   ·exact planQ_sound hm hB h hs hr
   ·exact planC_sound hm hB hC h hs hr
   ·exact tree_sound hm hB h hs hr
   ·exact h _ ρ S w a hs hr
 | seq x y ihx ihy =>
  intro s H K h0 ρ S w a hs hr
  have h : SeqN (execG P x) (execG P y) s H K := h0
  have key : ∀ K2 : Ex → List AV → List Ent → Prop, execG P x s H K2 → (∀ (e : Ex) (s1 : List AV) (H1 : List Ent) (ρ1 : List Loc) (S1 : Nat → Prop) (w1 : World) (a1 : Act), K2 e s1 H1 → Sat ρ1 S1 H1 w1 → Ev ρ S H w ρ1 S1 H1 w1 → relX e ρ1 s1 a1.tmps.toList → ∃ s2 H2 ρ2 S2, Sat ρ2 S2 H2 w1 ∧ Ev ρ S H w ρ2 S2 H2 w1 ∧ relX e ρ2 s2 a1.tmps.toList ∧ seqK (execG P y) K e s2 H2) → (Code.seq x y).wp P (Post ρ S H w a.defers K) a w := by
   intro K2 h2 hk
   refine wp_seq (wp_mono (ihx s H K2 h2 ρ S w a hs hr) fun e a' w' hp => ?_)
   obtain ⟨ρ0, S0, s0, H0, ex, hs0, hev0, hr0, hd, hex, hK0⟩ := hp
   obtain ⟨s1, H1, ρ1, S1, hs1, hev, hr1, hK⟩ := hk ex s0 H0 ρ0 S0 w' a' hK0 hs0 hev0 hr0
   cases ex with
   | normal =>
    cases e <;> first | exact hex.elim | skip
    refine wp_mono (ihy s1 H1 K hK ρ1 S1 w' a' hs1 hr1) fun e2 a2 w2 hp2 => ?_
    rw [hd] at hp2
    exact hp2.from hev
   | exit n => cases e <;> first | exact hex.elim | exact ⟨ρ1, S1, s1, H1, .exit n, hs1, hev, hr1, hd, hex, hK⟩
   | ret => cases e <;> first | exact hex.elim | exact ⟨ρ1, S1, s1, H1, .ret, hs1, hev, hr1, hd, hex, hK⟩
   | pan n => cases e <;> first | exact hex.elim | exact ⟨ρ1, S1, s1, H1, .pan n, hs1, hev, hr1, hd, hex, hK⟩
  rcases h with h | ⟨ι, inv, sl, hp, hlen, hoks, hokh, h, hnext⟩
  ·exact key _ h fun e s1 H1 ρ1 S1 w1 a1 hK hs1 hev hr1 => ⟨s1, H1, ρ1, S1, hs1, hev, hr1, hK⟩
  ·simp only [forceS_eq, forceH_eq] at hnext
   refine key _ h fun e s1 H1 ρ1 S1 w1 a1 hK hs1 hev hr1 => ?_
   cases e with
   | normal =>
    obtain ⟨j, hij, hws, hwh⟩ := hK
    have hw := hs1.weak hwh (hokh j hij)
    refine ⟨sl j, hp j, ρ1.take (hp j).length, S1, hw.1, ⟨?_, hev.os, hev.tape, hev.output, hev.size, hev.keep, hev.imm, fun b hb => hev.own b (hw.2 b hb)⟩, wkS_rel hws (hoks j hij) hr1, hnext j hij⟩
    obtain ⟨t, ht⟩ := hev.pre
    refine ⟨t.take ((hp j).length - ρ.length), ?_⟩
    rw [ht, List.take_append, List.take_of_length_le (by rw [hs.len]; exact hlen j hij)]
   | exit n => exact ⟨s1, H1, ρ1, S1, hs1, hev, hr1, hK⟩
   | ret => exact ⟨s1, H1, ρ1, S1, hs1, hev, hr1, hK⟩
   | pan n => exact ⟨s1, H1, ρ1, S1, hs1, hev, hr1, hK⟩
 | cond c x y ihx ihy =>
  intro s H K h0 ρ S w a hs hr
  have h : condK c s (fun s => execG P x s H K) (fun s => execG P y s H K) := h0
  obtain ⟨b, hb, hc⟩ := condK_spec h hr
  refine wp_cond hb ?_
  rcases hc with ⟨rfl, s', hK, hr'⟩ | ⟨rfl, s', hK, hr'⟩
  ·exact ihx s' H K hK ρ S w a hs hr'
  ·exact ihy s' H K hK ρ S w a hs hr'
 | block id b ih =>
  intro s H K h ρ S w a hs hr
  refine wp_block (wp_mono (ih s H (blockK id K) h ρ S w a hs hr) fun e a' w' hp => ?_)
  obtain ⟨ρ1, S1, s1, H1, ex, hs1, hev, hr1, hd, hex, hK⟩ := hp
  cases ex with
  | normal => cases e <;> first | exact hex.elim | exact ⟨ρ1, S1, s1, H1, .normal, hs1, hev, hr1, hd, trivial, hK⟩
  | ret => cases e <;> first | exact hex.elim | exact ⟨ρ1, S1, s1, H1, .ret, hs1, hev, hr1, hd, trivial, hK⟩
  | pan n => cases e <;> first | exact hex.elim | exact ⟨ρ1, S1, s1, H1, .pan n, hs1, hev, hr1, hd, hex, hK⟩
  | exit n =>
   cases e <;> first | exact hex.elim | skip
   rename_i m
   have hnm : n = m := hex
   subst hnm
   by_cases hid : n = id
   ·subst hid
    simp only [Exit.inBlock, if_true]
    have hK' : K .normal s1 H1 := by simpa [blockK] using hK
    exact ⟨ρ1, S1, s1, H1, .normal, hs1, hev, hr1, hd, trivial, hK'⟩
   ·simp only [Exit.inBlock, if_neg hid]
    have hbq : Nat.beq n id = false := by cases hq : Nat.beq n id with | false => rfl | true => exact absurd (Nat.eq_of_beq_eq_true hq) hid
    have hK' : K (.exit n) s1 H1 := by simpa [blockK, hbq] using hK
    exact ⟨ρ1, S1, s1, H1, .exit n, hs1, hev, hr1, hd, rfl, hK'⟩
 | loop b ih =>
  intro s H K h0 ρ S w a hs hr
  have h : LoopN (execG P b) s H K := h0
  rcases h with ⟨ι, inv, sl, hp, μ, pad, hpad, hlen, hoks, hokh, ⟨i0, hi0, hst, hsh⟩, hround⟩ | ⟨n, hU⟩ | ⟨ι, inv, sl, hp, μ, pad, hpad, hlen, hoks, hokh, ⟨i0, hi0, hst, hsh⟩, hround⟩
  ·obtain ⟨t0, hs0, hev0⟩ := Sat.pad pad hpad hs
   have hr0 := RelS_pre t0 hr
   refine wp_mono (P := P) (c := .loop b) (Q := Post (ρ ++ t0) S (H ++ pad) w a.defers K) ?_ fun e a' w' hp => hp.from hev0
   clear hs hr h0
   have hs := hs0
   have hr := hr0
   clear hs0 hr0
   generalize ρ ++ t0 = ρ at *
   generalize H ++ pad = H at *
   simp only [forceS_eq, forceH_eq] at hround
   refine wp_loop_by (fun n a' w' => ∃ i ρ' S', inv i ∧ μ i = n ∧ Sat ρ' S' (hp i) w' ∧ Ev ρ S H w ρ' S' (hp i) w' ∧ RelS ρ' (sl i) a'.tmps.toList ∧ a'.defers = a.defers) ?_ (μ i0) a w ?_
   ·rintro n a' w' ⟨i, ρ', S', hinv, rfl, hs', hev, hr', hd⟩
    refine wp_mono (ih (sl i) (hp i) _ (hround i hinv) ρ' S' w' a' hs' hr') fun e a2 w2 hq => ?_
    obtain ⟨ρ2, S2, s2, H2, ex, hs2, hev2, hr2, hd2, hex, hK⟩ := hq
    cases ex with
    | normal =>
     cases e <;> first | exact hex.elim | skip
     obtain ⟨j, hij, hj, hws, hwh⟩ := hK
     have hw := hs2.weak hwh (by rw [hlen]; exact hokh j hij)
     refine ⟨μ j, hj, j, ρ2.take (hp j).length, S2, hij, rfl, hw.1, ?_, ?_, hd2.trans hd⟩
     ·have h12 := hev.trans hev2
      refine ⟨?_, h12.os, h12.tape, h12.output, h12.size, h12.keep, h12.imm, fun b hb => h12.own b (hw.2 b hb)⟩
      obtain ⟨t, ht⟩ := h12.pre
      refine ⟨t.take ((hp j).length - ρ.length), ?_⟩
      rw [ht, List.take_append, List.take_of_length_le (by rw [hs.len, hlen]; omega)]
     ·rw [hlen]; exact wkS_rel hws (hoks j) hr2
    | exit n => cases e <;> first | exact hex.elim | exact ⟨ρ2, S2, s2, H2, .exit n, hs2, hev.trans hev2, hr2, hd2.trans hd, hex, hK⟩
    | ret => cases e <;> first | exact hex.elim | exact ⟨ρ2, S2, s2, H2, .ret, hs2, hev.trans hev2, hr2, hd2.trans hd, trivial, hK⟩
    | pan n => cases e <;> first | exact hex.elim | exact ⟨ρ2, S2, s2, H2, .pan n, hs2, hev.trans hev2, hr2, hd2.trans hd, hex, hK⟩
   ·have hw := hs.weak hsh (by rw [hlen]; exact hokh i0 hi0)
    have hρ : ρ.take (hp i0).length = ρ := List.take_of_length_le (by rw [hs.len, hlen]; omega)
    rw [hρ] at hw
    refine ⟨i0, ρ, S, hi0, rfl, hw.1, ⟨⟨[], by simp⟩, rfl, rfl, rfl, Nat.le_refl _, fun _ _ _ => rfl, fun b hb => .inl hb, fun b hb => .inl (hw.2 b hb)⟩, ?_, rfl⟩
    have := wkS_rel hst (hoks i0) hr
    rw [← hlen i0, hρ] at this
    exact this
  ·refine wp_loop_by (fun n a' w' => ∃ s' H' ρ' S', LoopU (execG P b) K n s' H' ∧ Sat ρ' S' H' w' ∧ Ev ρ S H w ρ' S' H' w' ∧ RelS ρ' s' a'.tmps.toList ∧ a'.defers = a.defers) ?_ n a w ⟨s, H, ρ, S, hU, hs, Ev.refl _ _ _ _, hr, rfl⟩
   rintro n a' w' ⟨s', H', ρ', S', hU, hs', hev, hr', hd⟩
   cases n with
   | zero => exact hU.elim
   | succ n =>
    refine wp_mono (ih s' H' _ hU ρ' S' w' a' hs' hr') fun e a2 w2 hq => ?_
    obtain ⟨ρ2, S2, s2, H2, ex, hs2, hev2, hr2, hd2, hex, hK⟩ := hq
    cases ex with
    | normal =>
     cases e <;> first | exact hex.elim | skip
     exact ⟨n, Nat.lt_succ_self n, s2, H2, ρ2, S2, hK, hs2, hev.trans hev2, hr2, hd2.trans hd⟩
    | exit n => cases e <;> first | exact hex.elim | exact ⟨ρ2, S2, s2, H2, .exit n, hs2, hev.trans hev2, hr2, hd2.trans hd, hex, hK⟩
    | ret => cases e <;> first | exact hex.elim | exact ⟨ρ2, S2, s2, H2, .ret, hs2, hev.trans hev2, hr2, hd2.trans hd, trivial, hK⟩
    | pan n => cases e <;> first | exact hex.elim | exact ⟨ρ2, S2, s2, H2, .pan n, hs2, hev.trans hev2, hr2, hd2.trans hd, hex, hK⟩
  ·obtain ⟨t0, hs0, hev0⟩ := Sat.pad pad hpad hs
   have hr0 := RelS_pre t0 hr
   refine wp_mono (P := P) (c := .loop b) (Q := Post (ρ ++ t0) S (H ++ pad) w a.defers K) ?_ fun e a' w' hp => hp.from hev0
   clear hs hr h0
   have hs := hs0
   have hr := hr0
   clear hs0 hr0
   generalize ρ ++ t0 = ρ at *
   generalize H ++ pad = H at *
   simp only [forceS_eq, forceH_eq] at hround
   refine wp_loop_by (fun n a' w' => ∃ i ρ' S', inv i ∧ μ i = n ∧ Sat ρ' S' (hp i) w' ∧ Ev ρ S H w ρ' S' (hp i) w' ∧ RelS ρ' (sl i) a'.tmps.toList ∧ a'.defers = a.defers) ?_ (μ i0) a w ?_
   ·rintro n a' w' ⟨i, ρ', S', hinv, rfl, hs', hev, hr', hd⟩
    refine wp_mono (ih (sl i) (hp i) _ (hround i hinv) ρ' S' w' a' hs' hr') fun e a2 w2 hq => ?_
    obtain ⟨ρ2, S2, s2, H2, ex, hs2, hev2, hr2, hd2, hex, hK⟩ := hq
    cases ex with
    | normal =>
     cases e <;> first | exact hex.elim | skip
     obtain ⟨j, hij, hj, hws, G, hT, hwh⟩ := hK
     obtain ⟨S3, hs3, hev3⟩ := hT.2 _ _ _ hs2
     have hw := hs3.weak hwh (by rw [hlen]; exact hokh j hij)
     refine ⟨μ j, hj, j, ρ2.take (hp j).length, S3, hij, rfl, hw.1, ?_, ?_, hd2.trans hd⟩
     ·have h12 := (hev.trans hev2).trans hev3
      refine ⟨?_, h12.os, h12.tape, h12.output, h12.size, h12.keep, h12.imm, fun b hb => h12.own b (hw.2 b hb)⟩
      obtain ⟨t, ht⟩ := h12.pre
      refine ⟨t.take ((hp j).length - ρ.length), ?_⟩
      rw [ht, List.take_append, List.take_of_length_le (by rw [hs.len, hlen]; omega)]
     ·rw [hlen]; exact wkS_rel hws (hoks j) hr2
    | exit n => cases e <;> first | exact hex.elim | exact ⟨ρ2, S2, s2, H2, .exit n, hs2, hev.trans hev2, hr2, hd2.trans hd, hex, hK⟩
    | ret => cases e <;> first | exact hex.elim | exact ⟨ρ2, S2, s2, H2, .ret, hs2, hev.trans hev2, hr2, hd2.trans hd, trivial, hK⟩
    | pan n => cases e <;> first | exact hex.elim | exact ⟨ρ2, S2, s2, H2, .pan n, hs2, hev.trans hev2, hr2, hd2.trans hd, hex, hK⟩
   ·obtain ⟨G, hT, hsh⟩ := hsh
    obtain ⟨S3, hs3, hev3⟩ := hT.2 _ _ _ hs
    have hw := hs3.weak hsh (by rw [hlen]; exact hokh i0 hi0)
    have hρ : ρ.take (hp i0).length = ρ := List.take_of_length_le (by rw [hs.len, hlen]; omega)
    rw [hρ] at hw
    refine ⟨i0, ρ, S3, hi0, rfl, hw.1, ⟨⟨[], by simp⟩, hev3.os, hev3.tape, hev3.output, hev3.size, hev3.keep, hev3.imm, fun b hb => hev3.own b (hw.2 b hb)⟩, ?_, rfl⟩
    have := wkS_rel hst (hoks i0) hr
    rw [← hlen i0, hρ] at this
    exact this
theorem specG_of_exec {P : Program} (hm : P.follows .mixedOrders = true) {f : FuncId} {fn : Func} {c : Code} (hf : P.funcs[f]? = some fn) (hn : (fn.name == "runtime.NumGoroutine") = false) (hb : fn.body = some c)
  {args : List AV} (hl : Nat.ble args.length fn.ntmps = true) {H : List Ent} {K : Out → List Ent → Prop} (h : initK fn.ntmps args fun s => execG P c s H (endK P fn.results.toList K)) : SpecH P f args H K := by
 refine ⟨⟨fn, hf, hn, by rw [hb]; rfl⟩, fun ρ S w vs hs hr => ?_⟩
 have hvl := RelS_len hr
 obtain ⟨s0, h, hs0⟩ := initK_rel h (Nat.le_of_ble_eq_true hl)
 have hinit : RelS ρ s0 (vs.toArray ++ Array.replicate (fn.ntmps - vs.toArray.size) undef).toList := by
  have := hs0 ρ vs hr
  simpa [hvl] using this
 refine calls_of_wp hf hb (wp_mono (execG_sound hm c _ H _ h ρ S w ⟨_, []⟩ hs hinit) ?_)
 ·intro e a w' hp
  obtain ⟨ρ1, S1, s1, H1, ex, hs1, hev, hr1, hd, hex, hK⟩ := hp
  have fin : RelS ρ1 s1 a.tmps.toList → ∀ {K' : Out → Prop}, resK P fn.results.toList s1 H1 K' → (∀ out, K' out → K out H1) → ∃ v, (results fn a.tmps).run P w' = .ok v w' ∧
    ∃ ρ' S' H' out, Sat ρ' S' H' w' ∧ Ev ρ S H w ρ' S' H' w' ∧ OutOk ρ' out (.returned v) ∧ K out H' := fun hr2 {_} hK1 hK2 => by
   obtain ⟨out, hK3, hres⟩ := resK_sound hK1
   obtain ⟨v, hrun, hv⟩ := hres ρ1 S1 w' a.tmps hs1 hr2
   exact ⟨v, hrun, ρ1, S1, H1, out, hs1, hev, hv, hK2 out hK3⟩
  cases ex with
  | normal =>
   cases e <;> first | exact hex.elim | skip
   obtain ⟨v, hrun, hR⟩ := fin hr1 (K' := fun out => K out H1) hK fun _ h => h
   exact ⟨hd, v, hrun, hR⟩
  | ret =>
   cases e <;> first | exact hex.elim | skip
   obtain ⟨v, hrun, hR⟩ := fin hr1 (K' := fun out => K out H1) hK fun _ h => h
   exact ⟨hd, v, hrun, hR⟩
  | exit n => exact hK.elim
  | pan ch =>
   cases e <;> first | exact hex.elim | skip
   have : ch = _ := hex
   subst this
   exact ⟨hd, ρ1, S1, H1, .pan ch, hs1, hev, rfl, hK⟩
end Go.AX

/-
 Contract: a byte that is no ASCII is in no text of ASCII.
-/
namespace Go.Proofs.YtgogonnnojcioaaGreatDoor
open Go.AX Go.RowKit Go.Core Go.Marshal
set_option maxRecDepth 20000
theorem pureG {P : Program} (hm : P.follows .mixedOrders = true) {f : FuncId} {fn : Func} {c : Code} (hf : P.funcs[f]? = some fn) (hn : (fn.name == "runtime.NumGoroutine") = false) (hb : fn.body = some c)
  {xs : List Value} (hl : Nat.ble (pvs xs).length fn.ntmps = true) {r : Value} (h : initK fn.ntmps (pvs xs) fun s => execG P c s [] (endK P fn.results.toList fun out _ => out = .val (.c (.v r)))) (H : List Ent) : SpecH P f (pvs xs) H (Ret r H) :=
 ((specG_of_exec hm hf hn hb hl h).mono fun out _ ho => ⟨r, ho, rfl⟩ : SpecH P f (pvs xs) [] fun out _ => ∃ x, out = .val (.c (.v x)) ∧ x = r).frame H |>.mono fun _ _ ⟨_, ho, hx, hH⟩ => ⟨by rw [ho, hx], hH⟩
theorem enc_hi (x : UInt8) (hx : 128 ≤ x.toNat) : ∃ b0 b1 : UInt8, Utf8.encode (x.toNat : Int) = bs [b0, b1] ∧ 128 ≤ b1.toNat := by
 have h : ∀ n : Fin 256, 128 ≤ n.val → (Utf8.encode (n.val : Int)).data.toList = [UInt8.ofNat (192 + n.val / 64), UInt8.ofNat (128 + n.val % 64)] ∧ 128 ≤ (UInt8.ofNat (128 + n.val % 64)).toNat := by decide +kernel
 have h2 := h ⟨x.toNat, x.toNat_lt⟩ hx
 exact ⟨_, _, by rw [← bs_of (Utf8.encode (x.toNat : Int)), h2.1], h2.2⟩
theorem index_lt (l : List UInt8) (c : UInt8) : Lib.indexByte l c < 0 ↔ l.contains c = false := by
 induction l with
 | nil => simp [Lib.indexByte]
 | cons b l ih =>
  have hge := Lib.indexByte_ge l c
  unfold Lib.indexByte
  cases hb : b == c with
  | true =>
   have hbc : b = c := by simpa using hb
   simp [hbc]
  | false =>
   have hbc : (c == b) = false := by
    have : ¬ b = c := by simpa using hb
    simpa using fun h => this h.symm
   rw [List.contains_cons, hbc, Bool.false_or, ← ih]
   simp only [Bool.false_eq_true, if_false]
   split
   ·rename_i h; have : Lib.indexByte l c = -1 := by simpa using h
    omega
   ·rename_i h; have : ¬ Lib.indexByte l c = -1 := by simpa using h
    omega
theorem index_none (s : List UInt8) (c : UInt8) (h : c ∉ s) : Lib.indexByte s c = -1 := by
 induction s with
 | nil => rfl
 | cons b l ih =>
  have hb : (b == c) = false := by
   rw [beq_eq_false_iff_ne]
   intro e
   exact h (by simp [e])
  unfold Lib.indexByte
  rw [hb, ih (fun h2 => h (by simp [h2]))]
  rfl
theorem IndexRune_hi (c0 c1 : UInt8) (s : List UInt8) (hs : ∀ c ∈ c0 :: c1 :: s, c.toNat < 128) (hl : s.length ≤ 1000) (x : UInt8) (hx : 128 ≤ x.toNat) : ∀ H, SpecH Tryz.prog 103 (pvs [.string (bs (c0 :: c1 :: s)), .int .i32 (x.toNat : Int)]) H (Ret (.int .i64 (-1)) H) := by
 refine pureG hm Tryz.func103 (by kernel_rfl) rfl rfl ?_
 have hx2 := x.toNat_lt
 have hvr : ∀ H, SpecH Tryz.prog 127 (pvs [.int .i32 (x.toNat : Int)]) H (Ret (.bool true) H) := fun H =>
  SpecH.rawP (R := fun r => r = .bool true) (callOk Tryz.func127 (by kernel_rfl) rfl) (fun w _ => (Tryz.utf8_ValidRune (x.toNat : Int) w).mono fun e w' ⟨he, hw⟩ => by
   have e1 : Lib.validRune (x.toNat : Int) = true := by unfold Lib.validRune; simp; omega
   rw [e1] at he
   subst hw
   exact ⟨_, he, rfl, Below.refl _ _⟩) fun r hr => by subst hr; exact ⟨rfl, rfl⟩
 ((conv => whnf); (repeat ((first | refine SeqN.plain ?_ | refine BoxN.own ?_ | refine RwN.own ?_ | refine VrN.norm (wrap_i64 (by omega)) ?_ | refine VrN.keep ?_ | refine DrawN.calm (by decide +kernel) ?_ | refine Nd.mk (by decide +kernel) ?_ | refine Nd.mk (by omega) ?_ | (refine Nd.mk ?_ ?_; focus ((repeat' (first | exact trivial | exact wkE_refl _ | refine And.intro ?_ ?_)); done)) | refine RdN.intro _ rfl (by rfl) ?_); (conv => whnf))))
 refine brd_dec (fun h => absurd h (by omega)) (fun _ => ?_)
 ((conv => whnf); (repeat ((first | refine SeqN.plain ?_ | refine BoxN.own ?_ | refine RwN.own ?_ | refine VrN.norm (wrap_i64 (by omega)) ?_ | refine VrN.keep ?_ | refine DrawN.calm (by decide +kernel) ?_ | refine Nd.mk (by decide +kernel) ?_ | refine Nd.mk (by omega) ?_ | (refine Nd.mk ?_ ?_; focus ((repeat' (first | exact trivial | exact wkE_refl _ | refine And.intro ?_ ?_)); done)) | refine RdN.intro _ rfl (by rfl) ?_); (conv => whnf))))
 refine brd_eq (fun h => absurd h (by omega)) (fun _ => ?_)
 ((conv => whnf); (repeat ((first | refine SeqN.plain ?_ | refine BoxN.own ?_ | refine RwN.own ?_ | refine VrN.norm (wrap_i64 (by omega)) ?_ | refine VrN.keep ?_ | refine DrawN.calm (by decide +kernel) ?_ | refine Nd.mk (by decide +kernel) ?_ | refine Nd.mk (by omega) ?_ | (refine Nd.mk ?_ ?_; focus ((repeat' (first | exact trivial | exact wkE_refl _ | refine And.intro ?_ ?_)); done)) | refine RdN.intro _ rfl (by rfl) ?_); (conv => whnf))))
 refine call1 (hvr _) ?_
 ((conv => whnf); (repeat ((first | refine SeqN.plain ?_ | refine BoxN.own ?_ | refine RwN.own ?_ | refine VrN.norm (wrap_i64 (by omega)) ?_ | refine VrN.keep ?_ | refine DrawN.calm (by decide +kernel) ?_ | refine Nd.mk (by decide +kernel) ?_ | refine Nd.mk (by omega) ?_ | (refine Nd.mk ?_ ?_; focus ((repeat' (first | exact trivial | exact wkE_refl _ | refine And.intro ?_ ?_)); done)) | refine RdN.intro _ rfl (by rfl) ?_); (conv => whnf))))
 obtain ⟨b0, b1, he, hb1⟩ := enc_hi x hx
 rw [he, show IntKind.i64.wrap (((bs [b0, b1]).size : Nat) - 1) = 1 from rfl]
 refine LoopN.unroll 1 ?_
 ((conv => whnf); (repeat ((first | refine SeqN.plain ?_ | refine BoxN.own ?_ | refine RwN.own ?_ | refine VrN.norm (wrap_i64 (by omega)) ?_ | refine VrN.keep ?_ | refine DrawN.calm (by decide +kernel) ?_ | refine Nd.mk (by decide +kernel) ?_ | refine Nd.mk (by omega) ?_ | (refine Nd.mk ?_ ?_; focus ((repeat' (first | exact trivial | exact wkE_refl _ | refine And.intro ?_ ?_)); done)) | refine RdN.intro _ rfl (by rfl) ?_); (conv => whnf))))
 have hsz : (bs (c0 :: c1 :: s)).size = s.length + 2 := bs_size _
 refine brd_dec (fun _ => ?_) (fun h => absurd (by rw [hsz]; show (1 : Int) < _; omega) h)
 ((conv => whnf); (repeat ((first | refine SeqN.plain ?_ | refine BoxN.own ?_ | refine RwN.own ?_ | refine VrN.norm (wrap_i64 (by omega)) ?_ | refine VrN.keep ?_ | refine DrawN.calm (by decide +kernel) ?_ | refine Nd.mk (by decide +kernel) ?_ | refine Nd.mk (by omega) ?_ | (refine Nd.mk ?_ ?_; focus ((repeat' (first | exact trivial | exact wkE_refl _ | refine And.intro ?_ ?_)); done)) | refine RdN.intro _ rfl (by rfl) ?_); (conv => whnf))))
 refine Nd.mk ⟨by decide, by show (1 : Int) < 2; decide⟩ ?_
 ((conv => whnf); (repeat ((first | refine SeqN.plain ?_ | refine BoxN.own ?_ | refine RwN.own ?_ | refine VrN.norm (wrap_i64 (by omega)) ?_ | refine VrN.keep ?_ | refine DrawN.calm (by decide +kernel) ?_ | refine Nd.mk (by decide +kernel) ?_ | refine Nd.mk (by omega) ?_ | (refine Nd.mk ?_ ?_; focus ((repeat' (first | exact trivial | exact wkE_refl _ | refine And.intro ?_ ?_)); done)) | refine RdN.intro _ rfl (by rfl) ?_); (conv => whnf))))
 rw [show byteAt (bs (c0 :: c1 :: s)) (Int.toNat 1) = (c1.toNat : Int) from rfl, show byteAt (bs [b0, b1]) (Int.toNat 1) = (b1.toNat : Int) from rfl]
 have hc1 : c1.toNat < 128 := hs c1 (by simp)
 refine brd_ne (fun _ => ?_) (fun h => absurd h (by omega))
 ((conv => whnf); (repeat ((first | refine SeqN.plain ?_ | refine BoxN.own ?_ | refine RwN.own ?_ | refine VrN.norm (wrap_i64 (by omega)) ?_ | refine VrN.keep ?_ | refine DrawN.calm (by decide +kernel) ?_ | refine Nd.mk (by decide +kernel) ?_ | refine Nd.mk (by omega) ?_ | (refine Nd.mk ?_ ?_; focus ((repeat' (first | exact trivial | exact wkE_refl _ | refine And.intro ?_ ?_)); done)) | refine RdN.intro _ rfl (by rfl) ?_); (conv => whnf))))
 refine ReadW.str_l rfl (by kernel_rfl) rfl rfl ⟨by decide, by rw [hsz, show IntKind.i64.wrap (1 + 1) = 2 from rfl]; omega⟩ ?_
 rw [show (bs (c0 :: c1 :: s)).extract (Int.toNat (IntKind.i64.wrap (1 + 1))) (bs (c0 :: c1 :: s)).size = bs s by rw [bs_size]; exact bs_drop (c0 :: c1 :: s) 2]
 ((conv => whnf); (repeat ((first | refine SeqN.plain ?_ | refine BoxN.own ?_ | refine RwN.own ?_ | refine VrN.norm (wrap_i64 (by omega)) ?_ | refine VrN.keep ?_ | refine DrawN.calm (by decide +kernel) ?_ | refine Nd.mk (by decide +kernel) ?_ | refine Nd.mk (by omega) ?_ | (refine Nd.mk ?_ ?_; focus ((repeat' (first | exact trivial | exact wkE_refl _ | refine And.intro ?_ ?_)); done)) | refine RdN.intro _ rfl (by rfl) ?_); (conv => whnf))))
 refine Nd.mk ⟨by decide, by show (1 : Int) < 2; decide⟩ ?_
 ((conv => whnf); (repeat ((first | refine SeqN.plain ?_ | refine BoxN.own ?_ | refine RwN.own ?_ | refine VrN.norm (wrap_i64 (by omega)) ?_ | refine VrN.keep ?_ | refine DrawN.calm (by decide +kernel) ?_ | refine Nd.mk (by decide +kernel) ?_ | refine Nd.mk (by omega) ?_ | (refine Nd.mk ?_ ?_; focus ((repeat' (first | exact trivial | exact wkE_refl _ | refine And.intro ?_ ?_)); done)) | refine RdN.intro _ rfl (by rfl) ?_); (conv => whnf))))
 refine callQ (IndexByte_c s b1 _) ?_
 rw [index_none s b1 (fun h => by have := hs b1 (by simp [h]); omega)]
 ((conv => whnf); (repeat ((first | refine SeqN.plain ?_ | refine BoxN.own ?_ | refine RwN.own ?_ | refine VrN.norm (wrap_i64 (by omega)) ?_ | refine VrN.keep ?_ | refine DrawN.calm (by decide +kernel) ?_ | refine Nd.mk (by decide +kernel) ?_ | refine Nd.mk (by omega) ?_ | (refine Nd.mk ?_ ?_; focus ((repeat' (first | exact trivial | exact wkE_refl _ | refine And.intro ?_ ?_)); done)) | refine RdN.intro _ rfl (by rfl) ?_); (conv => whnf))))
theorem ContainsRune_lo (s : List UInt8) (x : UInt8) (hx : x.toNat < 128) : ∀ H, SpecH Tryz.prog 88 (pvs [.string (bs s), .int .i32 (x.toNat : Int)]) H (Ret (.bool (decide (0 ≤ Lib.indexByte s x))) H) := fun H =>
 SpecH.rawP (R := fun r => r = .bool (decide (0 ≤ Lib.indexByte s x))) (callOk Tryz.func88 (by kernel_rfl) rfl) (fun w _ => (Tryz.strings_ContainsRune_ascii (bs s) (x.toNat : Int) w (by omega) (by omega)).mono fun e w' ⟨he, hw⟩ => by
  subst hw
  rw [bs_list, Int.toNat_natCast, show x.toNat.toUInt8 = x by simp] at he
  exact ⟨_, he, rfl, Below.refl _ _⟩) fun r hr => by subst hr; exact ⟨rfl, rfl⟩
theorem ContainsRune_hi (c0 c1 : UInt8) (s : List UInt8) (hs : ∀ c ∈ c0 :: c1 :: s, c.toNat < 128) (hl : s.length ≤ 1000) (x : UInt8) (hx : 128 ≤ x.toNat) : ∀ H, SpecH Tryz.prog 88 (pvs [.string (bs (c0 :: c1 :: s)), .int .i32 (x.toNat : Int)]) H (Ret (.bool false) H) := by
 refine pureC hm Tryz.func88 (by kernel_rfl) rfl rfl ?_
 (first | refine wX ?_ | exact wZ)
 refine call1 (IndexRune_hi c0 c1 s hs hl x hx _) ?_
 (first | refine wX ?_ | exact wZ)
 rfl
theorem ContainsRune_m (c0 c1 : UInt8) (s : List UInt8) (hs : ∀ c ∈ c0 :: c1 :: s, c.toNat < 128) (hl : s.length ≤ 1000) (x : UInt8) : ∀ H, SpecH Tryz.prog 88 (pvs [.string (bs (c0 :: c1 :: s)), .int .i32 (x.toNat : Int)]) H (Ret (.bool (decide (x ∈ c0 :: c1 :: s))) H) := by
 intro H
 by_cases hx : x.toNat < 128
 ·have h := ContainsRune_lo (c0 :: c1 :: s) x hx H
  have e : decide (0 ≤ Lib.indexByte (c0 :: c1 :: s) x) = decide (x ∈ c0 :: c1 :: s) := by
   by_cases hm2 : x ∈ c0 :: c1 :: s
   ·rw [decide_eq_true hm2]
    have : ¬ Lib.indexByte (c0 :: c1 :: s) x < 0 := by
     rw [index_lt, List.contains_iff_mem.2 hm2]
     exact fun h => by cases h
    simp; omega
   ·rw [decide_eq_false hm2, index_none _ _ hm2]
    rfl
  rw [← e]
  exact h
 ·have h := ContainsRune_hi c0 c1 s hs hl x (by omega) H
  rw [decide_eq_false (fun hm2 => hx (hs x hm2))]
  exact h
end Go.Proofs.YtgogonnnojcioaaGreatDoor

/-
 Contracts: the last place of a byte; blanks trimmed.
-/
namespace Go.Proofs.YtgogonnnojcioaaGreatDoor
open Go.AX Go.RowKit
set_option maxRecDepth 20000

end Go.Proofs.YtgogonnnojcioaaGreatDoor

/-
 Contracts: bytes turned in place; a number in groups of 7 bits (pack).
-/
namespace Go.Marshal
def sw (l : List UInt8) (i : Nat) : B := (List.range l.length).map fun k => if k < i ∨ l.length ≤ k + i then l.getD (l.length - 1 - k) 0 else l.getD k 0
theorem sw_len (l : List UInt8) (i : Nat) : (sw l i).length = l.length := by simp [sw]
theorem sw_get (l : List UInt8) (i k : Nat) (h : k < l.length) : (sw l i)[k]? = some (if k < i ∨ l.length ≤ k + i then l.getD (l.length - 1 - k) 0 else l.getD k 0) := by
 simp [sw, h]
theorem sw_zero (l : List UInt8) : sw l 0 = l := by
 apply List.ext_getElem?
 intro k
 rcases Nat.lt_or_ge k l.length with h | h
 ·rw [sw_get l 0 k h, if_neg (by omega)]
  simp [List.getD, h]
 ·rw [List.getElem?_eq_none (by rw [sw_len]; exact h), List.getElem?_eq_none h]
theorem sw_end (l : List UInt8) (i : Nat) (hi : l.length ≤ 2 * i + 1) : sw l i = l.reverse := by
 apply List.ext_getElem?
 intro k
 rcases Nat.lt_or_ge k l.length with h | h
 ·rw [sw_get l i k h, List.getElem?_reverse h]
  have hk : l.length - 1 - k < l.length := by omega
  by_cases h2 : k < i ∨ l.length ≤ k + i
  ·rw [if_pos h2]
   simp [List.getD, List.getElem?_eq_getElem hk]
  ·rw [if_neg h2]
   have : k = l.length - 1 - k := by omega
   rw [← this]
   simp [List.getD, h]
 ·rw [List.getElem?_eq_none (by rw [sw_len]; exact h), List.getElem?_eq_none (by simpa using h)]
theorem sw_step (l : List UInt8) (i : Nat) (hi : i < l.length - 1 - i) : ((sw l i).set i (l.getD (l.length - 1 - i) 0)).set (l.length - 1 - i) (l.getD i 0) = sw l (i + 1) := by
 apply List.ext_getElem?
 intro k
 rcases Nat.lt_or_ge k l.length with h | h
 ·rw [sw_get l (i + 1) k h, List.getElem?_set, List.getElem?_set]
  simp only [List.length_set, sw_len]
  by_cases h1 : l.length - 1 - i = k
  ·rw [if_pos h1, if_pos (by omega), if_pos (by omega)]
   congr 2
   omega
  ·rw [if_neg h1]
   by_cases h2 : i = k
   ·rw [if_pos h2, if_pos (by omega), if_pos (by omega), h2]
   ·rw [if_neg h2, sw_get l i k h]
    by_cases h3 : k < i ∨ l.length ≤ k + i
    ·rw [if_pos h3, if_pos (by omega)]
    ·rw [if_neg h3, if_neg (by omega)]
 ·rw [List.getElem?_eq_none (by simp [sw_len]; exact h), List.getElem?_eq_none (by rw [sw_len]; exact h)]
end Go.Marshal
namespace Go.Proofs.YtgogonnnojcioaaGreatDoor
open Go.AX Go.RowKit Go.Marshal
set_option maxRecDepth 20000

def own (l : List UInt8) (b cap : Nat) : Ent := .app 5 1 (u8s l) (some ⟨b, 0, none⟩) l.length cap
theorem ptr_lit {a : AV} {b n q : Nat} (h : a = .c (.v (.pointer (some (elemAddr (some ⟨b, 0, none⟩) n))))) (hq : n = q) : a = .c (.v (.pointer (some ⟨b, q, none⟩))) := by
 rw [h, hq]
 unfold elemAddr
 rw [show (some (⟨b, 0, none⟩ : Addr)).getD default = ⟨b, 0, none⟩ from rfl, add_lit0]
theorem u8s_at {l : List UInt8} {k : Nat} {c : UInt8} (h : l[k]? = some c) : (u8s l)[k]? = some (.int .u8 (c.toNat : Int)) := by simp [u8s, h]
theorem u8s_put {l : List UInt8} {k : Nat} (c : UInt8) (h : k < l.length) : (u8s l).take k ++ [.int .u8 (c.toNat : Int)] ++ (u8s l).drop (k + 1) = u8s (l.set k c) := by
 have := put_set (xs := u8s l) (q := k) (.int .u8 (c.toNat : Int)) (by simpa [u8s] using h)
 rw [show [Value.int .u8 (c.toNat : Int)].length = 1 from rfl] at this
 rw [this]
 simp [u8s]
theorem Reverse_c (l : List UInt8) (b cap : Nat) (hl : l.length ≤ 1000000) : SpecH Tryz.prog 173 [.c (.v (.slice (some ⟨b, 0, none⟩) l.length cap))] [own l b cap] (RetG (ι := Unit) (fun _ => True) (fun _ => .tuple #[]) fun _ => [own l.reverse b cap]) := by
 refine ownC hm Tryz.func173 (by kernel_rfl) rfl rfl (fun _ _ => okHB_eq rfl) (fun _ _ => Nat.le_refl _) ?_
 (first | refine wX ?_ | exact wZ)
 refine LoopN.intro Nat (fun i => 2 * i ≤ l.length + 1)
  (fun i => mkS Tryz.f173.ntmps 0 [(0, .c (.v (.slice (some ⟨b, 0, none⟩) l.length cap))), (2, .c (.v (.int .i64 (i : Int)))), (3, .c (.v (.int .i64 ((l.length : Int) - 1 - i))))])
  (fun i => [.app 5 1 (u8s (sw l i)) (some ⟨b, 0, none⟩) l.length cap]) (fun i => l.length - i) [] rfl
  (fun _ => rfl) (fun _ => rfl) (fun _ _ => okHB_eq rfl) ⟨0, by omega, ?_, ?_⟩ ?_
 ·exact wKK
 ·rw [sw_zero]
  exact wkH_refl _
 intro i hi
 (first | refine wX ?_ | exact wZ)
 refine brd_dec (fun h => ?_) (fun h => ?_)
 ·have hlen := sw_len l i
  have g1 := sw_get l i i (by omega)
  have g2 := sw_get l i (l.length - 1 - i) (by omega)
  rw [if_neg (by omega)] at g1 g2
  have hst := sw_step l i (by omega)
  (first | refine wX ?_ | exact wZ)
  refine DrawN.plan [0, 1, 2, 3, 4, 5, 8, 9] [(6, 1), (7, 1), (10, 1), (11, 1), (12, 1)] [(13, 0), (14, 0), (15, 0)] (by decide +kernel) ?_
  (first | refine wX ?_ | exact wZ)
  refine Nd.mk ⟨rfl, by omega, by omega⟩ ?_
  (first | refine wX ?_ | exact wZ)
  refine LdN.one (.int .u8 ((l.getD (l.length - 1 - i) 0).toNat : Int)) rfl (fun w hw => hw.1) (by
   show (u8s (sw l i))[((l.length : Int) - 1 - i).toNat * 1]? = _
   rw [Nat.mul_one, show ((l.length : Int) - 1 - i).toNat = l.length - 1 - i by omega]
   exact u8s_at g2) ?_
  (first | refine wX ?_ | exact wZ)
  refine Nd.mk ⟨rfl, by omega, by omega⟩ ?_
  (first | refine wX ?_ | exact wZ)
  refine LdN.one (.int .u8 ((l.getD i 0).toNat : Int)) rfl (fun w hw => hw.1) (by
   show (u8s (sw l i))[(i : Int).toNat * 1]? = _
   rw [Nat.mul_one, Int.toNat_natCast]
   exact u8s_at g1) ?_
  (first | refine wX ?_ | exact wZ)
  refine Nd.mk ⟨rfl, by omega, by omega⟩ ?_
  (first | refine wX ?_ | exact wZ)
  refine EffW.appTo (i := 0) (q := i) (ys := [_]) (u8s ((sw l i).set i (l.getD (l.length - 1 - i) 0))) 1 rfl (ptr_lit rfl (by show (i : Int).toNat * 1 = i; omega)) rfl rfl rfl rfl rfl (by show i + 1 ≤ l.length * 1; omega) (u8s_put _ (by omega)) rfl ?_
  (first | refine wX ?_ | exact wZ)
  refine Nd.mk ⟨rfl, by omega, by omega⟩ ?_
  (first | refine wX ?_ | exact wZ)
  refine EffW.appTo (i := 0) (q := l.length - 1 - i) (ys := [_]) (u8s (sw l (i + 1))) 1 rfl (ptr_lit rfl (by show ((l.length : Int) - 1 - i).toNat * 1 = l.length - 1 - i; omega)) rfl rfl rfl rfl rfl (by show l.length - 1 - i + 1 ≤ l.length * 1; omega) (by rw [← hst]; exact u8s_put _ (by simp; omega)) rfl ?_
  (first | refine wX ?_ | exact wZ)
  refine ⟨i + 1, by omega, by omega, ?_, wHH⟩
  exact wKK
 ·rw [sw_end l i (by omega)]
  (first | refine wX ?_ | exact wZ)
  have e : own l.reverse b cap = .app 5 1 (u8s l.reverse) (some ⟨b, 0, none⟩) l.length cap := by unfold own; rw [List.length_reverse]
  rw [e]
  exact ⟨(), trivial, rfl, wkH_refl _⟩
def BytesR (l : List UInt8) (v : Value) (G : World → Prop) : Prop := ∃ ob cap, v = .slice (at0 ob) l.length cap ∧ (ob = none → l = []) ∧ ∀ w, G w → SlAt (at0 ob) l.length (u8s l) w
theorem bytesR_own (l : List UInt8) (b cap : Nat) : BytesR l (.slice (some ⟨b, 0, none⟩) l.length cap) (SlAt (some ⟨b, 0, none⟩) (l.length * 1) (u8s l)) :=
 ⟨some b, cap, rfl, fun h => (by cases h), fun w hw => (by rw [Nat.mul_one] at hw; exact hw)⟩
theorem numR_zero : ∀ f, numR f 0 = []
 | 0 => rfl
 | f + 1 => by unfold numR; rw [if_pos rfl]
theorem ofNat_int {n : Nat} (h : n < 256) : ((UInt8.ofNat n).toNat : Int) = n := by
 rw [UInt8.toNat_ofNat', Nat.mod_eq_of_lt (by simpa using h)]
theorem sevens_c (n : Nat) (hn : n < 9223372036854775808) : SpecF Tryz.prog 168 [.int .i64 (n : Int)] (fun _ => True) (BytesR (num n)) := by
 refine specF hm Tryz.func168 (by kernel_rfl) rfl rfl ?_
 have e1 : (n : Int).tdiv 128 = ((n / 128 : Nat) : Int) := (Int.ofNat_tdiv n 128).symm
 have e2 : (n : Int).tmod 128 = ((n % 128 : Nat) : Int) := (Int.ofNat_tmod n 128).symm
 (conv => whnf)
 refine RwN.known [_] rfl fun b0 => ?_
 (first | refine wX ?_ | exact wZ)
 refine LoopN.intro (List UInt8 × Nat × Nat × Nat × Nat) (fun ⟨l, m, f, _, _⟩ => l ++ numR f m = (num n).reverse ∧ m < 128 ^ f ∧ l.length + f ≤ 11 ∧ m < 9223372036854775808)
  (fun ⟨l, m, _, b, cap⟩ => mkS Tryz.f168.ntmps 0 [(0, .c (.v (.int .i64 (m : Int)))), (3, .c (.v (.slice (some ⟨b, 0, none⟩) l.length cap)))])
  (fun ⟨l, _, _, b, cap⟩ => [.fact fun _ => True, own l b cap]) (fun ⟨_, _, f, _, _⟩ => f) [] rfl
  (fun _ => rfl) (fun _ => rfl) (fun _ _ => okHB_eq rfl) ⟨([UInt8.ofNat (n % 128)], n / 128, 10, b0, 1), ⟨?_, ?_, ?_, ?_⟩, ?_, ?_⟩ ?_
 ·simp [num]
 ·have : n / 128 < 128 ^ 9 := by omega
  omega
 ·simp
 ·omega
 ·(repeat' (first | exact trivial | refine And.intro (by with_reducible rfl) ?_ | (with_reducible exact wkC_refl _) | (with_reducible exact wkCs_refl _) | refine And.intro ?_ ?_))
  all_goals first | rfl | exact av_int (by rw [e1, wrap_i64 (by omega)])
 ·exact ⟨wkE_refl _, .inl ⟨rfl, rfl, by rw [e2, wrap_u8 (by omega)]; show [_] = [Value.int .u8 ((UInt8.ofNat (n % 128)).toNat : Int)]; rw [ofNat_int (by omega)], rfl, rfl, rfl⟩, wkH_nil _⟩
 rintro ⟨l, m, f, b, cap⟩ ⟨hl, hm1, hlf, hm2⟩
 (first | refine wX ?_ | exact wZ)
 refine brd_dec (fun h => ?_) (fun h => ?_)
 ·cases f with
  | zero => omega
  | succ f =>
   have e3 : (m : Int).tdiv 128 = ((m / 128 : Nat) : Int) := (Int.ofNat_tdiv m 128).symm
   have e4 : (m : Int).tmod 128 = ((m % 128 : Nat) : Int) := (Int.ofNat_tmod m 128).symm
   have hs : numR (f + 1) m = UInt8.ofNat (m % 128 + 128) :: numR f (m / 128) := by
    conv => lhs; unfold numR
    rw [if_neg (by omega)]
   rw [hs] at hl
   (first | refine wX ?_ | exact wZ)
   refine Nd.mk ⟨Nat.le_refl 1, rfl, rfl⟩ ?_
   (conv => whnf)
   refine AppN.grow 1 (u8s l) [_] rfl rfl ⟨Nat.le_refl 1, ⟨by show (l.length + 1) * 1 ≤ _; omega, by omega⟩, by show 1 ≠ 0; omega⟩ fun b' cap' h1 h2 => ?_
   (first | refine wX ?_ | exact wZ)
   refine ⟨(l ++ [UInt8.ofNat (m % 128 + 128)], m / 128, f, b', cap'), ⟨by rw [← hl]; simp, by rw [Nat.pow_succ, Nat.mul_comm] at hm1; exact Nat.div_lt_of_lt_mul hm1, by simp; omega, by omega⟩, by show f < f + 1; omega, ?_, ?_⟩
   ·(repeat' (first | exact trivial | refine And.intro (by with_reducible rfl) ?_ | (with_reducible exact wkC_refl _) | (with_reducible exact wkCs_refl _) | refine And.intro ?_ ?_))
    all_goals first | (simp; done) | exact av_int (by rw [e3, wrap_i64 (by omega)])
   ·exact ⟨wkE_refl _, .inl ⟨rfl, rfl, by rw [e4, wrap_i64 (by omega), wrap_u8 (by omega)]; simp [u8s]; omega, rfl, by simp, rfl⟩, wkH_nil _⟩
 ·have hm0 : m = 0 := by omega
  subst hm0
  rw [numR_zero, List.append_nil] at hl
  (first | refine wX ?_ | exact wZ)
  refine callG (Reverse_c l b cap (by omega)) [1] rfl ⟨rfl, trivial⟩ rfl fun _ _ => ?_
  (first | refine wX ?_ | exact wZ)
  have hr : num n = l.reverse := by rw [hl, List.reverse_reverse]
  rw [hr, show Value.slice (some ⟨b, 0, none⟩) l.length cap = Value.slice (some ⟨b, 0, none⟩) l.reverse.length cap by rw [List.length_reverse]]
  exact fin_p (SlAt (some ⟨b, 0, none⟩) (l.reverse.length * 1) (u8s l.reverse)) (bytesR_own _ _ _) (fun w hw => hw.2.1)
end Go.Proofs.YtgogonnnojcioaaGreatDoor

/-
 Contracts: a cell is read (program).
-/
namespace Go.Proofs.YtgogonnnojcioaaGreatDoor
open Go.AX Go.RowKit Go.Core Go.Marshal
set_option maxRecDepth 20000

abbrev nilP : CellP := ⟨nilC, none, 0, none, 0⟩
theorem grC_put : ∀ {m : List CellP} {j : Nat} (q : CellP), j < m.length → (grC m).take (j * 5) ++ cellC q ++ (grC m).drop (j * 5 + 5) = grC (m.set j q)
 | p :: m, 0, q, _ => by simp [grC, cellC]
 | p :: m, j + 1, q, h => by
  have ih := grC_put (m := m) (j := j) q (by simpa using h)
  have e : grC (p :: m) = cellC p ++ grC m := by simp [grC]
  have l5 : (cellC p).length = 5 := rfl
  rw [List.set_cons_succ, show grC (p :: m.set j q) = cellC p ++ grC (m.set j q) by simp [grC], ← ih, e, show (j + 1) * 5 = (cellC p).length + j * 5 by rw [l5]; omega, List.take_length_add_append, show (cellC p).length + j * 5 + 5 = (cellC p).length + (j * 5 + 5) by omega, List.drop_length_add_append]
  simp
theorem seal_rd {H : List Ent} {rb : Nat} {st : PS} {p : RdP} (hl : 5 ≤ H.length) (h0 : H[0]? = some (.app 84 5 (rdC st p) (some ⟨rb, 0, none⟩) 1 1)) (h1 : H[1]? = some (.app 57 5 (grC p.m) p.ga p.m.length p.gc)) (h3 : H[3]? = some (.app 3 1 (iC st.cells) p.ca st.cells.length p.cc)) (h4 : H[4]? = some (.app 9 1 (strC st.ss) p.sa st.ss.length p.sc)) (hΓ : ∀ w, Facts (restL H (rdE rb st p)) w → ∀ q ∈ p.m, CellF q w) : SealOk H (rdE rb st p) := by
 refine ⟨hl, fun i e he => ?_⟩
 rcases i with _ | _ | _ | _ | _ | i
 ·obtain rfl := Option.some.inj he
  exact .inr (.inl ⟨_, _, _, _, _, _, rfl, h0⟩)
 ·obtain rfl := Option.some.inj he
  exact .inr (.inl ⟨_, _, _, _, _, _, rfl, h1⟩)
 ·exact .inr (.inr ⟨_, (Option.some.inj he).symm, hΓ⟩)
 ·obtain rfl := Option.some.inj he
  exact .inr (.inl ⟨_, _, _, _, _, _, rfl, h3⟩)
 ·obtain rfl := Option.some.inj he
  exact .inr (.inl ⟨_, _, _, _, _, _, rfl, h4⟩)
 ·cases he
theorem cell_dead_c (n : Nat) (rb : Nat) (st : PS) (p : RdP) (ok : RdOk st p) (he : st.e ≠ 0) : SpecH Tryz.prog 64 [.c (.v (.pointer (some ⟨rb, 0, none⟩)))] (rdE rb st p) (RetG (ι := RdP) (fun p' => RdOk (cellM n st).2 p') (fun _ => .int .i64 (cellM n st).1) fun p' => rdE rb (cellM n st).2 p') := by
 have hcm : cellM n st = (0, st) := by
  cases n with
  | zero => show (0, failM st 99) = _; rw [fail_dead he]
  | succ n => exact cell_dead n he
 rw [hcm]
 refine ownC hm Tryz.func64 (by kernel_rfl) rfl rfl (fun _ _ => rdE_ok _ _ _) (fun _ _ => Nat.le_refl _) ?_
 have hne := next_m rb st p
 rw [next_dead he] at hne
 (first | refine wX ?_ | exact wZ)
 refine callG (hne) [0, 1, 2, 3, 4] rfl ⟨rfl, rfl, rfl, rfl, rfl, trivial⟩ rfl fun _ _ => ?_
 (first | refine wX ?_ | exact wZ)
 refine LdN.one (a := some ⟨rb, 0, none⟩) (q := 4) (.int .i64 st.e) rfl (fun w hw => hw.1) rfl ?_
 (first | refine wX ?_ | exact wZ)
 refine brd_ne (fun _ => ?_) (fun h => absurd h he)
 (first | refine wX ?_ | exact wZ)
 exact ⟨p, ok, rfl, wkH_refl _⟩
theorem cell_step (n : Nat) (hc : CellC n) : CellC (n + 1) := by
  intro rb st p ok bd hn
  by_cases he : st.e ≠ 0
  · exact cell_dead_c (n + 1) rb st p ok he
  have hn : st.s.length < n + 1 := hn.resolve_right he
  have hcm : cellM (n + 1) st = (if (nextM st).2.e ≠ 0 then (0, (nextM st).2) else if (nextM st).1 = 64 then refM (nextM st).2 else if 500 ≤ (nextM st).2.g.length ∨ (nextM st).1 ∉ begins then (0, failM (nextM st).2 4) else (((nextM st).2.g.length : Int), { (innerM (cellM n) (nextM st).1 (openM (nextM st).1 (nextM st).2)).2 with g := (innerM (cellM n) (nextM st).1 (openM (nextM st).1 (nextM st).2)).2.g.set (nextM st).2.g.length (innerM (cellM n) (nextM st).1 (openM (nextM st).1 (nextM st).2)).1 })) := rfl
  generalize cellM (n + 1) st = R at hcm ⊢
  refine SpecH.sealP ?_
  refine spec_of_exec hm Tryz.func64 (by kernel_rfl) rfl rfl ?_
  have hne := next_m rb st p
  have b1 := bd.le (next_le st)
  have ok1 := ok.same (next_keep st)
  have hlt := next_lt (st := st)
  generalize nextM st = q at hne hcm b1 ok1 hlt ⊢
  obtain ⟨x, s1⟩ := q
  simp only at hne hcm b1 ok1 hlt
  (first | refine wX ?_ | exact wZ)
  refine callG (hne) [0, 1, 2, 3, 4] rfl ⟨rfl, rfl, rfl, rfl, rfl, trivial⟩ rfl fun _ _ => ?_
  (first | refine wX ?_ | exact wZ)
  refine LdN.one (a := some ⟨rb, 0, none⟩) (q := 4) (.int .i64 s1.e) rfl (fun w hw => hw.1) rfl ?_
  (first | refine wX ?_ | exact wZ)
  refine brd_ne (fun h1 => ?_) (fun h1 => ?_)
  · rw [if_pos h1] at hcm
    subst hcm
    (first | refine wX ?_ | exact wZ)
    refine ⟨rdE rb (s1) (p), Nat.le_of_ble_eq_true rfl, seal_rd (Nat.le_of_ble_eq_true rfl) rfl rfl rfl rfl (fun w hw => hw.1), ⟨_, rfl⟩, ⟨p, ok1, rfl, rfl⟩⟩
  rw [if_neg (fun h => h h1)] at hcm
  obtain ⟨hl1, _⟩ := hlt (.inl h1)
  have hn1 : s1.s.length < n ∨ s1.e ≠ 0 := .inl (by omega)
  (first | refine wX ?_ | exact wZ)
  refine brd_eq (fun h64 => ?_) (fun h64 => ?_)
  · obtain rfl : x = 64 := UInt8.toNat_inj.1 (by have : x.toNat = 64 := by omega
                                                 rw [this]; rfl)
    rw [if_pos rfl] at hcm
    have hnum := number_m rb s1 p maxN (by decide)
    have ok2 := ok1.same (num_keep maxN s1)
    have hmo := num_most maxN s1
    unfold refM at hcm
    simp only at hcm
    generalize numM maxN s1 = q at hnum ok2 hmo hcm ⊢
    obtain ⟨k, s2⟩ := q
    simp only at hnum ok2 hmo hcm
    have hmo : k ≤ 1000000000000000 := hmo
    (first | refine wX ?_ | exact wZ)
    refine callG (hnum) [0, 1, 2, 3, 4] rfl ⟨rfl, rfl, rfl, rfl, rfl, trivial⟩ rfl fun _ _ => ?_
    (first | refine wX ?_ | exact wZ)
    refine LdN.one (a := some ⟨rb, 0, none⟩) (q := 4) (.int .i64 s2.e) rfl (fun w hw => hw.1) rfl ?_
    (first | refine wX ?_ | exact wZ)
    by_cases he2 : s2.e = 0
    · rw [show (s2.e == 0) = true by rw [he2]; rfl]
      rw [if_neg (fun h => h he2)] at hcm
      (first | refine wX ?_ | exact wZ)
      refine LdN.one (a := some ⟨rb, 0, none⟩) (q := 2) (.slice p.ca s2.cells.length p.cc) rfl (fun w hw => hw.1) rfl ?_
      (first | refine wX ?_ | exact wZ)
      refine brd_dec (fun hk => ?_) (fun hk => ?_)
      · rw [if_pos (by omega)] at hcm
        subst hcm
        (first | refine wX ?_ | exact wZ)
        refine callG (fail_m rb s2 p 4) [0, 1, 2, 3, 4] rfl ⟨rfl, rfl, rfl, rfl, rfl, trivial⟩ rfl fun _ _ => ?_
        have he4 : (failM s2 4).e = 4 := fail_e he2 4
        (first | refine wX ?_ | exact wZ)
        refine LdN.one (a := some ⟨rb, 0, none⟩) (q := 4) (.int .i64 (failM s2 4).e) rfl (fun w hw => hw.1) rfl ?_
        rw [he4]
        (first | refine wX ?_ | exact wZ)
        refine ⟨rdE rb (failM s2 4) (p), Nat.le_of_ble_eq_true rfl, seal_rd (Nat.le_of_ble_eq_true rfl) rfl rfl rfl rfl (fun w hw => hw.1), ⟨_, rfl⟩, ⟨p, ok2.same (fail_ss s2 4), rfl, rfl⟩⟩
      · have hkl : k < s2.cells.length := by omega
        rw [if_neg (by omega)] at hcm
        subst hcm
        have hsa : p.ca.isSome = true := by
          cases h : p.ca with
          | none =>
            rw [ok2.ca h] at hkl
            exact absurd hkl (Nat.not_lt_zero _)
          | some b => rfl
        have hget : s2.cells[k]? = some (s2.cells.getD k 0) := by rw [List.getD_eq_getElem?_getD, List.getElem?_eq_getElem hkl]; rfl
        (first | refine wX ?_ | exact wZ)
        refine LdN.one (a := some ⟨rb, 0, none⟩) (q := 4) (.int .i64 s2.e) rfl (fun w hw => hw.1) rfl ?_
        rw [he2]
        (first | refine wX ?_ | exact wZ)
        refine LdN.one (a := some ⟨rb, 0, none⟩) (q := 2) (.slice p.ca s2.cells.length p.cc) rfl (fun w hw => hw.1) rfl ?_
        (first | refine wX ?_ | exact wZ)
        refine Nd.mk ⟨hsa, by omega, by omega⟩ ?_
        (first | refine wX ?_ | exact wZ)
        refine LdN.one (.int .i64 (s2.cells.getD k 0)) rfl (fun w hw => hw.2.2.2.1) (by show (iC s2.cells)[Int.toNat _ * 1]? = _; rw [Int.toNat_natCast, Nat.mul_one]; exact iC_get hget) ?_
        (first | refine wX ?_ | exact wZ)
        refine ⟨rdE rb (s2) (p), Nat.le_of_ble_eq_true rfl, seal_rd (Nat.le_of_ble_eq_true rfl) rfl rfl rfl rfl (fun w hw => hw.1), ⟨_, rfl⟩, ⟨p, ok2, rfl, rfl⟩⟩
    · rw [show (s2.e == 0) = false by simpa using he2]
      rw [if_pos he2] at hcm
      subst hcm
      (first | refine wX ?_ | exact wZ)
      refine LdN.one (a := some ⟨rb, 0, none⟩) (q := 4) (.int .i64 s2.e) rfl (fun w hw => hw.1) rfl ?_
      (first | refine wX ?_ | exact wZ)
      refine brd_ne (fun _ => ?_) (fun h => absurd h he2)
      (first | refine wX ?_ | exact wZ)
      refine ⟨rdE rb (s2) (p), Nat.le_of_ble_eq_true rfl, seal_rd (Nat.le_of_ble_eq_true rfl) rfl rfl rfl rfl (fun w hw => hw.1), ⟨_, rfl⟩, ⟨p, ok2, rfl, rfl⟩⟩
  have hx64 : x ≠ 64 := fun h => h64 (by rw [h]; rfl)
  rw [if_neg hx64] at hcm
  have hml : p.m.length = s1.g.length := by rw [← ok1.g, List.length_map]
  (first | refine wX ?_ | exact wZ)
  refine LdN.one (a := some ⟨rb, 0, none⟩) (q := 1) (.slice p.ga p.m.length p.gc) rfl (fun w hw => hw.1) rfl ?_
  have hfail : (500 ≤ s1.g.length ∨ x ∉ begins) → R = (0, failM s1 4) := fun h => by rw [hcm, if_pos h]
  have hxl := x.toNat_lt
  have hw32 : IntKind.i32.wrap (x.toNat : Int) = (x.toNat : Int) := by simp [IntKind.wrap, IntKind.bits, IntKind.signed]; omega
  have hb10 : ∀ c ∈ [(48 : UInt8), 84, 70, 105, 34, 58, 59, 91, 123, 111], c.toNat < 128 := by decide
  have hb4 : ∀ c ∈ [(34 : UInt8), 91, 123, 111], c.toNat < 128 := by decide
  (first | refine wX ?_ | exact wZ)
  by_cases h5 : 500 ≤ s1.g.length
  · rw [show decide ((p.m.length : Int) ≥ 500) = true by simp; omega]
    have hcm := hfail (.inl h5)
    subst hcm
    (first | refine wX ?_ | exact wZ)
    refine callG (fail_m rb s1 p 4) [0, 1, 2, 3, 4] rfl ⟨rfl, rfl, rfl, rfl, rfl, trivial⟩ rfl fun _ _ => ?_
    (first | refine wX ?_ | exact wZ)
    refine ⟨rdE rb (failM s1 4) (p), Nat.le_of_ble_eq_true rfl, seal_rd (Nat.le_of_ble_eq_true rfl) rfl rfl rfl rfl (fun w hw => hw.1), ⟨_, rfl⟩, ⟨p, ok1.same (fail_ss s1 4), rfl, rfl⟩⟩
  rw [show decide ((p.m.length : Int) ≥ 500) = false by simp; omega]
  (first | refine wX ?_ | exact wZ)
  rw [hw32]
  refine call1 (ContainsRune_m 48 84 [70, 105, 34, 58, 59, 91, 123, 111] hb10 (by decide) x _) ?_
  by_cases hx : x ∈ begins
  · rw [show decide (x ∈ [(48 : UInt8), 84, 70, 105, 34, 58, 59, 91, 123, 111]) = true from decide_eq_true hx]
    rw [if_neg (fun h => h.elim h5 (fun h => h hx))] at hcm
    have hfe : (fun w => ∀ q ∈ p.m, CellF q w) = (fun w => ∀ q ∈ p.m ++ [nilP], CellF q w) := by
      funext w
      refine propext ⟨fun h q hq => ?_, fun h q hq => h q (List.mem_append_left _ hq)⟩
      rcases List.mem_append.1 hq with hq | hq
      · exact h q hq
      · obtain rfl := List.mem_singleton.1 hq
        exact ⟨slAt_nil w, slAt_nil w⟩
    have hgl := b1.g
    have hcl := b1.cl
    have hle := inner_le (cell_takes n) x (openM x s1)
    have hol : (openM x s1).g.length = s1.g.length + 1 := by unfold openM; simp
    have hogl := hle.g
    rw [hol] at hogl
    have b2 : Bd (openM x s1) := ⟨by rw [hol]; omega, by
      rw [hol]
      show (if x ∈ named then s1.cells ++ [(s1.g.length : Int)] else s1.cells).length ≤ _
      split
      · simp; omega
      · omega, b1.pot⟩
    have hn2 : (openM x s1).s.length < n ∨ (openM x s1).e ≠ 0 := hn1
    have hml2 : p.m.length + 1 = (p.m ++ [nilP]).length := by simp
    (first | refine wX ?_ | exact wZ)
    refine LdN.one (a := some ⟨rb, 0, none⟩) (q := 1) (.slice p.ga p.m.length p.gc) rfl (fun w hw => hw.1) rfl ?_
    (first | refine wX ?_ | exact wZ)
    refine AppN.grow 1 (grC p.m) (cellC nilP) rfl rfl ⟨Nat.le_refl 1, ⟨by show (p.m.length + 1) * 80 ≤ _; omega, by omega⟩, by decide⟩ fun gb gc' g1 g2 => ?_
    (first | refine wX ?_ | exact wZ)
    rw [← grC_snoc, hml2, hfe]
    refine EffW.appTo (i := 0) (q := 1) (ys := [_]) (rdC { s1 with g := s1.g ++ [nilC] } { p with m := p.m ++ [nilP], ga := some ⟨gb, 0, none⟩, gc := gc' }) 5 rfl rfl rfl rfl rfl rfl rfl (Nat.le_of_ble_eq_true rfl) rfl rfl ?_
    (first | refine wX ?_ | exact wZ)
    rw [hw32]
    refine call1 (ContainsRune_m 34 91 [123, 111] hb4 (by decide) x _) ?_
    by_cases hnm : x ∈ named
    · rw [show decide (x ∈ [(34 : UInt8), 91, 123, 111]) = true from decide_eq_true hnm]
      have ho : openM x s1 = { s1 with g := s1.g ++ [nilC], cells := s1.cells ++ [(s1.g.length : Int)] } := by unfold openM; rw [if_pos hnm]
      (first | refine wX ?_ | exact wZ)
      refine LdN.one (a := some ⟨rb, 0, none⟩) (q := 2) (.slice p.ca s1.cells.length p.cc) rfl (fun w hw => hw.1) rfl ?_
      (first | refine wX ?_ | exact wZ)
      refine Nd.mk ⟨Nat.le_refl 1, rfl, rfl⟩ ?_
      (conv => whnf)
      refine AppN.grow 3 (iC s1.cells) [.int .i64 (p.m.length : Int)] rfl rfl ⟨Nat.le_refl 1, ⟨by show (s1.cells.length + 1) * 8 ≤ _; omega, by omega⟩, by decide⟩ fun cb cc' g3 g4 => ?_
      (first | refine wX ?_ | exact wZ)
      have e1 : iC s1.cells ++ [.int .i64 (p.m.length : Int)] = iC (s1.cells ++ [(s1.g.length : Int)]) := by rw [hml]; simp [iC]
      have e2 : s1.cells.length + 1 = (s1.cells ++ [(s1.g.length : Int)]).length := by simp
      rw [e1, e2]
      refine EffW.appTo (i := 0) (q := 2) (ys := [_]) (rdC { s1 with g := s1.g ++ [nilC], cells := s1.cells ++ [(s1.g.length : Int)] } { p with m := p.m ++ [nilP], ga := some ⟨gb, 0, none⟩, gc := gc', ca := some ⟨cb, 0, none⟩, cc := cc' }) 5 rfl rfl rfl rfl rfl rfl rfl (Nat.le_of_ble_eq_true rfl) rfl rfl ?_
      have ok2 : RdOk { s1 with g := s1.g ++ [nilC], cells := s1.cells ++ [(s1.g.length : Int)] } { p with m := p.m ++ [nilP], ga := some ⟨gb, 0, none⟩, gc := gc', ca := some ⟨cb, 0, none⟩, cc := cc' } :=
        ⟨by show (p.m ++ [nilP]).map (·.c) = s1.g ++ [nilC]; rw [List.map_append, ok1.g]; rfl, fun y hy => (List.mem_append.1 hy).elim (ok1.cell y) (fun h => by obtain rfl := List.mem_singleton.1 h; exact ok_leaf rfl rfl (Nat.zero_le _)), (fun h => by cases h), (fun h => by cases h), ok1.sa, ok1.sw, .inr ⟨gb, rfl⟩⟩
      rw [ho] at hcm hle hogl b2 hn2
      have hin := inner_rd n hc rb ({ s1 with g := s1.g ++ [nilC], cells := s1.cells ++ [(s1.g.length : Int)] }) ({ p with m := p.m ++ [nilP], ga := some ⟨gb, 0, none⟩, gc := gc', ca := some ⟨cb, 0, none⟩, cc := cc' }) ok2 b2 hn2 x hx
      generalize innerM (cellM n) x ({ s1 with g := s1.g ++ [nilC], cells := s1.cells ++ [(s1.g.length : Int)] }) = r at hcm hle hogl hin ⊢
      obtain ⟨c, s3⟩ := r
      simp only at hcm hle hogl hin
      (first | refine wX ?_ | exact wZ)
      refine callG hin [0, 1, 2, 3, 4] rfl ⟨rfl, rfl, rfl, rfl, rfl, trivial⟩ rfl fun q hq => ?_
      obtain ⟨⟨qm, qga, qgc, qca, qcc, qsa, qsc⟩, na, nc, ia, ic⟩ := q
      obtain ⟨hq1, hq2⟩ := hq
      simp only at hq1 hq2
      have hqm : qm.length = s3.g.length := by
        have := hq1.g
        rw [← this, List.length_map]
      have hat : s1.g.length < qm.length := by rw [hqm]; omega
      obtain ⟨qb, hqb⟩ : ∃ b : Nat, qga = some ⟨b, 0, none⟩ := hq1.gx.resolve_left fun h => by
        have h9 : qm = [] := hq1.ga h
        rw [h9] at hat
        exact absurd hat (Nat.not_lt_zero _)
      subst hqb
      subst hcm
      rw [hml]
      (first | refine wX ?_ | exact wZ)
      refine DrawN.planQ [0, 4] [1, 2, 3, 5, 6] [(7, 0)] (by decide +kernel) ?_
      (first | refine wX ?_ | exact wZ)
      refine LdN.one (a := some ⟨rb, 0, none⟩) (q := 1) (.slice (some ⟨qb, 0, none⟩) qm.length qgc) rfl (fun w hw => hw.1) rfl ?_
      (first | refine wX ?_ | exact wZ)
      refine Nd.mk ⟨rfl, by omega, by omega⟩ ?_
      (first | refine wX ?_ | exact wZ)
      refine EffW.appTo (i := 1) (q := s1.g.length * 5) (ys := cellC ⟨c, na, nc, ia, ic⟩) (grC (qm.set s1.g.length ⟨c, na, nc, ia, ic⟩)) 5 rfl (ptr_lit rfl (by show (s1.g.length : Int).toNat * 5 = _; rw [Int.toNat_natCast])) rfl rfl rfl rfl rfl (by show s1.g.length * 5 + 5 ≤ qm.length * 5; omega) (grC_put _ hat) rfl ?_
      (first | refine wX ?_ | exact wZ)
      have hrc : rdC { s3 with g := s3.g.set s1.g.length c } ⟨qm.set s1.g.length ⟨c, na, nc, ia, ic⟩, some ⟨qb, 0, none⟩, qgc, qca, qcc, qsa, qsc⟩ = rdC s3 ⟨qm, some ⟨qb, 0, none⟩, qgc, qca, qcc, qsa, qsc⟩ := by simp [rdC]
      refine ⟨rdE rb { s3 with g := s3.g.set s1.g.length c } ⟨qm.set s1.g.length ⟨c, na, nc, ia, ic⟩, some ⟨qb, 0, none⟩, qgc, qca, qcc, qsa, qsc⟩, Nat.le_of_ble_eq_true rfl, seal_rd (Nat.le_of_ble_eq_true rfl) (by rw [hrc]; rfl) (by rw [List.length_set]; rfl) rfl rfl (fun w hw y hy => ?_), ⟨_, rfl⟩, ⟨_, ?_, rfl, rfl⟩⟩
      · rcases List.mem_or_eq_of_mem_set hy with h | h
        · exact hw.1 y h
        · subst h
          exact ⟨hw.2.1, hw.2.2.1⟩
      · exact ⟨by show (qm.set _ _).map (·.c) = s3.g.set _ _; rw [List.map_set]; exact congrArg (fun l => List.set l s1.g.length c) hq1.g, fun y hy => (List.mem_or_eq_of_mem_set hy).elim (hq1.cell y) (fun h => by subst h; exact hq2), (fun h => by cases h), hq1.ca, hq1.sa, hq1.sw, .inr ⟨qb, rfl⟩⟩
    · rw [show decide (x ∈ [(34 : UInt8), 91, 123, 111]) = false from decide_eq_false hnm]
      have ho : openM x s1 = { s1 with g := s1.g ++ [nilC] } := by unfold openM; rw [if_neg hnm]
      have ok2 : RdOk { s1 with g := s1.g ++ [nilC] } { p with m := p.m ++ [nilP], ga := some ⟨gb, 0, none⟩, gc := gc' } :=
        ⟨by show (p.m ++ [nilP]).map (·.c) = s1.g ++ [nilC]; rw [List.map_append, ok1.g]; rfl, fun y hy => (List.mem_append.1 hy).elim (ok1.cell y) (fun h => by obtain rfl := List.mem_singleton.1 h; exact ok_leaf rfl rfl (Nat.zero_le _)), (fun h => by cases h), ok1.ca, ok1.sa, ok1.sw, .inr ⟨gb, rfl⟩⟩
      rw [ho] at hcm hle hogl b2 hn2
      have hin := inner_rd n hc rb ({ s1 with g := s1.g ++ [nilC] }) ({ p with m := p.m ++ [nilP], ga := some ⟨gb, 0, none⟩, gc := gc' }) ok2 b2 hn2 x hx
      generalize innerM (cellM n) x ({ s1 with g := s1.g ++ [nilC] }) = r at hcm hle hogl hin ⊢
      obtain ⟨c, s3⟩ := r
      simp only at hcm hle hogl hin
      (first | refine wX ?_ | exact wZ)
      refine callG hin [0, 1, 2, 3, 4] rfl ⟨rfl, rfl, rfl, rfl, rfl, trivial⟩ rfl fun q hq => ?_
      obtain ⟨⟨qm, qga, qgc, qca, qcc, qsa, qsc⟩, na, nc, ia, ic⟩ := q
      obtain ⟨hq1, hq2⟩ := hq
      simp only at hq1 hq2
      have hqm : qm.length = s3.g.length := by
        have := hq1.g
        rw [← this, List.length_map]
      have hat : s1.g.length < qm.length := by rw [hqm]; omega
      obtain ⟨qb, hqb⟩ : ∃ b : Nat, qga = some ⟨b, 0, none⟩ := hq1.gx.resolve_left fun h => by
        have h9 : qm = [] := hq1.ga h
        rw [h9] at hat
        exact absurd hat (Nat.not_lt_zero _)
      subst hqb
      subst hcm
      rw [hml]
      (first | refine wX ?_ | exact wZ)
      refine DrawN.planQ [0, 4] [1, 2, 3, 5, 6] [(7, 0)] (by decide +kernel) ?_
      (first | refine wX ?_ | exact wZ)
      refine LdN.one (a := some ⟨rb, 0, none⟩) (q := 1) (.slice (some ⟨qb, 0, none⟩) qm.length qgc) rfl (fun w hw => hw.1) rfl ?_
      (first | refine wX ?_ | exact wZ)
      refine Nd.mk ⟨rfl, by omega, by omega⟩ ?_
      (first | refine wX ?_ | exact wZ)
      refine EffW.appTo (i := 1) (q := s1.g.length * 5) (ys := cellC ⟨c, na, nc, ia, ic⟩) (grC (qm.set s1.g.length ⟨c, na, nc, ia, ic⟩)) 5 rfl (ptr_lit rfl (by show (s1.g.length : Int).toNat * 5 = _; rw [Int.toNat_natCast])) rfl rfl rfl rfl rfl (by show s1.g.length * 5 + 5 ≤ qm.length * 5; omega) (grC_put _ hat) rfl ?_
      (first | refine wX ?_ | exact wZ)
      have hrc : rdC { s3 with g := s3.g.set s1.g.length c } ⟨qm.set s1.g.length ⟨c, na, nc, ia, ic⟩, some ⟨qb, 0, none⟩, qgc, qca, qcc, qsa, qsc⟩ = rdC s3 ⟨qm, some ⟨qb, 0, none⟩, qgc, qca, qcc, qsa, qsc⟩ := by simp [rdC]
      refine ⟨rdE rb { s3 with g := s3.g.set s1.g.length c } ⟨qm.set s1.g.length ⟨c, na, nc, ia, ic⟩, some ⟨qb, 0, none⟩, qgc, qca, qcc, qsa, qsc⟩, Nat.le_of_ble_eq_true rfl, seal_rd (Nat.le_of_ble_eq_true rfl) (by rw [hrc]; rfl) (by rw [List.length_set]; rfl) rfl rfl (fun w hw y hy => ?_), ⟨_, rfl⟩, ⟨_, ?_, rfl, rfl⟩⟩
      · rcases List.mem_or_eq_of_mem_set hy with h | h
        · exact hw.1 y h
        · subst h
          exact ⟨hw.2.1, hw.2.2.1⟩
      · exact ⟨by show (qm.set _ _).map (·.c) = s3.g.set _ _; rw [List.map_set]; exact congrArg (fun l => List.set l s1.g.length c) hq1.g, fun y hy => (List.mem_or_eq_of_mem_set hy).elim (hq1.cell y) (fun h => by subst h; exact hq2), (fun h => by cases h), hq1.ca, hq1.sa, hq1.sw, .inr ⟨qb, rfl⟩⟩
  · rw [show decide (x ∈ [(48 : UInt8), 84, 70, 105, 34, 58, 59, 91, 123, 111]) = false from decide_eq_false hx]
    have hcm := hfail (.inr hx)
    subst hcm
    (first | refine wX ?_ | exact wZ)
    refine callG (fail_m rb s1 p 4) [0, 1, 2, 3, 4] rfl ⟨rfl, rfl, rfl, rfl, rfl, trivial⟩ rfl fun _ _ => ?_
    (first | refine wX ?_ | exact wZ)
    refine ⟨rdE rb (failM s1 4) (p), Nat.le_of_ble_eq_true rfl, seal_rd (Nat.le_of_ble_eq_true rfl) rfl rfl rfl rfl (fun w hw => hw.1), ⟨_, rfl⟩, ⟨p, ok1.same (fail_ss s1 4), rfl, rfl⟩⟩
theorem cell_rd : ∀ n : Nat, CellC n
 | 0 => fun rb st p ok bd hn => cell_dead_c 0 rb st p ok (hn.resolve_left (by omega))
 | n + 1 => cell_step n (cell_rd n)
end Go.Proofs.YtgogonnnojcioaaGreatDoor

/-
 Plain: how wide the cells are that the program's reader holds.
-/
namespace Go.Marshal
open Go.Core

def WdC (c : Cell) : Prop := c.names.length ≤ 30001 ∧ c.items.length ≤ 30001
def Wd (st : PS) : Prop := ∀ c ∈ st.g, WdC c
theorem num_g (most : Nat) (st : PS) : (numM most st).2.g = st.g := by
 unfold numM
 split
 ·rfl
 split <;> rfl
theorem fail_g (st : PS) (e : Int) : (failM st e).g = st.g := by unfold failM; split <;> rfl
theorem next_g (st : PS) : (nextM st).2.g = st.g := by
 unfold nextM
 split
 ·rfl
 split <;> rfl
theorem text_g (most : Nat) (st : PS) : (textM most st).2.g = st.g := by
 have h := num_g maxN st
 unfold textM
 split
 ·exact h
 split
 ·exact h
 split <;> exact h
theorem sym_g (x : UInt8) (st : PS) : (symM x st).2.g = st.g := by
 have h1 := text_g 40 st
 have h2 := num_g maxN st
 unfold symM
 split
 ·simp only
  split
  ·rw [fail_g]; exact h1
  ·exact h1
 split
 ·split
  ·exact h2
  ·rw [fail_g]; exact h2
 ·exact fail_g _ _
theorem name_g (ns : List B) (st : PS) : (nameM ns st).2.g = st.g := by
 unfold nameM
 simp only
 split
 ·rw [fail_g, sym_g, next_g]
 ·rw [sym_g, next_g]
theorem class_g (st : PS) : (classM st).2.g = st.g := by
 unfold classM
 simp only
 split
 ·rw [fail_g, sym_g, next_g]
 ·rw [sym_g, next_g]
def WdF (f : PS → Int × PS) : Prop := ∀ st, Bd st → Wd st → Wd (f st).2
theorem items_wd {f : PS → Int × PS} (hf : Takes f) (hw : WdF f) : ∀ (n : Nat) (l : List Int) (st : PS), Bd st → Wd st → Wd (itemsM f n l st).2
 | 0, _, _, _, h => h
 | n + 1, l, st, b, h => by
  unfold itemsM
  split
  ·exact items_wd hf hw n _ _ (b.le (hf.le st)) (hw st b h)
  ·exact h
theorem attrs_wd {f : PS → Int × PS} (hf : Takes f) (hw : WdF f) : ∀ (n : Nat) (ns : List B) (l : List Int) (st : PS), Bd st → Wd st → Wd (attrsM f n ns l st).2
 | 0, _, _, _, _, h => h
 | n + 1, ns, l, st, b, h => by
  unfold attrsM
  split
  ·have b2 := b.le (name_le ns st)
   have h2 : Wd (nameM ns st).2 := by unfold Wd; rw [name_g]; exact h
   exact attrs_wd hf hw n _ _ _ (b2.le (hf.le _)) (hw _ b2 h2)
  ·exact h
theorem liv_le (st : PS) : liv st ≤ 1 := by unfold liv; split <;> omega
theorem items_w {f : PS → Int × PS} (hf : Takes f) (n : Nat) (st : PS) (b : Bd st) : (itemsM f n [] st).1.length ≤ 30001 := by
 have h := (items_le hf n [] st).2
 have h1 := liv_le st
 have h2 := b.pot
 have h3 : ([] : List Int).length = 0 := rfl
 omega
theorem inner_wd {f : PS → Int × PS} (hf : Takes f) (hw : WdF f) (x : UInt8) (st : PS) (b : Bd st) (h : Wd st) : WdC (innerM f x st).1 ∧ Wd (innerM f x st).2 := by
 have z : ∀ {c : Cell}, c.names = [] → c.items = [] → WdC c := fun h1 h2 => ⟨by rw [h1]; exact Nat.zero_le _, by rw [h2]; exact Nat.zero_le _⟩
 have bn := b.le (num_le maxN st)
 have hn : Wd (numM maxN st).2 := by unfold Wd; rw [num_g]; exact h
 unfold innerM
 split
 ·exact ⟨z rfl rfl, h⟩
 split
 ·exact ⟨z rfl rfl, h⟩
 split
 ·exact ⟨z rfl rfl, by unfold Wd; rw [num_g]; exact h⟩
 split
 ·exact ⟨z rfl rfl, by unfold Wd; rw [text_g]; exact h⟩
 split
 ·exact ⟨z rfl rfl, by unfold Wd; rw [sym_g]; exact h⟩
 split
 ·exact ⟨⟨Nat.zero_le _, items_w hf _ _ bn⟩, items_wd hf hw _ _ _ bn hn⟩
 split
 ·exact ⟨⟨Nat.zero_le _, items_w hf _ _ bn⟩, items_wd hf hw _ _ _ bn hn⟩
 split
 ·have bc := b.le (class_le st)
  have b2 := bc.le (num_le maxN (classM st).2)
  have h2 : Wd (numM maxN (classM st).2).2 := by unfold Wd; rw [num_g, class_g]; exact h
  obtain ⟨_, h4, h5⟩ := attrs_le hf (numM maxN (classM st).2).1 [] [] (numM maxN (classM st).2).2
  have h6 := liv_le (numM maxN (classM st).2).2
  have h7 := b2.pot
  have h8 : ([] : List Int).length = 0 := rfl
  have h9 : ([] : List B).length = 0 := rfl
  refine ⟨⟨?_, ?_⟩, attrs_wd hf hw _ _ _ _ b2 h2⟩
  ·show (attrsM f (numM maxN (classM st).2).1 [] [] (numM maxN (classM st).2).2).1.1.length ≤ _
   omega
  ·show (attrsM f (numM maxN (classM st).2).1 [] [] (numM maxN (classM st).2).2).1.2.length ≤ _
   omega
 ·exact ⟨z rfl rfl, h⟩
theorem open_bd {x : UInt8} {st : PS} (b : Bd st) (hg : ¬ 500 ≤ st.g.length) : Bd (openM x st) := by
 have b1 := b.cl
 refine ⟨?_, ?_, b.pot⟩
 ·show (st.g ++ [nilC]).length ≤ _
  simp
  omega
 ·show (if x ∈ named then st.cells ++ [(st.g.length : Int)] else st.cells).length ≤ (st.g ++ [nilC]).length
  split
  ·simp; omega
  ·simp; omega
theorem cell_wd : ∀ n : Nat, WdF (cellM n)
 | 0 => fun st b h => by
  show ∀ c ∈ (failM st 99).g, _
  rw [fail_g]
  exact h
 | n + 1 => fun st b h => by
  have ih := cell_wd n
  have b1 := b.le (next_le st)
  have h1 : Wd (nextM st).2 := by unfold Wd; rw [next_g]; exact h
  unfold cellM
  simp only
  split
  ·exact h1
  split
  ·unfold refM
   simp only
   have hn : Wd (numM maxN (nextM st).2).2 := by unfold Wd; rw [num_g]; exact h1
   split
   ·exact hn
   split
   ·unfold Wd; rw [fail_g]; exact hn
   ·exact hn
  split
  ·unfold Wd; rw [fail_g]; exact h1
  ·rename_i h2 h3
   have hg : ¬ 500 ≤ (nextM st).2.g.length := fun h => h3 (.inl h)
   have bo := open_bd (x := (nextM st).1) b1 hg
   have ho : Wd (openM (nextM st).1 (nextM st).2) := by
    intro c hc
    rcases List.mem_append.1 (show c ∈ (nextM st).2.g ++ [nilC] from hc) with hc | hc
    ·exact h1 c hc
    ·obtain rfl := List.mem_singleton.1 hc
     exact ⟨Nat.zero_le _, Nat.zero_le _⟩
   obtain ⟨w1, w2⟩ := inner_wd (cell_takes n) ih (nextM st).1 (openM (nextM st).1 (nextM st).2) bo ho
   intro c hc
   rcases List.mem_or_eq_of_mem_set (show c ∈ (innerM (cellM n) (nextM st).1 (openM (nextM st).1 (nextM st).2)).2.g.set (nextM st).2.g.length (innerM (cellM n) (nextM st).1 (openM (nextM st).1 (nextM st).2)).1 from hc) with hc | hc
   ·exact w2 c hc
   ·rw [hc]; exact w1
end Go.Marshal

/-
 AX, thirty-eighth text: []byte of a constant: the row is marked behind its cells.
-/
namespace Go.AX
open Go.RowKit

theorem run_convert_own {P : Program} (w : World) (t e : TypeId) (b : Nat) (arr : Array Value) (fr : Nat × Nat) (n c : Nat) (hb : w.heap[b]? = some (.cells arr e fr)) (ht : P.underlying t = some (.slice e)) (he : P.underlying e = some (.int .u8)) :
  (convert t t (.slice (some ⟨b, 0, none⟩) n c)).run P w = .ok (.slice (some ⟨b, 0, none⟩) n c) (w.freeze ⟨b, arr.size, none⟩ 1) := by
 have hsh : w.shape? b = some (e, arr.size) := by
  unfold World.shape?
  rw [hb]
 simp [convert, run_underlying ht, run_underlying he, markStringish, hsh]
theorem EffW.constB {P : Program} {o : Oper} {s : List AV} {H : List Ent} {K : AV → List Ent → Prop} {t e : TypeId} {x : Operand} {b n c : Nat} {xs : List Value} (i : Nat) (ho : o.op = .convert t t x) (ht : P.underlying t = some (.slice e)) (he : P.underlying e = some (.int .u8))
  (hx : opv s x = .c (.v (.slice (some ⟨b, 0, none⟩) n c))) (hi : nthE H i = some (.app e 1 xs (some ⟨b, 0, none⟩) n c)) (hk : K (.c (.v (.slice (some ⟨b, 0, none⟩) n c))) H) : EffW P o s H K := by
 intro ρ S w ac hsat hr
 have hxr := opv_rel hr x
 rw [hx] at hxr
 have hxe : ac.eval x = .slice (some ⟨b, 0, none⟩) n c := hxr
 rw [nthE_eq] at hi
 have hilt : i < H.length := (List.getElem?_eq_some_iff.1 hi).1
 have hset : H.set i (.app e 1 xs (some ⟨b, 0, none⟩) n c) = H := by
  apply List.ext_getElem?
  intro j
  by_cases hj : i = j
  ·subst hj
   rw [List.getElem?_set_self hilt, hi]
  ·rw [List.getElem?_set_ne hj]
 rcases hsat.ent i _ hi with ⟨h0, _⟩ | ⟨b', hb', hrow⟩
 ·cases h0
 ·obtain rfl : b = b' := by
   injection hb' with h1
   injection h1
  obtain ⟨arr, fr, ⟨hb, hfr⟩, h1, h2, h3, h4, h5⟩ := hrow
  have hrun := run_convert_own w t e b arr fr n c hb ht he
  have hbl : b < w.heap.size := (Array.getElem?_eq_some_iff.1 hb).1
  have hb2 : (w.freeze ⟨b, arr.size, none⟩ 1).heap[b]? = some (.cells arr e (if fr.1 == fr.2 then (arr.size, arr.size + 1) else (min fr.1 arr.size, max fr.2 (arr.size + 1)))) := by
   simp [World.freeze, Array.getElem?_modify, hb]
  have hS := hsat.setG (e' := .app e 1 xs (some ⟨b, 0, none⟩) n c) (c := b) (w' := w.freeze ⟨b, arr.size, none⟩ 1) hi rfl (by simp [World.freeze]) (fun k _ hne => by simp [World.freeze, Array.getElem?_modify, Ne.symm hne]) rfl rfl rfl (fun c hc => .inl (Option.some.inj hc).symm)
   (.inr ⟨b, rfl, arr, _, ⟨hb2, by
    split
    ·exact .inr (Nat.le_refl _)
    ·rename_i hne
     rcases hfr with h | h
     ·simp [h] at hne
     ·exact .inr (by show arr.size ≤ min fr.1 arr.size; omega)⟩, h1, h2, h3, h4, h5⟩)
  rw [hset] at hS
  refine ⟨_, _, hk, _, _, _, _, ?_, .inl rfl, hS.1, hS.2, rfl⟩
  unfold execOp
  simp only [ho, hxe, Sem.run_bind, hrun, Result.andThen_ok, Sem.run_pure]
end Go.AX

/-
 Contracts: the whole bytes are read (program).
-/
namespace Go.Proofs.YtgogonnnojcioaaGreatDoor
open Go.AX Go.RowKit Go.Core Go.Marshal
set_option maxRecDepth 20000

theorem checkW (a : Option Addr) (ca : Nat) (l : List CellP) (ha : a = none → l = []) (hs : l.length ≤ 2000 ∧ ∀ p ∈ l, p.c.names.length ≤ 40000 ∧ p.c.items.length ≤ 40000) (hok : ∀ p ∈ l, CellOk p) (b : Bool) (hb : b = true ↔ ValidP (l.map (·.c))) :
  ∀ H, (∀ w, Facts H w → GrF a l w) → SpecH Tryz.prog 65 (pvs [.slice a l.length ca]) H (Ret (errI b) H) := by
 intro H hH
 obtain ⟨b2, hb2, h⟩ := Check_w a ca l ha hs hok H hH
 have e : b2 = b := by rw [Bool.eq_iff_iff, hb, hb2]
 rw [← e]
 exact h
def P0 : RdP := ⟨[], none, 0, none, 0, none, 0⟩
def RdR (st : PS) (v : Value) (G : World → Prop) : Prop := ∃ (rb : Nat) (p : RdP), v = .tuple #[.pointer (some ⟨rb, 0, none⟩), .int .i64 st.e] ∧ RdOk st p ∧ ∀ w, G w → SlAt (some ⟨rb, 0, none⟩) 5 (rdC st p) w ∧ SlAt p.ga (p.m.length * 5) (grC p.m) w ∧ (∀ q ∈ p.m, CellF q w) ∧ SlAt p.sa (st.ss.length * 1) (strC st.ss) w
set_option maxHeartbeats 4000000 in
theorem read_c (s : List UInt8) (hs : s.length ≤ 20000) : SpecF Tryz.prog 41 [.string (bs s)] (fun w => ∀ q ∈ ([] : List CellP), CellF q w) (RdR (readM s)) := by
 refine specF_of ?_
 refine SpecH.pad [.app 57 5 [] none 0 0, .app 3 1 [] none 0 0, .app 9 1 [] none 0 0] rfl ?_
 refine spec_of_exec hm Tryz.func41 (by kernel_rfl) rfl rfl ?_
 have hsz := bs_size s
 (first | refine wXB ?_ | exact wZB)
 refine brd_dec (fun h => absurd h (by rw [hsz]; omega)) (fun _ => ?_)
 (first | refine wXB ?_ | exact wZB)
 refine BoxN.known [.string (bs s), .slice none 0 0, .slice none 0 0, .slice none 0 0, .int .i64 0] rfl fun rb => ?_
 (first | refine wXK ?_ | exact wZK)
 refine RwN.known [.int .u8 67, .int .u8 77, .int .u8 1] rfl fun hb => ?_
 (first | refine wXK ?_ | exact wZK)
 refine EffW.constB 5 rfl Tryz.underlying29 Tryz.underlying5 rfl rfl ?_
 obtain ⟨S0, hS0⟩ : ∃ S0, headM headB ⟨s, [], [], [], 0⟩ = S0 := ⟨_, rfl⟩
 have ok0 : RdOk ⟨s, [], [], [], 0⟩ P0 := ⟨rfl, (fun q hq => by cases hq), fun _ => rfl, fun _ => rfl, fun _ => rfl, (fun t ht => by cases ht), .inl rfl⟩
 have bd0 : Bd ⟨s, [], [], [], 0⟩ := ⟨Nat.zero_le _, Nat.le_refl _, by show 0 + s.length ≤ _; omega⟩
 (first | refine wXK ?_ | exact wZK)
 refine LoopN.intro (Nat × PS) (fun ⟨i, st⟩ => i ≤ 3 ∧ headM (headB.drop i) st = S0 ∧ RdOk st P0 ∧ Le 0 ⟨s, [], [], [], 0⟩ st)
  (fun ⟨i, _⟩ => mkS Tryz.f41.ntmps 0 [(4, .c (.v (.pointer (some ⟨rb, 0, none⟩)))), (14, .c (.v (.slice (some ⟨hb, 0, none⟩) 3 3))), (15, .c (.v (.int .i64 3))), (16, .c (.v (.int .i64 (i : Int))))])
  (fun ⟨_, st⟩ => [.fact fun w => ∀ q ∈ ([] : List CellP), CellF q w, .app 57 5 [] none 0 0, .app 3 1 (iC st.cells) none st.cells.length 0, .app 9 1 (strC st.ss) none st.ss.length 0, .app 84 5 (rdC st P0) (some ⟨rb, 0, none⟩) 1 1, .app 5 1 [.int .u8 67, .int .u8 77, .int .u8 1] (some ⟨hb, 0, none⟩) 3 3]) (fun ⟨i, _⟩ => 3 - i) [] rfl
  (fun _ => rfl) (fun _ => rfl) (fun _ _ => okHB_eq rfl) ⟨(0, ⟨s, [], [], [], 0⟩), ⟨by omega, hS0, ok0, Le.refl _⟩, ?_, ?_⟩ ?_
 ·exact wKK
 ·exact ⟨wkE_refl _, wkE_refl _, wkE_refl _, wkE_refl _, wkE_refl _, wkE_refl _, wkH_nil _⟩
 rintro ⟨i, st⟩ ⟨h1, h2, h3, h4⟩
 (first | refine wXK ?_ | exact wZK)
 refine brd_dec (fun hi => ?_) (fun hi => ?_)
 ·obtain ⟨c, hc⟩ : ∃ c, headB[i]? = some c := ⟨_, List.getElem?_eq_getElem (by show i < 3; omega)⟩
  have hd : headB.drop i = c :: headB.drop (i + 1) := by
   obtain ⟨h5, h6⟩ := List.getElem?_eq_some_iff.1 hc
   rw [← h6, List.getElem_cons_drop]
  rw [hd] at h2
  have h2 : headM (headB.drop (i + 1)) (if (nextM st).1 ≠ c then failM (nextM st).2 4 else (nextM st).2) = S0 := h2
  have hcv : ([.int .u8 67, .int .u8 77, .int .u8 1] : List Value)[i]? = some (.int .u8 (c.toNat : Int)) := by
   rcases i with _ | _ | _ | i
   ·cases hc; rfl
   ·cases hc; rfl
   ·cases hc; rfl
   ·cases hc
  have hnx := next_m rb st P0
  have hln := h4.trans (next_le st)
  have okn := h3.same (next_keep st)
  generalize nextM st = r at h2 hnx hln okn ⊢
  obtain ⟨x, st2⟩ := r
  simp only at h2 hnx hln okn
  (first | refine wXK ?_ | exact wZK)
  refine Nd.mk ⟨rfl, by omega, by omega⟩ ?_
  (first | refine wXK ?_ | exact wZK)
  refine LdN.one (.int .u8 (c.toNat : Int)) rfl (fun w hw => hw.2.2.2.2.2.1) (by show ([.int .u8 67, .int .u8 77, .int .u8 1] : List Value)[Int.toNat _ * 1]? = _; rw [Int.toNat_natCast, Nat.mul_one]; exact hcv) ?_
  (first | refine wXK ?_ | exact wZK)
  refine callG (hnx) [4, 1, 0, 2, 3] rfl ⟨rfl, rfl, rfl, rfl, rfl, trivial⟩ rfl fun _ _ => ?_
  (first | refine wXK ?_ | exact wZK)
  refine brd_ne (fun h7 => ?_) (fun h7 => ?_)
  ·have hxc : x ≠ c := fun h => h7 (by rw [h])
   rw [if_pos hxc] at h2
   (first | refine wXK ?_ | exact wZK)
   refine callG (fail_m rb st2 P0 4) [4, 1, 0, 2, 3] rfl ⟨rfl, rfl, rfl, rfl, rfl, trivial⟩ rfl fun _ _ => ?_
   (first | refine wXK ?_ | exact wZK)
   refine ⟨(i + 1, failM st2 4), ⟨by omega, h2, okn.same (fail_ss st2 4), hln.trans (fail_le st2 4)⟩, by show 3 - (i + 1) < 3 - i; omega, ?_, wkE_refl _, wkE_refl _, wkE_refl _, wkE_refl _, wkE_refl _, wkE_refl _, wkH_nil _⟩
   exact wKK
  ·have hxc : x = c := UInt8.toNat_inj.1 (by omega)
   rw [if_neg (fun h => h hxc)] at h2
   (first | refine wXK ?_ | exact wZK)
   refine ⟨(i + 1, st2), ⟨by omega, h2, okn, hln⟩, by show 3 - (i + 1) < 3 - i; omega, ?_, wkE_refl _, wkE_refl _, wkE_refl _, wkE_refl _, wkE_refl _, wkE_refl _, wkH_nil _⟩
   exact wKK
 ·obtain rfl : i = 3 := by omega
  have h2 : st = S0 := h2
  subst h2
  have hR : readM s = checkM (endM (cellM (s.length + 1) st).2) := by unfold readM; rw [hS0]
  rw [hR]
  have hs4 : st.s.length ≤ s.length := h4.s
  have bd4 := bd0.le h4
  have hce := cell_rd (s.length + 1) rb st P0 h3 bd4 (.inl (by omega))
  have hwd := cell_wd (s.length + 1) st bd4 (by unfold Wd; rw [← h3.g]; intro c hc; cases hc)
  have bd5 := bd4.le ((cell_takes (s.length + 1)).le st)
  generalize cellM (s.length + 1) st = r at hce hwd bd5 ⊢
  obtain ⟨z, st1⟩ := r
  simp only at hce hwd bd5
  (first | refine wXK ?_ | exact wZK)
  refine callG hce [4, 1, 0, 2, 3] rfl ⟨rfl, rfl, rfl, rfl, rfl, trivial⟩ rfl fun p hp => ?_
  (first | refine wXK ?_ | exact wZK)
  refine LdN.one (a := some ⟨rb, 0, none⟩) (q := 4) (.int .i64 st1.e) rfl (fun w hw => hw.2.2.2.2.1) rfl ?_
  (first | refine wXK ?_ | exact wZK)
  by_cases he : st1.e = 0
  ·rw [show (st1.e == 0) = true by rw [he]; rfl]
   (first | refine wXK ?_ | exact wZK)
   refine LdN.one (a := some ⟨rb, 0, none⟩) (q := 0) (.string (bs st1.s)) rfl (fun w hw => hw.2.2.2.2.1) rfl ?_
   (first | refine wXK ?_ | exact wZK)
   have hsn : ((bs st1.s).data.toList == (⟨#[]⟩ : ByteArray).data.toList) = decide (st1.s = []) := by rw [bs_list]; cases st1.s <;> rfl
   rw [hsn]
   by_cases hs1 : st1.s = []
   ·rw [decide_eq_true hs1]
    have e1 : endM st1 = st1 := by
     unfold endM
     rw [if_neg (fun h => h.2 hs1)]
    have hml : p.m.length = st1.g.length := by rw [← hp.g, List.length_map]
    have hgl := bd5.g
    obtain ⟨b, hb⟩ : ∃ b : Bool, b = true ↔ ValidP (p.m.map (·.c)) := by
     by_cases h : ValidP (p.m.map (·.c))
     ·exact ⟨true, fun _ => h, fun _ => rfl⟩
     ·exact ⟨false, (fun h => by cases h), fun h2 => absurd h2 h⟩
    have e2 : checkM st1 = { st1 with e := if b then 0 else 1 } := by
     unfold checkM
     rw [if_pos he]
     congr 1
     rw [← hp.g]
     cases b with
     | true => rw [if_pos (hb.1 rfl)]; rfl
     | false => rw [if_neg (fun h => by have := hb.2 h; cases this)]; rfl
    have hwm : ∀ q ∈ p.m, q.c.names.length ≤ 40000 ∧ q.c.items.length ≤ 40000 := fun q hq => by
     have := hwd q.c (by rw [← hp.g]; exact List.mem_map.2 ⟨q, hq, rfl⟩)
     exact ⟨Nat.le_trans this.1 (by decide), Nat.le_trans this.2 (by decide)⟩
    rw [show (z, st1).2 = st1 from rfl, e1, e2]
    (first | refine wXK ?_ | exact wZK)
    refine LdN.one (a := some ⟨rb, 0, none⟩) (q := 4) (.int .i64 st1.e) rfl (fun w hw => hw.2.2.2.2.1) rfl ?_
    rw [he]
    (first | refine wXK ?_ | exact wZK)
    refine LdN.one (a := some ⟨rb, 0, none⟩) (q := 1) (.slice p.ga p.m.length p.gc) rfl (fun w hw => hw.2.2.2.2.1) rfl ?_
    (first | refine wXK ?_ | exact wZK)
    refine call1 (checkW p.ga p.gc p.m hp.ga ⟨by omega, hwm⟩ hp.cell b hb _ (fun w hw => ⟨hw.2.1, hw.1⟩)) ?_
    (first | refine wXK ?_ | exact wZK)
    refine EffW.appTo (i := 4) (q := 4) (ys := [_]) (rdC ({ st1 with e := if b then 0 else 1 }) p) 5 rfl rfl rfl rfl rfl rfl rfl (Nat.le_of_ble_eq_true rfl) rfl rfl ?_
    (first | refine wXK ?_ | exact wZK)
    refine LdN.one (a := some ⟨rb, 0, none⟩) (q := 4) (.int .i64 (if b then 0 else 1)) rfl (fun w hw => hw.2.2.2.2.1) rfl ?_
    (first | refine wXK ?_ | exact wZK)
    exact fin_p (fun w => SlAt (some ⟨rb, 0, none⟩) 5 (rdC ({ st1 with e := if b then 0 else 1 }) p) w ∧ SlAt p.ga (p.m.length * 5) (grC p.m) w ∧ (∀ q ∈ p.m, CellF q w) ∧ SlAt p.sa (({ st1 with e := if b then 0 else 1 }).ss.length * 1) (strC ({ st1 with e := if b then 0 else 1 }).ss) w) ⟨rb, p, rfl, hp.same (st' := { st1 with e := if b then 0 else 1 }) ⟨rfl, rfl, rfl⟩, fun w hw => hw⟩ (fun w hw => ⟨hw.2.2.2.2.1, hw.2.1, hw.1, hw.2.2.2.1⟩)
   ·rw [decide_eq_false hs1]
    have e1 : endM st1 = failM st1 4 := by
     unfold endM
     rw [if_pos ⟨he, hs1⟩]
    have he4 : (failM st1 4).e = 4 := fail_e he 4
    have e2 : checkM (failM st1 4) = failM st1 4 := check_dead (by rw [he4]; decide)
    rw [show (z, st1).2 = st1 from rfl, e1, e2]
    have ok4 := hp.same (fail_ss st1 4)
    (first | refine wXK ?_ | exact wZK)
    refine callG (fail_m rb st1 p 4) [4, 1, 0, 2, 3] rfl ⟨rfl, rfl, rfl, rfl, rfl, trivial⟩ rfl fun _ _ => ?_
    generalize failM st1 4 = st4 at he4 ok4 ⊢
    (first | refine wXK ?_ | exact wZK)
    refine LdN.one (a := some ⟨rb, 0, none⟩) (q := 4) (.int .i64 st4.e) rfl (fun w hw => hw.2.2.2.2.1) rfl ?_
    rw [he4]
    (first | refine wXK ?_ | exact wZK)
    refine LdN.one (a := some ⟨rb, 0, none⟩) (q := 4) (.int .i64 st4.e) rfl (fun w hw => hw.2.2.2.2.1) rfl ?_
    (first | refine wXK ?_ | exact wZK)
    exact fin_p (fun w => SlAt (some ⟨rb, 0, none⟩) 5 (rdC (st4) p) w ∧ SlAt p.ga (p.m.length * 5) (grC p.m) w ∧ (∀ q ∈ p.m, CellF q w) ∧ SlAt p.sa ((st4).ss.length * 1) (strC (st4).ss) w) ⟨rb, p, rfl, ok4, fun w hw => hw⟩ (fun w hw => ⟨hw.2.2.2.2.1, hw.2.1, hw.1, hw.2.2.2.1⟩)
  ·have e1 : checkM (endM st1) = st1 := by rw [end_dead he, check_dead he]
   rw [e1]
   rw [show (st1.e == 0) = false by simpa using he]
   (first | refine wXK ?_ | exact wZK)
   refine LdN.one (a := some ⟨rb, 0, none⟩) (q := 4) (.int .i64 st1.e) rfl (fun w hw => hw.2.2.2.2.1) rfl ?_
   (first | refine wXK ?_ | exact wZK)
   refine brd_eq (fun h => absurd h he) (fun _ => ?_)
   (first | refine wXK ?_ | exact wZK)
   refine LdN.one (a := some ⟨rb, 0, none⟩) (q := 4) (.int .i64 st1.e) rfl (fun w hw => hw.2.2.2.2.1) rfl ?_
   (first | refine wXK ?_ | exact wZK)
   exact fin_p (fun w => SlAt (some ⟨rb, 0, none⟩) 5 (rdC (st1) p) w ∧ SlAt p.ga (p.m.length * 5) (grC p.m) w ∧ (∀ q ∈ p.m, CellF q w) ∧ SlAt p.sa ((st1).ss.length * 1) (strC (st1).ss) w) ⟨rb, p, rfl, hp, fun w hw => hw⟩ (fun w hw => ⟨hw.2.2.2.2.1, hw.2.1, hw.1, hw.2.2.2.1⟩)
end Go.Proofs.YtgogonnnojcioaaGreatDoor

/-
 Contracts: Load, Check, Symbols (program).
-/
namespace Go.Proofs.YtgogonnnojcioaaGreatDoor
open Go.AX Go.RowKit Go.Core Go.Marshal
set_option maxRecDepth 20000

theorem read_long (s : List UInt8) (hs : 20000 < s.length) : ∀ H, SpecH Tryz.prog 41 (pvs [.string (bs s)]) H (Ret (.tuple #[.pointer none, .int .i64 2]) H) := by
 refine pureC hm Tryz.func41 (by kernel_rfl) rfl rfl ?_
 have hsz := bs_size s
 (first | refine wX ?_ | exact wZ)
 refine brd_dec (fun h => ?_) (fun h => absurd (show (s.length : Int) > 20000 by omega) (by rw [hsz] at h; exact h))
 (first | refine wX ?_ | exact wZ)
def GraphR (g : List Cell) (v : Value) (G : World → Prop) : Prop := ∃ (a : Option Addr) (c : Nat) (m : List CellP), v = .slice a m.length c ∧ m.map (·.c) = g ∧ (a = none → m = []) ∧ (∀ q ∈ m, CellOk q) ∧ ∀ w, G w → GrF a m w
def LoadR (r : Except Int (List Cell × List B)) (v : Value) (G : World → Prop) : Prop := match r with
 | .error e => v = .tuple #[.slice none 0 0, .int .i64 e]
 | .ok (g, _) => ∃ v1, v = .tuple #[v1, .int .i64 0] ∧ GraphR g v1 G
theorem Load_c (s : List UInt8) : SpecF Tryz.prog 16 [.string (bs s)] (fun _ => True) (LoadR (loadS s)) := by
 refine specF hm Tryz.func16 (by kernel_rfl) rfl rfl ?_
 by_cases hs : 20000 < s.length
 ·have hl : loadS s = .error 2 := by unfold loadS; rw [if_pos hs]
  rw [hl]
  (first | refine wX ?_ | exact wZ)
  refine call1 (read_long s hs _) ?_
  (first | refine wX ?_ | exact wZ)
  exact fin_v rfl
 ·have href := load_ref (s := s) (by omega)
  ((conv => whnf); (repeat ((first | refine VrN.keep ?_ | refine BoxN.own ?_ | refine RwN.own ?_); (conv => whnf))))
  refine SpecF.call (read_c s (by omega)) (fun w _ q hq => by cases hq) fun v G hR => ?_
  obtain ⟨rb, p, rfl, ok, hG⟩ := hR
  generalize readM s = st at href ok hG ⊢
  cases hl : loadS s with
  | error e =>
   obtain ⟨h1, h2⟩ := href.2 e hl
   (first | refine wX ?_ | exact wZ)
   rw [h1]
   refine brd_ne (fun _ => ?_) (fun h => absurd h h2)
   (first | refine wX ?_ | exact wZ)
   exact fin_v rfl
  | ok r =>
   obtain ⟨h1, h2, h3⟩ := href.1 r hl
   obtain ⟨g, ss⟩ := r
   (first | refine wX ?_ | exact wZ)
   rw [h1]
   (first | refine wX ?_ | exact wZ)
   refine LdN.one (a := some ⟨rb, 0, none⟩) (q := 1) (.slice p.ga p.m.length p.gc) rfl (fun w hw => (hG w hw.2.1).1) rfl ?_
   (first | refine wX ?_ | exact wZ)
   exact fin_p (fun w => GrF p.ga p.m w) ⟨_, rfl, p.ga, p.gc, p.m, rfl, by rw [ok.g]; exact h2, ok.ga, ok.cell, fun w hw => hw⟩ (fun w hw => ⟨(hG w hw.2.1).2.1, (hG w hw.2.1).2.2.1⟩)
end Go.Proofs.YtgogonnnojcioaaGreatDoor

/-
 Contract: a number in groups of 7 bits (program, by pack.Pack).
-/
namespace Go.Proofs.YtgogonnnojcioaaGreatDoor
open Go.AX Go.RowKit Go.Marshal
set_option maxRecDepth 20000

theorem TrimW_c : ∀ H, SpecH Tryz.prog 141 (pvs [.string (bs [119]), .string (bs [32])]) H (Ret (.string (bs [119])) H) := fun H =>
 SpecH.rawP (R := fun r => r = .string (bs [119])) (callOk Tryz.func141 (by kernel_rfl) rfl)
  (fun w _ => (Tryz.strings_TrimLeft_one (bs [119]) 32 (by decide) w).mono fun e w' ⟨he, hw⟩ => ⟨_, he, rfl, by subst hw; exact Below.refl _ _⟩) fun r hr => by subst hr; exact ⟨rfl, rfl⟩
theorem Trim0_c (x : List UInt8) : ∀ H, SpecH Tryz.prog 141 (pvs [.string (bs []), .string (bs x)]) H (Ret (.string (bs [])) H) := by
 refine pureC hm Tryz.func141 (by kernel_rfl) rfl rfl ?_
 (first | refine wX ?_ | exact wZ)
def formL : List UInt8 := [67, 99, 83, 115, 76, 108, 81, 113, 110, 78, 119, 85, 97, 65, 90, 72, 120, 64]
def wC : List Value := [.int .u8 119, .bool false, .int .i64 (-2)]
theorem read_w : SpecF Tryz.prog 119 [.string (bs [119])] (fun _ => True) (fun v G => ∃ db cap, v = .tuple #[.slice (some ⟨db, 0, none⟩) 1 cap, .bool true] ∧ ∀ w, G w → SlAt (some ⟨db, 0, none⟩) 3 wC w) := by
 refine specF hm Tryz.func119 (by kernel_rfl) rfl rfl ?_
 (first | refine wX ?_ | exact wZ)
 refine call1 (TrimW_c _) ?_
 (first | refine wX ?_ | exact wZ)
 refine LoopN.unroll 2 ?_
 (first | refine wX ?_ | exact wZ)
 rw [show byteAt (bs [119]) (Int.toNat 0) = 119 from rfl]
 refine call1 (IndexByte_c formL 119 _) ?_
 (first | refine wX ?_ | exact wZ)
 refine ReadW.tl rfl Tryz.underlying9 rfl rfl ?_
 (first | refine wX ?_ | exact wZ)
 refine call1 (HasPrefix_c [] [62] _) ?_
 (first | refine wX ?_ | exact wZ)
 refine call1 (Trim0_c [48, 49, 50, 51, 52, 53, 54, 55, 56, 57] _) ?_
 (first | refine wX ?_ | exact wZ)
 refine call1 (HasPrefix_c [] [42] _) ?_
 (first | refine wX ?_ | exact wZ)
 refine AppN.new wC ⟨rfl, rfl, rfl⟩ rfl (by refine ⟨Nat.le_refl 1, ⟨?_, ?_⟩, ?_⟩ <;> decide +kernel) fun b cap h1 h2 => ?_
 (first | refine wX ?_ | exact wZ)
 refine call1 (Trim0_c [32] _) ?_
 (first | refine wX ?_ | exact wZ)
 exact fin_p (SlAt (some ⟨b, 0, none⟩) 3 wC) ⟨b, cap, rfl, fun w hw => hw⟩ (fun w hw => hw.2.1)
theorem wide_c (n : Nat) (hn : n < 9223372036854775808) : ∀ H, SpecH Tryz.prog 57 (pvs [.int .i64 (n : Int)]) H (Ret (.string (bs (num n))) H) := by
 refine pureC hm Tryz.func57 (by kernel_rfl) rfl rfl ?_
 (first | refine wXR ?_ | exact wZR)
 refine RwN.known [.bool false, .int .i64 (n : Int), .string ⟨#[]⟩] rfl fun ib => ?_
 (first | refine wXR ?_ | exact wZR)
 refine spec_of_exec hm Tryz.func83 (by kernel_rfl) rfl rfl ?_
 (first | refine wXR ?_ | exact wZR)
 refine spec_of_exec hm Tryz.func96 (by kernel_rfl) rfl rfl ?_
 (first | refine wXR ?_ | exact wZR)
 refine SpecF.call read_w (fun w _ => trivial) fun v G hR => ?_
 obtain ⟨db, dc, rfl, hG⟩ := hR
 (first | refine wXB ?_ | exact wZB)
 refine BoxN.known [.slice none 0 0, .slice (some ⟨ib, 0, none⟩) 1 1, .int .i64 0] rfl fun pb => ?_
 (first | refine wX ?_ | exact wZ)
 refine LoopN.unroll 2 ?_
 (first | refine wX ?_ | exact wZ)
 refine Nd.mk ⟨rfl, by decide, by decide⟩ ?_
 (first | refine wX ?_ | exact wZ)
 refine LdN.agg wC rfl (fun w hw => hG w hw.2.1) rfl (fun k hk => by show wC[0 * 3 + k]? = _; rw [Nat.zero_mul, Nat.zero_add]) ?_
 (first | refine wX ?_ | exact wZ)
 refine spec_of_exec hm Tryz.func120 (by kernel_rfl) rfl rfl ?_
 (first | refine wX ?_ | exact wZ)
 refine call1 (IndexByte_c [97, 65, 90, 72] 119 _) ?_
 (first | refine wX ?_ | exact wZ)
 refine spec_of_exec hm Tryz.func121 (by kernel_rfl) rfl rfl ?_
 (first | refine wX ?_ | exact wZ)
 refine LoopN.unroll 2 ?_
 (first | refine wX ?_ | exact wZ)
 refine spec_of_exec hm Tryz.func122 (by kernel_rfl) rfl rfl ?_
 (first | refine wX ?_ | exact wZ)
 refine spec_of_exec hm Tryz.func120 (by kernel_rfl) rfl rfl ?_
 (first | refine wX ?_ | exact wZ)
 refine call1 (IndexByte_c [97, 65, 90, 72] 119 _) ?_
 (first | refine wX ?_ | exact wZ)
 refine spec_of_exec hm Tryz.func144 (by kernel_rfl) rfl rfl ?_
 (first | refine wX ?_ | exact wZ)
 refine LdN.one (a := some ⟨pb, 0, none⟩) (q := 2) (.int .i64 0) rfl (fun w hw => hw.2.2.1) rfl ?_
 (first | refine wX ?_ | exact wZ)
 refine LdN.one (a := some ⟨pb, 0, none⟩) (q := 1) (.slice (some ⟨ib, 0, none⟩) 1 1) rfl (fun w hw => hw.2.2.1) rfl ?_
 (first | refine wX ?_ | exact wZ)
 refine DrawN.plan [0, 4] [(1, 1), (2, 1), (3, 1), (5, 1), (6, 1), (7, 1), (8, 1), (9, 1)] [(10, 2), (11, 0)] (by decide +kernel) ?_
 (first | refine wX ?_ | exact wZ)
 refine LdN.one (a := some ⟨pb, 0, none⟩) (q := 1) (.slice (some ⟨ib, 0, none⟩) 1 1) rfl (fun w hw => hw.2.2.1) rfl ?_
 (first | refine wX ?_ | exact wZ)
 refine LdN.one (a := some ⟨pb, 0, none⟩) (q := 2) (.int .i64 0) rfl (fun w hw => hw.2.2.1) rfl ?_
 (first | refine wX ?_ | exact wZ)
 refine Nd.mk ⟨rfl, by decide, by decide⟩ ?_
 (first | refine wX ?_ | exact wZ)
 refine LdN.agg [.bool false, .int .i64 (n : Int), .string ⟨#[]⟩] rfl (fun w hw => hw.1) rfl (fun k hk => by show [Value.bool false, .int .i64 (n : Int), .string ⟨#[]⟩][0 * 3 + k]? = _; rw [Nat.zero_mul, Nat.zero_add]) ?_
 (first | refine wX ?_ | exact wZ)
 refine LdN.one (a := some ⟨pb, 0, none⟩) (q := 2) (.int .i64 0) rfl (fun w hw => hw.2.2.1) rfl ?_
 (first | refine wX ?_ | exact wZ)
 refine EffW.appTo (i := 2) (q := 2) (ys := [_]) [.slice none 0 0, .slice (some ⟨ib, 0, none⟩) 1 1, .int .i64 1] 3 rfl rfl rfl rfl rfl rfl rfl (Nat.le_of_ble_eq_true rfl) rfl rfl ?_
 (first | refine wX ?_ | exact wZ)
 refine spec_of_exec hm Tryz.func120 (by kernel_rfl) rfl rfl ?_
 (first | refine wX ?_ | exact wZ)
 refine call1 (IndexByte_c [97, 65, 90, 72] 119 _) ?_
 (first | refine wX ?_ | exact wZ)
 refine spec_of_exec hm Tryz.func146 (by kernel_rfl) rfl rfl ?_
 (first | refine wX ?_ | exact wZ)
 refine SpecF.call (sevens_c n hn) (fun w _ => trivial) fun v G2 hR => ?_
 obtain ⟨ob, oc, rfl, hob, hG2⟩ := hR
 have hpos := num_pos n
 have hnl := num_len hn
 generalize num n = l at hpos hnl hG2 hob ⊢
 obtain ⟨ob, rfl⟩ : ∃ b, ob = some b := by
  cases ob with
  | none => rw [hob rfl] at hpos; exact absurd hpos (Nat.lt_irrefl 0)
  | some b => exact ⟨b, rfl⟩
 obtain ⟨k, hk⟩ : ∃ k, l.length = k + 1 := ⟨l.length - 1, by omega⟩
 rw [hk] at hnl hG2 ⊢
 (first | refine wX ?_ | exact wZ)
 refine LdN.one (a := some ⟨pb, 0, none⟩) (q := 0) (.slice none 0 0) rfl (fun w hw => hw.2.2.1) rfl ?_
 (first | refine wX ?_ | exact wZ)
 refine brd_dec (fun h => absurd h (by rw [wrap_i64 (by omega)]; omega)) (fun _ => ?_)
 (first | refine wX ?_ | exact wZ)
 refine LdN.one (a := some ⟨pb, 0, none⟩) (q := 0) (.slice none 0 0) rfl (fun w hw => hw.2.2.1) rfl ?_
 (first | refine wX ?_ | exact wZ)
 refine Nd.mk rfl ?_
 (conv => whnf)
 refine ApN.intro (u8s l) (by show _ = (k + 1) * 1; rw [u8s_len]; omega) (fun u hu => by obtain ⟨c, _, rfl⟩ := List.mem_map.1 hu; rfl) (fun w hw j v hv => (hG2 w hw.2.2.2.1).cell hv) ?_
 (conv => whnf)
 refine AppN.new (u8s l) ⟨rfl, rfl, rfl⟩ (plains_vs _) ⟨by show 1 ≤ k + 1; omega, ⟨by show (0 + (k + 1)) * 1 ≤ _; omega, by omega⟩, by decide⟩ fun b' cap' h2 h3 => ?_
 (first | refine wX ?_ | exact wZ)
 refine EffW.appTo (i := 2) (q := 0) (ys := [_]) [.slice (some ⟨b', 0, none⟩) (k + 1) cap', .slice (some ⟨ib, 0, none⟩) 1 1, .int .i64 1] 3 rfl rfl rfl rfl rfl rfl rfl (Nat.le_of_ble_eq_true rfl) rfl rfl ?_
 (first | refine wX ?_ | exact wZ)
 refine LdN.one (a := some ⟨pb, 0, none⟩) (q := 0) (.slice (some ⟨b', 0, none⟩) (k + 1) cap') rfl (fun w hw => hw.2.2.1) rfl ?_
 (first | refine wX ?_ | exact wZ)
 refine ReadW.bytes l hk rfl rfl rfl rfl rfl (fun w hw => by have h9 : SlAt (some ⟨b', 0, none⟩) ((k + 1) * 1) (u8s l) w := hw.2.2.2.2.1; rw [Nat.mul_one] at h9; exact h9) ?_
 (first | refine wX ?_ | exact wZ)
 rfl
end Go.Proofs.YtgogonnnojcioaaGreatDoor

/-
 AX, fifty-third text: maps with numbers as keys, as lists of pairs: asked, written.
-/
namespace Go.AX

def seek {α : Type} [DecidableEq α] (k : α) : List (α × Value) → Nat → Option (Nat × Value)
 | [], _ => none
 | (q, v) :: R, i => if k = q then some (i, v) else seek k R (i + 1)
def upd {α : Type} [DecidableEq α] (k : α) (v : Value) : List (α × Value) → List (α × Value)
 | [] => [(k, v)]
 | (q, x) :: R => if k = q then (q, v) :: R else (q, x) :: upd k v R
theorem seek_look {α : Type} [DecidableEq α] (k : α) : ∀ (R : List (α × Value)) (i : Nat), (seek k R i).map Prod.snd = R.lookup k
 | [], _ => rfl
 | (q, v) :: R, i => by
  unfold seek
  rw [List.lookup_cons]
  by_cases h : k = q
  ·subst h
   rw [if_pos rfl, beq_self_eq_true]
   rfl
  ·rw [if_neg h, show (k == q) = false by simp [h]]
   exact seek_look k R (i + 1)
theorem seek_ge {α : Type} [DecidableEq α] (k : α) : ∀ (R : List (α × Value)) (i j : Nat) (v : Value), seek k R i = some (j, v) → i ≤ j
 | [], _, _, _, h => by cases h
 | (q, x) :: R, i, j, v, h => by
  unfold seek at h
  split at h
  ·cases h; exact Nat.le_refl _
  ·have := seek_ge k R (i + 1) j v h; omega
def KeysAre {α : Type} (enc : α → Value) (es : List MapEntry) (R : List (α × Value)) : Prop := es.map (fun e => (e.key, e.val)) = R.map fun r => (enc r.1, r.2)
section
variable {α : Type} [DecidableEq α] {enc : α → Value}
theorem KeysAre.put {k : α} {v : Value} {born : Nat} : ∀ {es : List MapEntry} {R : List (α × Value)} {i : Nat}, KeysAre enc es R → seek k R i = none → KeysAre enc (es ++ [{ key := enc k, val := v, born := born }]) (upd k v R)
 | [], [], _, _, _ => rfl
 | [], _ :: _, _, h, _ => by cases h
 | _ :: _, [], _, h, _ => by cases h
 | e :: es, (q, x) :: R, i, h, hs => by
  unfold KeysAre at h
  simp only [List.map_cons, List.cons.injEq] at h
  unfold seek at hs
  split at hs
  ·cases hs
  ·rename_i hk
   have ih := KeysAre.put (v := v) (born := born) (es := es) (R := R) h.2 hs
   unfold upd
   rw [if_neg hk]
   unfold KeysAre at ih ⊢
   rw [List.cons_append, List.map_cons, List.map_cons, ih, h.1]
theorem KeysAre.set {k : α} {v : Value} : ∀ {es : List MapEntry} {R : List (α × Value)} {i j : Nat} {x : Value}, KeysAre enc es R → seek k R i = some (i + j, x) → KeysAre enc (es.modify j fun e => { e with key := enc k, val := v }) (upd k v R) ∧ ∃ e, es[j]? = some e ∧ e.key = enc k
 | [], [], _, _, _, _, hs => by cases hs
 | [], _ :: _, _, _, _, h, _ => by cases h
 | _ :: _, [], _, _, _, h, _ => by cases h
 | e :: es, (q, y) :: R, i, j, x, h, hs => by
  unfold KeysAre at h
  simp only [List.map_cons, List.cons.injEq] at h
  unfold seek at hs
  unfold upd
  split at hs
  ·rename_i hk
   subst hk
   simp only [Option.some.injEq, Prod.mk.injEq] at hs
   obtain rfl : j = 0 := by omega
   rw [if_pos rfl]
   refine ⟨?_, e, rfl, congrArg Prod.fst h.1⟩
   unfold KeysAre
   show _ :: List.map _ es = _ :: _
   rw [h.2]
  ·rename_i hk
   have hge := seek_ge k R (i + 1) (i + j) x hs
   obtain ⟨j, rfl⟩ : ∃ j2, j = j2 + 1 := ⟨j - 1, by omega⟩
   obtain ⟨h1, e2, h2, h3⟩ := KeysAre.set (v := v) (es := es) (R := R) (i := i + 1) (j := j) (x := x) h.2 (by rw [hs]; congr 2; omega)
   rw [if_neg hk]
   refine ⟨?_, e2, h2, h3⟩
   unfold KeysAre at h1 ⊢
   rw [show List.modify (e :: es) (j + 1) (fun e => { e with key := enc k, val := v }) = e :: List.modify es j (fun e => { e with key := enc k, val := v }) from rfl, List.map_cons, List.map_cons, h1, h.1]
end
structure KeyT (P : Program) (kt : TypeId) {α : Type} [DecidableEq α] (enc : α → Value) : Prop where
 check : ∀ (w : World) (e : Bool) (k : α), (Instr.checkKey e 10000 kt (enc k)).run P w = .ok () w
 find : ∀ (w : World) (k : α) (es : List MapEntry) (R : List (α × Value)), KeysAre enc es R → (Instr.findKey kt (enc k) es).run P w = .ok (seek k R 0) w
 stay : ∀ (w : World) (k : α), (Instr.keyThatStays (enc k) (enc k)).run P w = .ok (enc k) w
theorem findNow_seek {κ : IntKind} (k : Int) : ∀ (es : List MapEntry) (R : List (Int × Value)) (i : Nat), KeysAre (fun k => .int κ k) es R → Instr.findNow (.int κ) (.int κ k) es i = some (seek k R i)
 | [], [], _, _ => rfl
 | [], _ :: _, _, h => by cases h
 | _ :: _, [], _, h => by cases h
 | e :: es, (q, x) :: R, i, h => by
  unfold KeysAre at h
  simp only [List.map_cons, List.cons.injEq, Prod.mk.injEq] at h
  have ih := findNow_seek k es R (i + 1) h.2
  unfold seek
  rw [Instr.findNow, h.1.1]
  by_cases hk : k = q
  ·subst hk
   simp [Instr.sameNow, h.1.2]
  ·have hb : (k == q) = false := by simp [hk]
   simp [Instr.sameNow, hb, hk, ih]
theorem intKeyT {P : Program} {kt : TypeId} {κ : IntKind} (h : P.underlying kt = some (.int κ)) : KeyT P kt (fun k : Int => .int κ k) where
 check := fun w e k => MapKept.run_checkKey (k := .int κ k) h (by simp [MapKept.IsKey]) e 9999
 find := fun w k es R hr => MapKept.run_findKey h (findNow_seek k es R 0 hr)
 stay := fun w k => MapKept.run_keyThatStays (d := .int κ) (k := .int κ k) (by simp [MapKept.IsKey])
section
variable {P : Program} {o : Oper} {s : List AV} {H : List Ent} {t kt et : TypeId} {m k : Operand} {b c : Nat} {es : Array MapEntry} {α : Type} [DecidableEq α] {enc : α → Value} {p : α}
theorem ReadW.keyMap {K : AV → Prop} {inf : TypeInfo} {z : Value} (R : List (α × Value)) (ho : o.op = .lookup t m k false) (ht : P.underlying t = some (.map kt et)) (hkt : KeyT P kt enc) (hi : P.info? et = some inf) (hz : inf.zero = some z)
  (hm : opv s m = .c (.v (.map (some b)))) (hk : opv s k = .c (.v (enc p))) (hF : ∀ w, Facts H w → w.heap[b]? = some (.map es c)) (hf : KeysAre enc es.toList R) (h : K (.c (.v ((R.lookup p).getD z)))) : ReadW P o s H K :=
 ReadW.val ((R.lookup p).getD z) (fun cs b e => by rw [ho] at e; cases e) (by rw [ho]; show allPlain s [m, k] = true; simp [allPlain, hm, hk]) (fun w hw => by
  have hb := hF w hw
  have hc := hkt.check w es.isEmpty p
  have hj := hkt.find w p es.toList R hf
  have hlk := seek_look p R 0
  have hrun : (Instr.lookup t (.map (some b)) (enc p) false).run P w = .ok ((R.lookup p).getD z) w := by
   cases hr : seek p R 0 with
   | none => rw [hr] at hj hlk; rw [← hlk]; simp [Instr.lookup, run_underlying ht, MapKept.run_getObj_map hb, hc, hj, Result.andThen, run_zeroValue hi hz]
   | some q => rw [hr] at hj hlk; rw [← hlk]; simp [Instr.lookup, run_underlying ht, MapKept.run_getObj_map hb, hc, hj, Result.andThen]
  unfold execOp
  simp only [ho, plainEv_v hm, plainEv_v hk, Sem.run_bind, hrun, Result.andThen_ok, Sem.run_pure]) h
theorem EffW.setMap {K : AV → List Ent → Prop} {x : Operand} {val : Value} (i : Nat) (R : List (α × Value)) (ho : o.op = .mapUpdate t m k x) (ht : P.underlying t = some (.map kt et)) (hkt : KeyT P kt enc)
  (hm : opv s m = .c (.v (.map (some b)))) (hk : opv s k = .c (.v (enc p))) (hx : opv s x = .c (.v val)) (hi : nthE H i = some (.mp b es c)) (hf : KeysAre enc es.toList R)
  (next : ∀ es' c', KeysAre enc es'.toList (upd p val R) → setEK H i (.mp b es' c') fun H' => K (.c .any) H') : EffW P o s H K := by
 rw [nthE_eq] at hi
 obtain ⟨es', c', hnew, hrun⟩ : ∃ es' c', KeysAre enc es'.toList (upd p val R) ∧ ∀ w : World, w.heap[b]? = some (.map es c) → (Instr.mapUpdate t (.map (some b)) (enc p) val).run P w = .ok () { w with heap := w.heap.setIfInBounds b (.map es' c') } := by
  cases hr : seek p R 0 with
  | none =>
   refine ⟨es.push { key := enc p, val := val, born := c }, c + 1, by rw [Array.toList_push]; exact hf.put hr, fun w hb => ?_⟩
   have hj := hkt.find w p es.toList R hf
   rw [hr] at hj
   simp [Instr.mapUpdate, run_underlying ht, MapKept.run_getObj_map hb, hkt.check w false p, hj, MapKept.run_setObj_map _ hb, Result.andThen]
  | some q =>
   obtain ⟨j, v0⟩ := q
   obtain ⟨h1, e, h2, h3⟩ := hf.set (v := val) (i := 0) (j := j) (x := v0) (by rw [Nat.zero_add]; exact hr)
   refine ⟨es.modify j fun e => { e with key := enc p, val := val }, c, by rw [Array.toList_modify]; exact h1, fun w hb => ?_⟩
   have hj := hkt.find w p es.toList R hf
   rw [hr] at hj
   have h2' : es[j]? = some e := by rw [← h2]; simp
   have hst : (Instr.keyThatStays (((es[j]?).map (·.key)).getD (enc p)) (enc p)).run P w = .ok (enc p) w := by
    rw [h2']
    show (Instr.keyThatStays e.key (enc p)).run P w = _
    rw [h3]
    exact hkt.stay w p
   simp only [Instr.mapUpdate, Sem.run_bind, run_underlying ht, Result.andThen_ok, MapKept.run_getObj_map hb, hkt.check w false p, hj, hst, MapKept.run_setObj_map _ hb]
 obtain ⟨_, hk2⟩ := setEK_spec (next es' c' hnew)
 refine Effs.w (fun ρ S w a hs hr => ?_) hk2
 have h1 : a.eval m = .map (some b) := by have := opv_rel hr m; rw [hm] at this; exact this
 have h2 : a.eval k = enc p := by have := opv_rel hr k; rw [hk] at this; exact this
 have h3 : a.eval x = val := by have := opv_rel hr x; rw [hx] at this; exact this
 have hb : w.heap[b]? = some (.map es c) := hs.ent i _ hi
 have hbl : b < w.heap.size := (Array.getElem?_eq_some_iff.1 hb).1
 have hS := hs.setG (e' := .mp b es' c') (c := b) (w' := { w with heap := w.heap.setIfInBounds b (.map es' c') }) hi rfl (by simp) (fun j _ hne => by simp [Ne.symm hne]) rfl rfl rfl (fun _ hc => .inl (Option.some.inj hc).symm) (by show (w.heap.setIfInBounds b _)[b]? = _; simp [hbl])
 refine ⟨.skip, undef, ρ, _, ?_, .inr ⟨rfl, rfl⟩, hS.1, hS.2, trivial⟩
 unfold execOp
 simp only [ho, h1, h2, h3, Sem.run_bind, Sem.run_pure, hrun w hb, Result.andThen_ok]
end
end Go.AX

/-
 Contract: what is reached (program).
-/
namespace Go.Core
def seenI (L : List Int) : List (Int × Value) := L.map fun i => (i, .bool true)
theorem seenI_get (L : List Int) (i : Int) : ((seenI L).lookup i).getD (.bool false) = .bool (decide (i ∈ L)) := by
 unfold seenI
 induction L with
 | nil => rfl
 | cons q R ih =>
  rw [List.map_cons, List.lookup_cons]
  by_cases h : i = q
  ·subst h
   rw [beq_self_eq_true]
   simp
  ·rw [show (i == q) = false by simp [h], ih]
   simp [h]
theorem seenI_put {L : List Int} {i : Int} (h : ¬ i ∈ L) : Go.AX.upd i (.bool true) (seenI L) = seenI (L ++ [i]) := by
 unfold seenI
 induction L with
 | nil => rfl
 | cons q R ih =>
  simp only [List.mem_cons, not_or] at h
  rw [List.map_cons, Go.AX.upd, if_neg h.1, ih h.2]
  rfl
theorem foldl_take {β : Type} {f : β → Int → β} {l : List Int} {k : Nat} {x : Int} {b : β} (h : l[k]? = some x) : (l.take (k + 1)).foldl f b = f ((l.take k).foldl f b) x := by
 rw [List.take_add_one, h, List.foldl_append]
 rfl
theorem reach_sub (g : List Cell) : ∀ (n : Nat) (L : List Int) (i x : Int), x ∈ L → x ∈ reachF g n L i
 | 0, _, _, _, h => h
 | n + 1, L, i, x, h => by
  have hf : ∀ (ks L : List Int), x ∈ L → x ∈ ks.foldl (reachF g n) L := by
   intro ks
   induction ks with
   | nil => exact fun _ h => h
   | cons k ks ih => exact fun L h => ih _ (reach_sub g n L k x h)
  unfold reachF
  split
  ·exact h
  ·exact hf _ _ (by simp [h])
theorem fold_sub (g : List Cell) (n : Nat) (x : Int) : ∀ (ks L : List Int), x ∈ L → x ∈ ks.foldl (reachF g n) L
 | [], _, h => h
 | k :: ks, L, h => fold_sub g n x ks _ (reach_sub g n L k x h)
theorem fold_len {g : List Cell} {f : List Int → Int → List Int} (hf : ∀ L k, InI g k → (f L k).length + freeN g (f L k) ≤ L.length + freeN g L) : ∀ (ks L : List Int), (∀ k ∈ ks, InI g k) → (ks.foldl f L).length + freeN g (ks.foldl f L) ≤ L.length + freeN g L
 | [], _, _ => Nat.le_refl _
 | k :: ks, L, h => Nat.le_trans (fold_len hf ks (f L k) fun x hx => h x (by simp [hx])) (hf L k (h k (by simp)))
theorem reach_len {g : List Cell} (hg : InG g) : ∀ (n : Nat) (L : List Int) (i : Int), InI g i → (reachF g n L i).length + freeN g (reachF g n L i) ≤ L.length + freeN g L
 | 0, _, _, _ => Nat.le_refl _
 | n + 1, L, i, hi => by
  unfold reachF
  split
  ·exact Nat.le_refl _
  ·rename_i hm
   have h1 := fold_len (g := g) (fun L k hk => reach_len hg n L k hk) (outs g i) (L ++ [i]) (fun k hk => outs_in hg hi hk)
   have h2 := free_lt hi hm (t := L ++ [i]) (fun x hx => by simp [hx]) (by simp)
   simp only [List.length_append, List.length_cons, List.length_nil] at h1
   omega
end Go.Core
namespace Go.Proofs.YtgogonnnojcioaaGreatDoor
open Go.AX Go.RowKit Go.Core
set_option maxRecDepth 20000

theorem intT : KeyT Tryz.prog 3 (fun k : Int => .int .i64 k) := intKeyT (by kernel_rfl)
def rcF (a : Option Addr) (ca : Nat) (l : List CellP) (sb ob gb fb mb : Nat) (w : World) : Prop :=
 GrF a l w ∧ SlAt (some ⟨sb, 0, none⟩) 1 [.map (some mb)] w ∧ SlAt (some ⟨gb, 0, none⟩) 1 [.slice a l.length ca] w ∧ SlAt (some ⟨fb, 0, none⟩) 1 [.func (.func 81) #[] #[.pointer (some ⟨sb, 0, none⟩), .pointer (some ⟨ob, 0, none⟩), .pointer (some ⟨gb, 0, none⟩), .pointer (some ⟨fb, 0, none⟩)]] w
def rcA (i : Int) (sb ob gb fb : Nat) : List AV := pvs [.int .i64 i, .pointer (some ⟨sb, 0, none⟩), .pointer (some ⟨ob, 0, none⟩), .pointer (some ⟨gb, 0, none⟩), .pointer (some ⟨fb, 0, none⟩)]
structure WSt where
 es : Array MapEntry
 c : Nat
 o : BSt
def WSt.ok (L : List Int) (st : WSt) : Prop := KeysAre (fun k : Int => .int .i64 k) st.es.toList (seenI L) ∧ st.o.ok L.length
def rcH (F : World → Prop) (mb ob : Nat) (L : List Int) (st : WSt) : List Ent := [.mp mb st.es st.c, .app 22 1 [.slice (at0 st.o.ob) L.length st.o.cap] (some ⟨ob, 0, none⟩) 1 1, .app 3 1 (iC L) (at0 st.o.ob) L.length st.o.cap, .fact F]
theorem rcH_ok (F : World → Prop) (mb ob : Nat) (L : List Int) (st : WSt) : okH (rcH F mb ob L st).length (rcH F mb ob L st) := okHB_eq rfl
set_option maxHeartbeats 4000000 in
theorem rwalk_c (a : Option Addr) (ca : Nat) (l : List CellP) (ha : a = none → l = []) (hs : Small l) (hok : ∀ p ∈ l, CellOk p) (hg : InG (l.map (·.c))) (sb ob gb fb mb : Nat) : ∀ (n : Nat) (L : List Int) (st : WSt) (i : Int), InI (l.map (·.c)) i → freeN (l.map (·.c)) L < n → L.length + freeN (l.map (·.c)) L ≤ 3000 → st.ok L →
  SpecH Tryz.prog 81 (rcA i sb ob gb fb) (rcH (rcF a ca l sb ob gb fb mb) mb ob L st) (RetG (ι := WSt) (fun st => st.ok (reachF (l.map (·.c)) n L i)) (fun _ => .tuple #[]) (fun st => rcH (rcF a ca l sb ob gb fb mb) mb ob (reachF (l.map (·.c)) n L i) st)) := by
 intro n
 induction n with
 | zero => intro L st i _ h; omega
 | succ n ih =>
  rintro L ⟨es, c, o⟩ i0 hi hn hlen ⟨hk, ho⟩
  simp only at hk ho
  obtain ⟨i, rfl⟩ : ∃ i : Nat, i0 = (i : Int) := ⟨i0.toNat, by have := hi.1; omega⟩
  have hil : i < l.length := by have := hi.2; simp only [List.length_map] at this; omega
  obtain ⟨p, hp⟩ : ∃ x, l[i]? = some x := ⟨_, List.getElem?_eq_getElem hil⟩
  have hpm := List.mem_of_getElem? hp
  have hpo := hok p hpm
  have hps := hs.2 p hpm
  have hl := hs.1
  have hsa : a.isSome = true := by
   cases a with
   | none => rw [ha rfl] at hil; exact absurd hil (Nat.not_lt_zero _)
   | some b => rfl
  refine ownC hm Tryz.func81 (by kernel_rfl) rfl rfl (fun _ _ => rcH_ok _ _ _ _ _) (fun _ _ => Nat.le_refl _) ?_
  (first | refine wX ?_ | exact wZ)
  refine LdN.one (a := some ⟨sb, 0, none⟩) (q := 0) (.map (some mb)) rfl (fun w hw => hw.2.2.2.1.2.1) rfl ?_
  (first | refine wX ?_ | exact wZ)
  refine ReadW.keyMap (et := 4) (p := (i : Int)) (seenI L) rfl (by kernel_rfl) intT rfl rfl rfl rfl (fun w hw => hw.1) hk ?_
  rw [seenI_get]
  (first | refine wX ?_ | exact wZ)
  refine brd_dec (fun hmem => ?_) (fun hmem => ?_)
  ·have hsf : reachF (l.map (·.c)) (n + 1) L (i : Int) = L := by unfold reachF; rw [if_pos hmem]
   rw [hsf]
   (first | refine wX ?_ | exact wZ)
   exact ⟨⟨es, c, o⟩, ⟨hk, ho⟩, rfl, wkH_refl _⟩
  have hsf : reachF (l.map (·.c)) (n + 1) L (i : Int) = (outs (l.map (·.c)) (i : Int)).foldl (reachF (l.map (·.c)) n) (L ++ [(i : Int)]) := by
   conv => lhs; unfold reachF
   rw [if_neg hmem]
  rw [hsf, show outs (l.map (·.c)) (i : Int) = p.c.items by unfold outs; rw [at_map hp]]
  have hlt := free_lt hi hmem (t := L ++ [(i : Int)]) (fun x hx => by simp [hx]) (by simp)
  (first | refine wX ?_ | exact wZ)
  refine LdN.one (a := some ⟨sb, 0, none⟩) (q := 0) (.map (some mb)) rfl (fun w hw => hw.2.2.2.1.2.1) rfl ?_
  (first | refine wX ?_ | exact wZ)
  refine EffW.setMap (et := 4) (p := (i : Int)) 0 (seenI L) rfl (by kernel_rfl) intT rfl rfl rfl rfl hk fun es2 c2 hk2 => ?_
  rw [seenI_put hmem] at hk2
  obtain ⟨ob0, ocap⟩ := o
  (first | refine wX ?_ | exact wZ)
  refine LdN.one (a := some ⟨ob, 0, none⟩) (q := 0) (.slice (at0 ob0) L.length ocap) rfl (fun w hw => hw.2.1) rfl ?_
  (first | refine wX ?_ | exact wZ)
  try refine Nd.mk ⟨Nat.le_refl 1, rfl, rfl⟩ ?_
  (conv => whnf)
  refine AppN.grow 2 (iC L) [.int .i64 (i : Int)] rfl rfl ⟨Nat.le_refl 1, ⟨by show (L.length + 1) * 8 ≤ _; omega, by omega⟩, Nat.one_ne_zero⟩ fun wb wc hwc _ => ?_
  have hcl : iC L ++ [.int .i64 (i : Int)] = iC (L ++ [(i : Int)]) := by simp [iC]
  have hll : L.length + 1 = (L ++ [(i : Int)]).length := by simp
  have hlen2 : (L ++ [(i : Int)]).length + freeN (l.map (·.c)) (L ++ [(i : Int)]) ≤ 3000 := by rw [← hll]; omega
  rw [hcl, hll]
  have hwc2 : (L ++ [(i : Int)]).length ≤ wc := by rw [← hll]; exact hwc
  generalize L ++ [(i : Int)] = L2 at *
  (first | refine wX ?_ | exact wZ)
  refine EffW.appTo (i := 1) (q := 0) (ys := [.slice (some ⟨wb, 0, none⟩) L2.length wc]) [.slice (some ⟨wb, 0, none⟩) L2.length wc] 1 rfl rfl rfl rfl rfl rfl rfl (Nat.le_of_ble_eq_true rfl) rfl rfl ?_
  (first | refine wX ?_ | exact wZ)
  refine LdN.one (a := some ⟨gb, 0, none⟩) (q := 0) (.slice a l.length ca) rfl (fun w hw => hw.2.2.2.1.2.2.1) rfl ?_
  (first | refine wX ?_ | exact wZ)
  refine Nd.mk ⟨hsa, by omega, by omega⟩ ?_
  (first | refine wX ?_ | exact wZ)
  refine LdN.fld (.slice p.ia p.c.items.length p.ic) rfl (fun w hw => hw.2.2.2.1.1.1) (by rw [Int.toNat_natCast]; exact grC_get l i 4 (by decide) hp) ?_
  (first | refine wX ?_ | exact wZ)
  have hitem : ∀ x ∈ p.c.items, InI (l.map (·.c)) x := fun x hx => outs_in hg hi (by unfold outs; rw [at_map hp]; exact hx)
  obtain ⟨f, hf⟩ : ∃ f, f = reachF (l.map (·.c)) n := ⟨_, rfl⟩
  have hfl : ∀ k, ((p.c.items.take k).foldl f L2).length + freeN (l.map (·.c)) ((p.c.items.take k).foldl f L2) ≤ 3000 := fun k => by
   rw [hf]
   have := fold_len (g := l.map (·.c)) (fun L k hk => reach_len hg n L k hk) (p.c.items.take k) L2 (fun x hx => hitem x (List.mem_of_mem_take hx))
   omega
  have hff : ∀ k, freeN (l.map (·.c)) ((p.c.items.take k).foldl f L2) < n := fun k => by
   rw [hf]
   have := free_mono (g := l.map (·.c)) (s := L2) (t := (p.c.items.take k).foldl (reachF (l.map (·.c)) n) L2) (fun x hx => fold_sub _ n x _ _ hx)
   omega
  rw [← hf] at ih ⊢
  refine LoopN.intro (Nat × WSt) (fun ⟨k, st⟩ => k ≤ p.c.items.length ∧ st.ok ((p.c.items.take k).foldl f L2))
   (fun ⟨k, st⟩ => mkS Tryz.f81.ntmps 0 [(4, .c (.v (.pointer (some ⟨fb, 0, none⟩)))), (21, .c (.v (.slice p.ia p.c.items.length p.ic))), (22, .c (.v (.int .i64 (p.c.items.length : Int)))), (23, .c (.v (.int .i64 (k : Int))))])
   (fun ⟨k, st⟩ => rcH (rcF a ca l sb ob gb fb mb) mb ob ((p.c.items.take k).foldl f L2) st ++ [.dead]) (fun ⟨k, _⟩ => p.c.items.length - k) [] rfl (fun ⟨_, _⟩ => rfl) (fun ⟨_, _⟩ => rfl) (fun ⟨_, _⟩ _ => okHB_eq rfl) ?_ ?_
  ·refine ⟨(0, ⟨es2, c2, ⟨some wb, wc⟩⟩), ⟨Nat.zero_le _, hk2, (fun h => by cases h), hwc2, fun h => by have : wc = 0 := h; omega⟩, ?_, wkE_refl _, wkE_refl _, wkE_refl _, wkE_refl _, trivial, trivial⟩
   exact wKK
  rintro ⟨k, st⟩ ⟨hk3, hst⟩
  (first | refine wX ?_ | exact wZ)
  refine brd_dec (fun h1 => ?_) (fun h1 => ?_)
  ·obtain ⟨x, hx⟩ : ∃ z, p.c.items[k]? = some z := ⟨_, List.getElem?_eq_getElem (by omega)⟩
   have hxa : p.ia.isSome = true := by
    cases hq : p.ia with
    | none => rw [hpo.ia hq] at hx; cases hx
    | some b => rfl
   (first | refine wX ?_ | exact wZ)
   refine Nd.mk ⟨hxa, by omega, by omega⟩ ?_
   (first | refine wX ?_ | exact wZ)
   refine LdN.one (.int .i64 x) rfl (fun w hw => (hw.2.2.2.1.1.2 p hpm).2) (by rw [Int.toNat_natCast]; show (iC p.c.items)[k * 1]? = _; rw [Nat.mul_one]; exact iC_get hx) ?_
   (first | refine wX ?_ | exact wZ)
   refine LdN.one (a := some ⟨fb, 0, none⟩) (q := 0) (.func (.func 81) #[] #[.pointer (some ⟨sb, 0, none⟩), .pointer (some ⟨ob, 0, none⟩), .pointer (some ⟨gb, 0, none⟩), .pointer (some ⟨fb, 0, none⟩)]) rfl (fun w hw => hw.2.2.2.1.2.2.2) rfl ?_
   (first | refine wX ?_ | exact wZ)
   refine SpecH.args (args' := rcA x sb ob gb fb) (by simp [rcA, pvs, opvs, opv, nth, plainEv]; try rfl) ?_
   refine callG (ih ((p.c.items.take k).foldl f L2) st x (hitem x (List.mem_of_getElem? hx)) (hff k) (hfl k) hst) [0, 1, 2, 3] rfl ⟨rfl, rfl, rfl, rfl, trivial⟩ rfl fun st2 hst2 => ?_
   have hnx : f ((p.c.items.take k).foldl f L2) x = (p.c.items.take (k + 1)).foldl f L2 := (foldl_take hx).symm
   rw [hnx] at hst2 ⊢
   (first | refine wX ?_ | exact wZ)
   refine ⟨(k + 1, st2), ⟨by omega, hst2⟩, by show p.c.items.length - (k + 1) < p.c.items.length - k; omega, ?_, wkH_refl _⟩
   exact wKK
  ·have hkl : k = p.c.items.length := by omega
   subst hkl
   rw [List.take_length] at hst ⊢
   (first | refine wX ?_ | exact wZ)
   exact ⟨st, hst, rfl, wkE_refl _, wkE_refl _, wkE_refl _, wkE_refl _, trivial⟩
end Go.Proofs.YtgogonnnojcioaaGreatDoor

/-
 Contracts: what a list has; what a cell's text begins and ends with (document).
-/
namespace Go.Core
end Go.Core
namespace Go.Proofs.YtgogonnnojcioaaGreatDoor
open Go.AX Go.RowKit Go.Core Go.Scan
set_option maxRecDepth 20000

theorem rHas_c (a : Option Addr) (c : Nat) (l : List Int) (x : Int) (ha : a = none → l = []) (hl : l.length ≤ 200000000000000) : ∀ H, (∀ w, Facts H w → SlAt a (l.length * 1) (iC l) w) → SpecH Tryz.prog 69 (pvs [.slice a l.length c, .int .i64 x]) H (Ret (.bool (decide (x ∈ l))) H) := by
 refine factC hm Tryz.func69 (by kernel_rfl) rfl rfl ?_
 (first | refine wX ?_ | exact wZ)
 refine loopS Nat (fun i => i ≤ l.length ∧ x ∉ l.take i) (fun i => mkS Tryz.f69.ntmps 0 [(0, .c (.v (.slice a l.length c))), (1, .c (.v (.int .i64 x))), (5, .c (.v (.int .i64 (i : Int))))]) (fun i => l.length - i) rfl (fun _ => rfl) 0 ⟨Nat.zero_le _, by simp⟩ ?_ ?_
 ·exact wKK
 intro i ⟨hi, hno⟩
 (first | refine wX ?_ | exact wZ)
 refine brd_dec (fun h1 => ?_) (fun h1 => ?_)
 ·obtain ⟨s, hs⟩ : ∃ s, l[i]? = some s := ⟨_, List.getElem?_eq_getElem (by omega)⟩
  have hsa : a.isSome = true := by
   cases a with
   | none => rw [ha rfl] at hs; cases hs
   | some b => rfl
  (first | refine wX ?_ | exact wZ)
  refine Nd.mk ⟨hsa, by omega, by omega⟩ ?_
  (first | refine wX ?_ | exact wZ)
  refine LdN.one (.int .i64 s) rfl (fun w hw => hw.1) (by rw [Int.toNat_natCast]; show (iC l)[i * 1]? = _; rw [Nat.mul_one]; exact iC_get hs) ?_
  (first | refine wX ?_ | exact wZ)
  refine brd_eq (fun h2 => ?_) (fun h2 => ?_)
  ·(first | refine wX ?_ | exact wZ)
   exact out_bool (decide_eq_true (h2 ▸ List.mem_of_getElem? hs)).symm
  ·(first | refine wX ?_ | exact wZ)
   refine ⟨i + 1, ⟨by omega, ?_⟩, by omega, ?_, wHH⟩
   ·rw [List.take_add_one, hs]
    intro h
    rcases List.mem_append.1 h with h | h
    ·exact hno h
    ·exact h2 (List.mem_singleton.1 (show x ∈ [s] from h)).symm
   ·exact wKK
 ·have hin : i = l.length := by omega
  subst hin
  rw [List.take_length] at hno
  (first | refine wX ?_ | exact wZ)
  exact out_bool (decide_eq_false hno).symm
end Go.Proofs.YtgogonnnojcioaaGreatDoor

/-
 Contract: strings.NewReplacer: a struct at a known address that holds the texts.
-/
namespace Go.Proofs.YtgogonnnojcioaaGreatDoor
open Go.AX Go.RowKit
set_option maxRecDepth 20000

end Go.Proofs.YtgogonnnojcioaaGreatDoor

/-
 Contract: (*strings.byteStringReplacer).Replace: each byte replaced by what the table holds.
-/
namespace Go.Proofs.YtgogonnnojcioaaGreatDoor
open Go.AX Go.RowKit
set_option maxRecDepth 20000

end Go.Proofs.YtgogonnnojcioaaGreatDoor

/-
 sync.Once, one goroutine: the parts of its slow road, after the kit's worked LazyParts.
-/
namespace Go.Proofs.YtgogonnnojcioaaGreatDoor
set_option maxRecDepth 100000
set_option maxHeartbeats 1600000

end Go.Proofs.YtgogonnnojcioaaGreatDoor

/-
 sync.Once, one goroutine: Do, not yet done and its lock free, of a function by its contract; Do, done already.
-/
namespace Go.Proofs.YtgogonnnojcioaaGreatDoor
set_option maxRecDepth 100000
set_option maxHeartbeats 3200000

end Go.Proofs.YtgogonnnojcioaaGreatDoor

/-
 Contract: Quote of the document.
-/
namespace Go.Proofs.YtgogonnnojcioaaGreatDoor
open Go.AX Go.RowKit Go.Scan
set_option maxRecDepth 20000

end Go.Proofs.YtgogonnnojcioaaGreatDoor

/-
 The table of bytes that are replaced, as it is filled.
-/
namespace Go.Proofs.YtgogonnnojcioaaGreatDoor
open Go.AX Go.RowKit
set_option maxRecDepth 20000

end Go.Proofs.YtgogonnnojcioaaGreatDoor

/-
 Contract: (*strings.Replacer).Replace, for the first time: the bytes that Quote replaces.
-/
namespace Go.Proofs.YtgogonnnojcioaaGreatDoor
open Go.AX Go.RowKit
set_option maxRecDepth 20000

end Go.Proofs.YtgogonnnojcioaaGreatDoor

/-
 Contract: Quote (program).
-/
namespace Go.Proofs.YtgogonnnojcioaaGreatDoor
open Go.AX Go.RowKit Go.Scan
set_option maxRecDepth 20000

end Go.Proofs.YtgogonnnojcioaaGreatDoor

/-
 Contract: the writer writes a cell (program).
-/
namespace Go.AX
theorem BlindW.min2 {P : Program} {o : Oper} {s : List AV} {K : AV → Prop} {x y : Operand} {args : Array Operand} {ts : Array TypeId} {a b : Int} (ho : o.op = .call { callee := .builtin .min, args := args, argTypes := ts }) (ha : args = #[x, y])
  (hx : opv s x = .c (.v (.int .i64 a))) (hy : opv s y = .c (.v (.int .i64 b))) (hk : K (.c (.v (.int .i64 (minI a b))))) : ∃ x, BlindW P o s K x := by
 subst ha
 refine ⟨.int .i64 (minI a b), ?_, fun w => execOp_blt ho fun consts => ?_, hk⟩
 ·rw [ho]
  show allPlain s [x, y] = true
  simp [allPlain, hx, hy]
 ·have e1 : plainEv s x = .int .i64 a := by unfold plainEv; rw [hx]
  have e2 : plainEv s y = .int .i64 b := by unfold plainEv; rw [hy]
  simp [builtin, Builtin.min_, Builtin.min2, e1, e2, minI]
end Go.AX
namespace Go.Proofs.YtgogonnnojcioaaGreatDoor
open Go.AX Go.RowKit Go.Core Go.Scan
set_option maxRecDepth 20000

end Go.Proofs.YtgogonnnojcioaaGreatDoor

/-
 Contract: the writer writes its first cell (program).
-/
namespace Go.Proofs.YtgogonnnojcioaaGreatDoor
open Go.AX Go.RowKit Go.Core Go.Scan
set_option maxRecDepth 20000

end Go.Proofs.YtgogonnnojcioaaGreatDoor

/-
 Contract: Text (program).
-/
namespace Go.Proofs.YtgogonnnojcioaaGreatDoor
open Go.AX Go.RowKit Go.Core Go.Scan
set_option maxRecDepth 20000

end Go.Proofs.YtgogonnnojcioaaGreatDoor

/-
 Numbers and quoted texts, as both writers write them.
-/
namespace Go.Proofs.YtgogonnnojcioaaGreatDoor
open Go.AX Go.RowKit Go.Core Go.Scan
set_option maxRecDepth 20000

end Go.Proofs.YtgogonnnojcioaaGreatDoor

/-
 Contract: the document writes a cell.
-/
namespace Go.Core
end Go.Core
namespace Go.Proofs.YtgogonnnojcioaaGreatDoor
open Go.AX Go.RowKit Go.Core Go.Scan
set_option maxRecDepth 20000

section
attribute [local irreducible] Int.decLt
end
end Go.Proofs.YtgogonnnojcioaaGreatDoor

/-
 Contract: the first example of the chapter (law).
-/
namespace Go.Proofs.YtgogonnnojcioaaGreatDoor
open Go.AX Go.RowKit Go.Core Go.Scan
set_option maxRecDepth 20000

end Go.Proofs.YtgogonnnojcioaaGreatDoor

/-
 Contracts: Is and Text (document); CoreTexts (law).
-/
namespace Go.Proofs.YtgogonnnojcioaaGreatDoor
open Go.AX Go.RowKit Go.Core Go.Scan
set_option maxRecDepth 20000

theorem small_as {l m : List CellP} (hs : Small l) (h : m.map (·.c) = l.map (·.c)) : Small m := by
 refine ⟨by have := congrArg List.length h; simp at this; have := hs.1; omega, fun p hp => ?_⟩
 have h1 : p.c ∈ l.map (·.c) := h ▸ List.mem_map_of_mem hp
 obtain ⟨q, hq, e⟩ := List.mem_map.1 h1
 rw [← e]
 exact hs.2 q hq
theorem RIs_c (a : Option Addr) (ca : Nat) (l : List CellP) (ha : a = none → l = []) (hl : l.length ≤ 200000000000000) (hok : ∀ p ∈ l, CellOk p) (u : Int) :
  ∀ H, (∀ w, Facts H w → GrF a l w) → ∃ b : Bool, (b = true ↔ AskP (l.map (·.c)) [u]) ∧ SpecH Tryz.prog 42 (pvs [.slice a l.length ca, .int .i64 u]) H (Ret (.bool b) H) := by
 intro H hH
 obtain ⟨b, hb⟩ : ∃ b : Bool, b = true ↔ AskP (l.map (·.c)) [u] := by
  by_cases h : AskP (l.map (·.c)) [u]
  ·exact ⟨true, fun _ => h, fun _ => rfl⟩
  ·exact ⟨false, (fun h => by cases h), fun h2 => absurd h2 h⟩
 refine ⟨b, hb, ?_⟩
 have hgl : (l.map (·.c)).length = l.length := by simp
 refine factC hm Tryz.func42 (by kernel_rfl) rfl rfl ?_ H hH
 (first | refine wX ?_ | exact wZ)
 obtain ⟨v, hv1, hv2⟩ := Valid_c a ca l ha hl hok [.fact (GrF a l)] (fun w hw => hw.1)
 refine call1 hv2 ?_
 cases v with
 | false =>
  (first | refine wX ?_ | exact wZ)
  exact out_bool (by
   cases b with
   | false => rfl
   | true => exact absurd (hv1.2 (hb.1 rfl).1) (by decide))
 | true =>
  (first | refine wX ?_ | exact wZ)
  refine brd_dec (fun h1 => ?_) (fun h1 => ?_)
  ·(first | refine wX ?_ | exact wZ)
   refine out_bool ?_
   rw [Bool.eq_iff_iff, hb, decide_eq_true_eq]
   constructor
   ·intro h
    exact ⟨hv1.1 rfl, fun x hx => by rw [List.mem_singleton.1 hx]; omega⟩
   ·intro h
    have := h.2 u (by simp)
    omega
  ·(first | refine wX ?_ | exact wZ)
   refine out_bool ?_
   cases b with
   | false => rfl
   | true => have := (hb.1 rfl).2 u (by simp); omega
end Go.Proofs.YtgogonnnojcioaaGreatDoor

/-
 Contracts: reach, Reach (program).
-/
namespace Go.Proofs.YtgogonnnojcioaaGreatDoor
open Go.AX Go.RowKit Go.Core
set_option maxRecDepth 20000

def IntR (L : List Int) (v : Value) (G : World → Prop) : Prop := ∃ (oa : Option Addr) (oc : Nat), v = .slice oa L.length oc ∧ (oa = none → L = []) ∧ ∀ w, G w → SlAt oa (L.length * 1) (iC L) w
def IntE (e : Bool) (L : List Int) (v : Value) (G : World → Prop) : Prop := ∃ (oa : Option Addr) (oc : Nat), v = .tuple #[.slice oa L.length oc, errI e] ∧ (oa = none → L = []) ∧ ∀ w, G w → SlAt oa (L.length * 1) (iC L) w
def reachL (g : List Cell) (i : Int) : List Int := reachF g (g.length + 1) [] i
set_option maxHeartbeats 4000000 in
theorem reach_c {a : Option Addr} (ca : Nat) {l : List CellP} (ha : a = none → l = []) (hs : Small l) (hok : ∀ p ∈ l, CellOk p) (hg : InG (l.map (·.c))) (i : Int) (hi : InI (l.map (·.c)) i) :
  SpecF Tryz.prog 54 [.slice a l.length ca, .int .i64 i] (GrF a l) (IntR (reachL (l.map (·.c)) i)) := by
 refine specF hm Tryz.func54 (by kernel_rfl) rfl rfl ?_
 (conv => whnf)
 refine BoxN.known [.slice a l.length ca] rfl fun gb => ?_
 (first | refine wXB ?_ | exact wZB)
 refine EffW.mkMap rfl fun mb => ?_
 (first | refine wXB ?_ | exact wZB)
 refine BoxN.known [.map none] rfl fun sb => ?_
 (first | refine wXB ?_ | exact wZB)
 refine EffW.appTo (i := 3) (q := 0) (ys := [.map (some mb)]) [.map (some mb)] 1 rfl rfl rfl rfl rfl rfl rfl (Nat.le_of_ble_eq_true rfl) rfl rfl ?_
 (first | refine wXB ?_ | exact wZB)
 refine BoxN.known [.slice none 0 0] rfl fun ob => ?_
 (first | refine wXB ?_ | exact wZB)
 refine BoxN.known [.nilFunc] rfl fun fb => ?_
 (first | refine wXB ?_ | exact wZB)
 refine EffW.appTo (i := 5) (q := 0) (ys := [.func (.func 81) #[] #[.pointer (some ⟨sb, 0, none⟩), .pointer (some ⟨ob, 0, none⟩), .pointer (some ⟨gb, 0, none⟩), .pointer (some ⟨fb, 0, none⟩)]]) [.func (.func 81) #[] #[.pointer (some ⟨sb, 0, none⟩), .pointer (some ⟨ob, 0, none⟩), .pointer (some ⟨gb, 0, none⟩), .pointer (some ⟨fb, 0, none⟩)]] 1 rfl rfl rfl (by simp [opv, nth, plainEv, avCells, vs]; try rfl) rfl rfl rfl (Nat.le_of_ble_eq_true rfl) rfl rfl ?_
 (first | refine wXB ?_ | exact wZB)
 refine LdN.one (a := some ⟨fb, 0, none⟩) (q := 0) (.func (.func 81) #[] #[.pointer (some ⟨sb, 0, none⟩), .pointer (some ⟨ob, 0, none⟩), .pointer (some ⟨gb, 0, none⟩), .pointer (some ⟨fb, 0, none⟩)]) rfl (fun w hw => hw.2.2.2.2.2.1) rfl ?_
 (first | refine wXB ?_ | exact wZB)
 refine SpecH.args (args' := rcA i sb ob gb fb) (by simp [rcA, pvs, opvs, opv, nth, plainEv]; try rfl) ?_
 refine SpecH.pad [.app 3 1 [] none 0 0] rfl ?_
 refine SpecH.turn [.fact (GrF a l), .fact (rcF a ca l sb ob gb fb mb), .mp mb #[] 0, .dead, .app 22 1 [.slice none 0 0] (some ⟨ob, 0, none⟩) 1 1, .dead, .app 3 1 [] none 0 0] ⟨.inr (.inl rfl), .inr (.inr ⟨_, rfl, fun w hw => ⟨hw.1, hw.2.2.1, hw.2.1, hw.2.2.2.1⟩⟩), .inr (.inl rfl), .inl rfl, .inr (.inl rfl), .inl rfl, .inr (.inl rfl), trivial⟩ ?_
 have hfr := free_le (l.map (·.c)) []
 have hgl : (l.map (·.c)).length = l.length := by simp
 have hl := hs.1
 refine callG (rwalk_c a ca l ha hs hok hg sb ob gb fb mb ((l.map (·.c)).length + 1) [] ⟨#[], 0, ⟨none, 0⟩⟩ i hi (by omega) (by simp only [List.length_nil]; omega) ⟨rfl, fun _ => ⟨rfl, rfl⟩, Nat.le_refl _, fun _ => rfl⟩) [2, 4, 6, 1] rfl ⟨rfl, rfl, rfl, rfl, trivial⟩ rfl fun ⟨es, c, ⟨ob2, oc⟩⟩ hst => ?_
 obtain ⟨_, h2⟩ := hst
 have hL : reachF (l.map (·.c)) ((l.map (·.c)).length + 1) [] i = reachL (l.map (·.c)) i := rfl
 rw [hL] at h2 ⊢
 generalize reachL (l.map (·.c)) i = L at *
 (first | refine wX ?_ | exact wZ)
 refine LdN.one (a := some ⟨ob, 0, none⟩) (q := 0) (.slice (at0 ob2) L.length oc) rfl (fun w hw => hw.2.2.2.1) rfl ?_
 (first | refine wX ?_ | exact wZ)
 refine fin_p (SlAt (at0 ob2) (L.length * 1) (iC L)) ⟨_, _, rfl, fun h => ?_, fun w hw => hw⟩ fun w hw => ?_
 ·cases ob2 with
  | none => exact List.eq_nil_of_length_eq_zero (h2.1 rfl).1
  | some b => cases h
 ·exact hw.2.2.2.2.1
end Go.Proofs.YtgogonnnojcioaaGreatDoor

/-
 Contracts: slices.ContainsFunc of numbers, by a closure that writes a map; circular (program).
-/
namespace Go.Core
end Go.Core
namespace Go.Proofs.YtgogonnnojcioaaGreatDoor
open Go.AX Go.RowKit Go.Core
set_option maxRecDepth 20000

def colour (u d : List Int) (i : Int) : Int := if i ∈ u then 1 else if i ∈ d then 2 else 0
def okC (u d : List Int) (st : Array MapEntry × Nat) : Prop := ∃ R : List (Int × Value), KeysAre (fun k : Int => .int .i64 k) st.1.toList R ∧ ∀ i, (R.lookup i).getD (.int .i64 0) = .int .i64 (colour u d i)
end Go.Proofs.YtgogonnnojcioaaGreatDoor

/-
 Contract: how deep (program).
-/
namespace Go.Proofs.YtgogonnnojcioaaGreatDoor
open Go.AX Go.RowKit Go.Core
set_option maxRecDepth 20000

end Go.Proofs.YtgogonnnojcioaaGreatDoor

/-
 Contract: the document's list of pairs (equal).
-/
namespace Go.Core
def idxP (n : Nat) (p : Int × Int) : Nat := p.1.toNat * n + p.2.toNat
theorem idxP_lt {g : List Cell} {p : Int × Int} (h : InP g p) : idxP g.length p < g.length * g.length := by
 obtain ⟨⟨h1, h2⟩, h3, h4⟩ := h
 unfold idxP
 have : (p.1.toNat + 1) * g.length ≤ g.length * g.length := Nat.mul_le_mul_right _ (by omega)
 rw [Nat.add_mul, Nat.one_mul] at this
 omega
theorem idxP_inj {g : List Cell} {p q : Int × Int} (hp : InP g p) (hq : InP g q) (h : idxP g.length p = idxP g.length q) : p = q := by
 obtain ⟨⟨a1, a2⟩, a3, a4⟩ := hp
 obtain ⟨⟨b1, b2⟩, b3, b4⟩ := hq
 unfold idxP at h
 have m1 : (p.1.toNat * g.length + p.2.toNat) % g.length = p.2.toNat := by rw [Nat.mul_add_mod_self_right]; exact Nat.mod_eq_of_lt (by omega)
 have m2 : (q.1.toNat * g.length + q.2.toNat) % g.length = q.2.toNat := by rw [Nat.mul_add_mod_self_right]; exact Nat.mod_eq_of_lt (by omega)
 have hz : p.2.toNat = q.2.toNat := by rw [← m1, ← m2, h]
 have hx : p.1.toNat = q.1.toNat := Nat.eq_of_mul_eq_mul_right (show 0 < g.length by omega) (by omega)
 exact Prod.ext (by omega) (by omega)
structure SeenS (g : List Cell) (l : List (Int × Int)) (S : List Bool) : Prop where
 len : S.length = g.length * g.length
 get : ∀ p, InP g p → S[idxP g.length p]? = some (decide (p ∈ l))
theorem SeenS.none (g : List Cell) : SeenS g [] (List.replicate (g.length * g.length) false) := ⟨by simp, fun p hp => by rw [List.getElem?_replicate, if_pos (idxP_lt hp)]; simp⟩
theorem SeenS.put {g : List Cell} {l : List (Int × Int)} {S : List Bool} (h : SeenS g l S) {p : Int × Int} (hp : InP g p) : SeenS g (l ++ [p]) (S.set (idxP g.length p) true) := by
 refine ⟨by rw [List.length_set, h.len], fun q hq => ?_⟩
 by_cases e : q = p
 ·subst e
  rw [List.getElem?_set_self (by rw [h.len]; exact idxP_lt hq)]
  simp
 ·rw [List.getElem?_set_ne (fun he => e (idxP_inj hp hq he).symm), h.get q hq]
  simp [e]
end Go.Core
namespace Go.Proofs.YtgogonnnojcioaaGreatDoor
open Go.AX Go.RowKit Go.Core
set_option maxRecDepth 20000

end Go.Proofs.YtgogonnnojcioaaGreatDoor

/-
 Contracts: OneKey, Equal (document), OneKey (program); CoreEquals (law).
-/
namespace Go.Core
end Go.Core
namespace Go.Proofs.YtgogonnnojcioaaGreatDoor
open Go.AX Go.RowKit Go.Core
set_option maxRecDepth 20000

theorem ask_bool (g : List Cell) (cs : List Int) : ∃ b : Bool, b = true ↔ AskP g cs := by
 by_cases h : AskP g cs
 ·exact ⟨true, fun _ => h, fun _ => rfl⟩
 ·exact ⟨false, (fun h => by cases h), fun h2 => absurd h2 h⟩
end Go.Proofs.YtgogonnnojcioaaGreatDoor

/-
 Contracts: Reach, Circular, Depth (program).
-/
namespace Go.Proofs.YtgogonnnojcioaaGreatDoor
open Go.AX Go.RowKit Go.Core
set_option maxRecDepth 20000

set_option maxHeartbeats 4000000 in
theorem Reach_c {a : Option Addr} (ca : Nat) {l : List CellP} (ha : a = none → l = []) (hs : Small l) (hok : ∀ p ∈ l, CellOk p) (u : Int) :
  ∃ e : Bool, (e = true ↔ AskP (l.map (·.c)) [u]) ∧ SpecF Tryz.prog 33 [.slice a l.length ca, .int .i64 u] (GrF a l) (IntE e (if e then reachL (l.map (·.c)) u else [])) := by
 obtain ⟨e, he⟩ := ask_bool (l.map (·.c)) [u]
 refine ⟨e, he, ?_⟩
 refine specF hm Tryz.func33 (by kernel_rfl) rfl rfl ?_
 (first | refine wXR ?_ | exact wZR)
 refine RwN.known [.int .i64 u] rfl fun rb => ?_
 (first | refine wXR ?_ | exact wZR)
 obtain ⟨t, ht1, ht2⟩ := asked_c a ca l ha hs hok (some ⟨rb, 0, none⟩) 1 [u] (fun h => by cases h) (by simp) [.fact (GrF a l), .app 3 1 [.int .i64 u] (some ⟨rb, 0, none⟩) 1 1] (fun w hw => ⟨hw.1, hw.2.1⟩)
 obtain rfl : t = e := by rw [Bool.eq_iff_iff, ht1, he]
 refine call1 ht2 ?_
 cases t with
 | false =>
  (first | refine wX ?_ | exact wZ)
  exact fin_p (fun _ => True) ⟨_, _, rfl, fun _ => rfl, fun w _ => SlAt.nil⟩ fun w hw => trivial
 | true =>
  have hask := he.1 rfl
  have hin := valid_in hask.1
  (first | refine wX ?_ | exact wZ)
  refine SpecF.call (reach_c ca ha hs hok hin u (hask.2 u (by simp))) (fun w hw => hw.1) fun v G hv => ?_
  obtain ⟨oa, oc, rfl, hoa, hG⟩ := hv
  (first | refine wX ?_ | exact wZ)
  exact fin_p G ⟨oa, oc, rfl, hoa, hG⟩ fun w hw => hw.2.2.1
end Go.Proofs.YtgogonnnojcioaaGreatDoor

/-
 AX, fifty-eighth text: maps with texts as keys; v, ok := m[k]; len of a map.
-/
namespace Go.AX

theorem bs_inj2 {a b : List UInt8} (h : bs a = bs b) : a = b := by
 have := congrArg (fun x : ByteArray => x.data.toList) h
 simpa [bs] using this
theorem bs_beq (a b : List UInt8) : (bs a == bs b) = decide (a = b) := by
 rw [Bool.eq_iff_iff, MapKept.bytes_beq, decide_eq_true_eq]
 exact ⟨bs_inj2, fun h => by rw [h]⟩
theorem findNow_seekS (k : List UInt8) : ∀ (es : List MapEntry) (R : List (List UInt8 × Value)) (i : Nat), KeysAre (fun k => .string (bs k)) es R → Instr.findNow .string (.string (bs k)) es i = some (seek k R i)
 | [], [], _, _ => rfl
 | [], _ :: _, _, h => by cases h
 | _ :: _, [], _, h => by cases h
 | e :: es, (q, x) :: R, i, h => by
  unfold KeysAre at h
  simp only [List.map_cons, List.cons.injEq, Prod.mk.injEq] at h
  have ih := findNow_seekS k es R (i + 1) h.2
  unfold seek
  rw [Instr.findNow, h.1.1]
  have hb := bs_beq k q
  by_cases hk : k = q
  ·subst hk
   rw [decide_eq_true rfl] at hb
   simp [Instr.sameNow, h.1.2, hb]
  ·rw [decide_eq_false hk] at hb
   simp [Instr.sameNow, hb, hk, ih]
theorem strKeyT {P : Program} {kt : TypeId} (h : P.underlying kt = some .string) : KeyT P kt (fun k : List UInt8 => .string (bs k)) where
 check := fun w e k => MapKept.run_checkKey (k := .string (bs k)) h (by simp [MapKept.IsKey]) e 9999
 find := fun w k es R hr => MapKept.run_findKey h (findNow_seekS k es R 0 hr)
 stay := fun w k => MapKept.run_keyThatStays (d := .string) (k := .string (bs k)) (by simp [MapKept.IsKey])
section
variable {P : Program} {o : Oper} {s : List AV} {H : List Ent} {t kt et : TypeId} {m k : Operand} {b c : Nat} {es : Array MapEntry} {α : Type} [DecidableEq α] {enc : α → Value} {p : α}
theorem ReadW.askKey {K : AV → Prop} {inf : TypeInfo} {z : Value} (R : List (α × Value)) (ho : o.op = .lookup t m k true) (ht : P.underlying t = some (.map kt et)) (hkt : KeyT P kt enc) (hi : P.info? et = some inf) (hz : inf.zero = some z)
  (hm : opv s m = .c (.v (.map (some b)))) (hk : opv s k = .c (.v (enc p))) (hF : ∀ w, Facts H w → w.heap[b]? = some (.map es c)) (hf : KeysAre enc es.toList R) (h : K (.c (.v (.tuple #[(R.lookup p).getD z, .bool (R.lookup p).isSome])))) : ReadW P o s H K :=
 ReadW.val (.tuple #[(R.lookup p).getD z, .bool (R.lookup p).isSome]) (fun cs b e => by rw [ho] at e; cases e) (by rw [ho]; show allPlain s [m, k] = true; simp [allPlain, hm, hk]) (fun w hw => by
  have hb := hF w hw
  have hc := hkt.check w es.isEmpty p
  have hj := hkt.find w p es.toList R hf
  have hlk := seek_look p R 0
  have hrun : (Instr.lookup t (.map (some b)) (enc p) true).run P w = .ok (.tuple #[(R.lookup p).getD z, .bool (R.lookup p).isSome]) w := by
   cases hr : seek p R 0 with
   | none => rw [hr] at hj hlk; rw [← hlk]; simp [Instr.lookup, run_underlying ht, MapKept.run_getObj_map hb, hc, hj, Result.andThen, run_zeroValue hi hz]
   | some q => rw [hr] at hj hlk; rw [← hlk]; simp [Instr.lookup, run_underlying ht, MapKept.run_getObj_map hb, hc, hj, Result.andThen]
  unfold execOp
  simp only [ho, plainEv_v hm, plainEv_v hk, Sem.run_bind, hrun, Result.andThen_ok, Sem.run_pure]) h
theorem ReadW.mapLen {K : AV → Prop} {x : Operand} {args : Array Operand} {ts : Array TypeId} (n : Nat) (ho : o.op = .call { callee := .builtin .len, args := args, argTypes := ts }) (ha : args = #[x]) (hts : ts = #[t]) (ht : P.underlying t = some (.map kt et))
  (hm : opv s x = .c (.v (.map (some b)))) (hF : ∀ w, Facts H w → w.heap[b]? = some (.map es c)) (hn : es.size = n) (h : K (.c (.v (.int .i64 (n : Int))))) : ReadW P o s H K := by
 subst ha hts
 refine ReadW.val (.int .i64 (n : Int)) (fun cs b e => by rw [ho] at e; cases e) (by rw [ho]; show allPlain s [x] = true; simp [allPlain, hm]) (fun w hw => execOp_blt ho fun consts => ?_) h
 have hb := hF w hw
 have e1 : plainEv s x = .map (some b) := plainEv_v hm
 simp [builtin, Builtin.len_, run_underlying ht, e1, MapKept.run_getObj_map hb, goInt, hn, Result.andThen]
end
theorem KeysAre.len {α : Type} {enc : α → Value} {es : List MapEntry} {R : List (α × Value)} (h : KeysAre enc es R) : es.length = R.length := by
 have := congrArg List.length h
 simpa using this
end Go.AX

/-
 Contracts: the strings.Builder within a writer of one's own (marshal).
-/
namespace Go.Proofs.YtgogonnnojcioaaGreatDoor
open Go.AX Go.RowKit Go.Core Go.Marshal
set_option maxRecDepth 20000

def bM (u : Bool) : CV := match u with | true => .lp 0 1 | false => .v (.pointer none)
structure MapP where
 ce : Array MapEntry
 cc : Nat
 se : Array MapEntry
 sc : Nat
def wM (gv : Value) (F : World → Prop) (u : Bool) (out : List UInt8) (i : BSt) (mb sb : Nat) (q : MapP) : List Ent :=
 [.blk 69 [.v gv, bM u, .v (.slice (at0 i.ob) out.length i.cap), .v (.map (some mb)), .v (.map (some sb))], .app 5 1 (u8s out) (at0 i.ob) out.length i.cap, .mp mb q.ce q.cc, .mp sb q.se q.sc, .fact F]
theorem wM_ok (gv : Value) (F : World → Prop) (u : Bool) (out : List UInt8) (i : BSt) (mb sb : Nat) (q : MapP) : okH (wM gv F u out i mb sb q).length (wM gv F u out i mb sb q) := by cases u <;> exact okHB_eq rfl
variable (gv : Value) (F : World → Prop) (mb sb : Nat) (q : MapP)

theorem copyCheck_m (u : Bool) (out : List UInt8) (i : BSt) : SpecH Tryz.prog 55 [.c (.lp 0 1)] (wM gv F u out i mb sb q) (RetG (ι := Unit) (fun _ => True) (fun _ => .tuple #[]) fun _ => wM gv F true out i mb sb q) := by
 refine ownC hm Tryz.func55 (by kernel_rfl) rfl rfl (fun _ _ => wM_ok _ _ _ _ _ _ _ _) (fun _ _ => Nat.le_refl _) ?_
 cases u with
 | false =>
  (first | refine wX ?_ | exact wZ)
  refine ReadW.toUnsafe 67 rfl (by kernel_rfl) (by kernel_rfl) (by kernel_rfl) rfl rfl (Nat.succ_lt_succ (Nat.zero_lt_succ _)) ?_
  (first | refine wX ?_ | exact wZ)
  refine EffW.ext (e := Extern.AbiNoEscape.same) rfl Tryz.func82 (by kernel_rfl) (by kernel_rfl) (by kernel_rfl) (by kernel_rfl) (.c (.lp 0 1)) ?_ ?_
  ·(first | refine wX ?_ | exact wZ)
   refine ReadW.fromUnsafe 67 rfl (by kernel_rfl) (by kernel_rfl) (by kernel_rfl) rfl rfl (by show liesAt _ _ _ (5 / _) _ _ _ = true; kernel_rfl) ?_
   (first | refine wX ?_ | exact wZ)
   exact ⟨(), trivial, rfl, wkH_refl _⟩
  ·intro ρ vs hr
   match vs, hr with
   | [v], hr => exact ⟨v, hr.1, fun w => rfl⟩
   | [], hr => exact hr.elim
   | _ :: _ :: _, hr => exact hr.2.elim
 | true =>
  (first | refine wX ?_ | exact wZ)
  refine ReadW.lp_nil rfl (by kernel_rfl) rfl rfl false (.inl ⟨rfl, rfl⟩) ?_
  (first | refine wX ?_ | exact wZ)
  refine ReadW.lp_same rfl (by kernel_rfl) rfl rfl false (.inr ⟨rfl, rfl⟩) ?_
  (first | refine wX ?_ | exact wZ)
  exact ⟨(), trivial, rfl, wkH_refl _⟩
theorem WriteString_m (u : Bool) (l x : List UInt8) (i0 : BSt) (ok : i0.ok l.length) (room : l.length + x.length ≤ 140737488355328) : SpecH Tryz.prog 34 [.c (.lp 0 1), .c (.v (.string (bs x)))] (wM gv F u l i0 mb sb q)
  (RetG (ι := BSt) (fun i => i.ok (l ++ x).length) (fun _ => .tuple #[.int .i64 x.length, .nilIface]) fun i => wM gv F true (l ++ x) i mb sb q) := by
 refine ownC hm Tryz.func34 (by kernel_rfl) rfl rfl (fun _ _ => wM_ok _ _ _ _ _ _ _ _) (fun _ _ => Nat.le_refl _) ?_
 cases u with
 | false =>
  (first | refine wX ?_ | exact wZ)
  refine callG (copyCheck_m gv F mb sb q false l i0) [0, 1, 2, 3, 4] rfl ⟨rfl, rfl, rfl, rfl, rfl, trivial⟩ rfl fun _ _ => ?_
  (first | refine wX ?_ | exact wZ)
  refine EffW.appStr 1 rfl rfl rfl (by kernel_rfl) (by kernel_rfl) (by kernel_rfl) rfl rfl rfl (by rw [bs_size]; exact room) fun ob' cap' h1 h2 h3 => ?_
  rw [bs_size, bs_list] at *
  (first | refine wX ?_ | exact wZ)
  refine ⟨⟨ob', cap'⟩, ⟨by simpa using h1, by simpa using h2, fun h => ?_⟩, by rw [bs_size], ?_⟩
  ·obtain ⟨h4, h5⟩ := h3 h
   have := ok.2.2 h4
   rw [this] at h5
   cases ob' with
   | none => rfl
   | some _ => cases h5
  ·exact wkH_of_eq (by simp [wM, u8s, bM, rnC, rnCs, rnI, rnE])
 | true =>
  (first | refine wX ?_ | exact wZ)
  refine callG (copyCheck_m gv F mb sb q true l i0) [0, 1, 2, 3, 4] rfl ⟨rfl, rfl, rfl, rfl, rfl, trivial⟩ rfl fun _ _ => ?_
  (first | refine wX ?_ | exact wZ)
  refine EffW.appStr 1 rfl rfl rfl (by kernel_rfl) (by kernel_rfl) (by kernel_rfl) rfl rfl rfl (by rw [bs_size]; exact room) fun ob' cap' h1 h2 h3 => ?_
  rw [bs_size, bs_list] at *
  (first | refine wX ?_ | exact wZ)
  refine ⟨⟨ob', cap'⟩, ⟨by simpa using h1, by simpa using h2, fun h => ?_⟩, by rw [bs_size], ?_⟩
  ·obtain ⟨h4, h5⟩ := h3 h
   have := ok.2.2 h4
   rw [this] at h5
   cases ob' with
   | none => rfl
   | some _ => cases h5
  ·exact wkH_of_eq (by simp [wM, u8s, bM, rnC, rnCs, rnI, rnE])
theorem String_m (u : Bool) (l : List UInt8) (i0 : BSt) (ok : i0.ok l.length) : SpecH Tryz.prog 36 [.c (.lp 0 1)] (wM gv F u l i0 mb sb q)
  (RetG (ι := Unit) (fun _ => True) (fun _ => .string (bs l)) fun _ => [.dead, .dead, .dead, .dead, .fact F]) := by
 refine ownC hm Tryz.func36 (by kernel_rfl) rfl rfl (fun _ _ => ⟨trivial, trivial, trivial, trivial, trivial, trivial⟩) (fun _ _ => Nat.le_refl _) ?_
 (first | refine wX ?_ | exact wZ)
 refine DrawN.plan [0, 5] [(1, 1), (2, 1), (3, 1), (4, 1), (6, 1), (7, 1), (8, 1), (9, 1)] [(10, 0), (11, 0)] (by decide +kernel) ?_
 (first | refine wX ?_ | exact wZ)
 refine ReadW.sliceData rfl rfl rfl (fun h h2 => h (ok.2.2 h2)) ?_
 (first | refine wX ?_ | exact wZ)
 refine EffW.usStr 1 l rfl rfl rfl rfl (by kernel_rfl) (by kernel_rfl) rfl rfl rfl ?_
 (first | refine wX ?_ | exact wZ)
 exact ⟨(), trivial, rfl, trivial, trivial, trivial, trivial, fun _ h => h, trivial⟩
theorem WriteByte_m (u : Bool) (l : List UInt8) (x : UInt8) (i0 : BSt) (room : l.length + 1 ≤ 140737488355328) : SpecH Tryz.prog 56 [.c (.lp 0 1), .c (.v (.int .u8 (x.toNat : Int)))] (wM gv F u l i0 mb sb q)
  (RetG (ι := BSt) (fun i => i.ok (l ++ [x]).length) (fun _ => .nilIface) fun i => wM gv F true (l ++ [x]) i mb sb q) := by
 refine ownC hm Tryz.func56 (by kernel_rfl) rfl rfl (fun _ _ => wM_ok _ _ _ _ _ _ _ _) (fun _ _ => Nat.le_refl _) ?_
 cases u with
 | false =>
  (first | refine wX ?_ | exact wZ)
  refine callG (copyCheck_m gv F mb sb q false l i0) [0, 1, 2, 3, 4] rfl ⟨rfl, rfl, rfl, rfl, rfl, trivial⟩ rfl fun _ _ => ?_
  (first | refine wX ?_ | exact wZ)
  refine Nd.mk ⟨by omega, rfl, rfl⟩ ?_
  (conv => whnf)
  refine AppN.grow 1 (u8s l) _ rfl rfl ⟨by omega, ⟨by show (_ + 1) * 1 ≤ _; omega, by omega⟩, by decide⟩ fun b' cap' h1 h2 => ?_
  (first | refine wX ?_ | exact wZ)
  have e1 : u8s l ++ [.int .u8 (x.toNat : Int)] = u8s (l ++ [x]) := by simp [u8s]
  have e2 : l.length + 1 = (l ++ [x]).length := by simp
  rw [e1, e2]
  exact ⟨⟨some b', cap'⟩, ⟨(fun h => by cases h), by simpa using h1, fun h => by have h : cap' = 0 := h; omega⟩, rfl, wkE_refl _, wkE_refl _, wkE_refl _, wkE_refl _, wkE_refl _, trivial⟩
 | true =>
  (first | refine wX ?_ | exact wZ)
  refine callG (copyCheck_m gv F mb sb q true l i0) [0, 1, 2, 3, 4] rfl ⟨rfl, rfl, rfl, rfl, rfl, trivial⟩ rfl fun _ _ => ?_
  (first | refine wX ?_ | exact wZ)
  refine Nd.mk ⟨by omega, rfl, rfl⟩ ?_
  (conv => whnf)
  refine AppN.grow 1 (u8s l) _ rfl rfl ⟨by omega, ⟨by show (_ + 1) * 1 ≤ _; omega, by omega⟩, by decide⟩ fun b' cap' h1 h2 => ?_
  (first | refine wX ?_ | exact wZ)
  have e1 : u8s l ++ [.int .u8 (x.toNat : Int)] = u8s (l ++ [x]) := by simp [u8s]
  have e2 : l.length + 1 = (l ++ [x]).length := by simp
  rw [e1, e2]
  exact ⟨⟨some b', cap'⟩, ⟨(fun h => by cases h), by simpa using h1, fun h => by have h : cap' = 0 := h; omega⟩, rfl, wkE_refl _, wkE_refl _, wkE_refl _, wkE_refl _, wkE_refl _, trivial⟩
end Go.Proofs.YtgogonnnojcioaaGreatDoor

/-
 Contracts: the writer's texts and symbols (marshal).
-/
namespace Go.Marshal
def idxR {α : Type} (l : List α) : List (α × Value) := l.zipIdx.map fun p => (p.1, .int .i64 (p.2 : Int))
theorem beq_inst {α : Type} [DecidableEq α] [B : BEq α] [LawfulBEq α] : B = instBEqOfDecidableEq := by
 have h : ∀ a b, @BEq.beq α B a b = decide (a = b) := fun a b => by rw [Bool.eq_iff_iff]; simp
 cases B with
 | mk f => exact congrArg BEq.mk (funext fun a => funext fun b => h a b)
theorem idxR_look0 {α : Type} [DecidableEq α] (l : List α) (x : α) : (idxR l).lookup x = if x ∈ l then some (.int .i64 (l.idxOf x : Int)) else none := by
 unfold idxR
 have key : ∀ (l : List α) (k : Nat), ((l.zipIdx k).map fun p => (p.1, Value.int .i64 (p.2 : Int))).lookup x = if x ∈ l then some (.int .i64 ((l.idxOf x + k : Nat) : Int)) else none := by
  intro l
  induction l with
  | nil => intro k; rfl
  | cons y l ih =>
   intro k
   rw [List.zipIdx_cons, List.map_cons, List.lookup_cons, List.idxOf_cons]
   by_cases h : x = y
   ·subst h
    simp
   ·have h1 : (x == y) = false := by simpa using h
    have h2 : (y == x) = false := by simpa using fun e => h e.symm
    rw [h1, h2, ih (k + 1)]
    simp only [List.mem_cons, h, false_or, cond_false]
    split
    ·congr 2; omega
    ·rfl
 have := key l 0
 simpa using this
theorem idxR_look {α : Type} [D : DecidableEq α] [B : BEq α] [LawfulBEq α] (l : List α) (x : α) : @List.lookup α Value (@instBEqOfDecidableEq α D) x (idxR l) = if x ∈ l then some (.int .i64 (@List.idxOf α B x l : Int)) else none := by
 have e := beq_inst (B := B)
 subst e
 rw [idxR_look0]
theorem upd_new {α : Type} [DecidableEq α] (x : α) (v : Value) : ∀ R : List (α × Value), (∀ p ∈ R, p.1 ≠ x) → Go.AX.upd x v R = R ++ [(x, v)]
 | [], _ => rfl
 | (y, u) :: R, h => by
  unfold Go.AX.upd
  rw [if_neg (fun e => h (y, u) (by simp) e.symm), upd_new x v R fun p hp => h p (by simp [hp])]
  rfl
theorem idxR_put {α : Type} [DecidableEq α] {l : List α} {x : α} (h : x ∉ l) : Go.AX.upd x (.int .i64 (l.length : Int)) (idxR l) = idxR (l ++ [x]) := by
 rw [upd_new]
 ·unfold idxR
  rw [List.zipIdx_append, List.map_append]
  simp
 ·intro p hp e
  unfold idxR at hp
  obtain ⟨q, hq, rfl⟩ := List.mem_map.1 hp
  have := List.mem_zipIdx hq
  exact h (by rw [← e]; simp only [Nat.zero_add, Nat.sub_zero] at this; rw [this.2.2]; exact List.getElem_mem _)
theorem idxR_len {α : Type} (l : List α) : (idxR l).length = l.length := by unfold idxR; simp
end Go.Marshal
namespace Go.Proofs.YtgogonnnojcioaaGreatDoor
open Go.AX Go.RowKit Go.Core Go.Marshal
set_option maxRecDepth 20000

theorem strT : KeyT Tryz.prog 9 (fun k : List UInt8 => .string (bs k)) := strKeyT (by kernel_rfl)
structure WOk (w : Wr) (x : BSt × MapP) : Prop where
 b : x.1.ok w.out.length
 c : KeysAre (fun k : Int => .int .i64 k) x.2.ce.toList (idxR w.cells)
 s : KeysAre (fun k : List UInt8 => .string (bs k)) x.2.se.toList (idxR w.ss)
variable (gv : Value) (F : World → Prop) (mb sb : Nat)
def wOut (w : Wr) : Out → List Ent → Prop := RetG (ι := BSt × MapP) (fun x => WOk w x) (fun _ => .tuple #[]) fun x => wM gv F true w.out x.1 mb sb x.2
theorem text_m (w : Wr) (t : List UInt8) (i : BSt) (q : MapP) (ho : WOk w (i, q)) (hl : w.out.length ≤ 200000000000) (ht : t.length ≤ 100000000000) :
  SpecH Tryz.prog 59 [.c (.lp 0 0), .c (.v (.string (bs t)))] (wM gv F true w.out i mb sb q) (wOut gv F mb sb (putW w (num t.length ++ t))) := by
 refine ownC hm Tryz.func59 (by kernel_rfl) rfl rfl (fun _ _ => wM_ok _ _ _ _ _ _ _ _) (fun _ _ => Nat.le_refl _) ?_
 (first | refine wXD ?_ | exact wZD)
 refine DrawN.planQ [0, 3, 6] [1, 2, 4, 5, 7] [(8, 0)] (by decide +kernel) ?_
 (first | refine wXD ?_ | exact wZD)
 have hnl := num_len (n := t.length) (by omega)
 rw [bs_size]
 refine callQ (wide_c t.length (by omega) _) ?_
 (first | refine wXD ?_ | exact wZD)
 refine Nd.mk (by rw [bs_size, bs_size]; omega) ?_
 rw [bs_app]
 (first | refine wXD ?_ | exact wZD)
 refine callG (WriteString_m gv F mb sb (q) true (w.out) (num t.length ++ t) i ho.b (by first | omega | (simp; omega))) [0, 1, 2, 3, 4] rfl ⟨rfl, rfl, rfl, rfl, rfl, trivial⟩ rfl fun i2 hi2 => ?_
 (first | refine wXD ?_ | exact wZD)
 exact ⟨(i2, q), ⟨hi2, ho.c, ho.s⟩, rfl, wkE_refl _, wkE_refl _, wkE_refl _, wkE_refl _, wkE_refl _, trivial⟩
theorem symbol_m (w : Wr) (t : List UInt8) (i : BSt) (q : MapP) (ho : WOk w (i, q)) (hl : w.out.length ≤ 100000000000) (ht : t.length ≤ 100000000000) (hs : w.ss.length ≤ 100000000000) :
  SpecH Tryz.prog 58 [.c (.lp 0 0), .c (.v (.string (bs t)))] (wM gv F true w.out i mb sb q) (wOut gv F mb sb (symW w t)) := by
 refine ownC hm Tryz.func58 (by kernel_rfl) rfl rfl (fun _ _ => wM_ok _ _ _ _ _ _ _ _) (fun _ _ => Nat.le_refl _) ?_
 (first | refine wXD ?_ | exact wZD)
 refine ReadW.askKey (et := 3) (p := t) (idxR w.ss) rfl (by kernel_rfl) strT rfl rfl rfl rfl (fun w hw => hw.2.2.1) ho.s ?_
 rw [idxR_look]
 by_cases h : t ∈ w.ss
 ·have hi := List.idxOf_lt_length_iff.2 h
  rw [if_pos h, show symW w t = putW w (59 :: num (w.ss.idxOf t)) by unfold symW; rw [if_pos h]]
  generalize w.ss.idxOf t = k at hi ⊢
  (first | refine wXD ?_ | exact wZD)
  refine DrawN.planQ [0, 3] [1, 2, 4, 5] [(6, 0)] (by decide +kernel) ?_
  (first | refine wXD ?_ | exact wZD)
  have hnl := num_len (n := k) (by omega)
  refine callQ (wide_c k (by omega) _) ?_
  (first | refine wXD ?_ | exact wZD)
  refine Nd.mk (by rw [bs_size]; show 1 + _ < _; omega) ?_
  rw [show (⟨#[59]⟩ : ByteArray) = bs [59] from rfl, bs_app]
  (first | refine wXD ?_ | exact wZD)
  refine callG (WriteString_m gv F mb sb (q) true (w.out) ([59] ++ num k) i ho.b (by first | omega | (simp; omega))) [0, 1, 2, 3, 4] rfl ⟨rfl, rfl, rfl, rfl, rfl, trivial⟩ rfl fun i2 hi2 => ?_
  (first | refine wXD ?_ | exact wZD)
  exact ⟨(i2, q), ⟨hi2, ho.c, ho.s⟩, rfl, wkE_refl _, wkE_refl _, wkE_refl _, wkE_refl _, wkE_refl _, trivial⟩
 ·rw [if_neg h, show symW w t = ⟨w.out ++ (58 :: (num t.length ++ t)), w.cells, w.ss ++ [t]⟩ by unfold symW; rw [if_neg h], show (⟨w.out ++ (58 :: (num t.length ++ t)), w.cells, w.ss ++ [t]⟩ : Wr) = putW ⟨w.out ++ [58], w.cells, w.ss ++ [t]⟩ (num t.length ++ t) by unfold putW; simp]
  (first | refine wXD ?_ | exact wZD)
  refine DrawN.planQ [0, 4, 5] [1, 2, 3, 6, 7, 8, 9] [(10, 0)] (by decide +kernel) ?_
  (first | refine wXD ?_ | exact wZD)
  refine ReadW.mapLen (kt := 9) (et := 3) w.ss.length rfl rfl rfl (by kernel_rfl) rfl (fun w hw => hw.2.2.1) (by rw [← Array.length_toList, ho.s.len, idxR_len]) ?_
  (first | refine wXD ?_ | exact wZD)
  refine EffW.setMap (et := 3) (p := t) 3 (idxR w.ss) rfl (by kernel_rfl) strT rfl rfl rfl rfl ho.s fun es2 c2 hk2 => ?_
  rw [idxR_put h] at hk2
  (first | refine wXD ?_ | exact wZD)
  refine callG (WriteString_m gv F mb sb (⟨q.ce, q.cc, es2, c2⟩) true (w.out) ([58]) i ho.b (by first | omega | (simp; omega))) [0, 1, 2, 3, 4] rfl ⟨rfl, rfl, rfl, rfl, rfl, trivial⟩ rfl fun i2 hi2 => ?_
  (first | refine wXD ?_ | exact wZD)
  refine callG (text_m gv F mb sb ⟨w.out ++ [58], w.cells, w.ss ++ [t]⟩ t i2 ⟨q.ce, q.cc, es2, c2⟩ ⟨hi2, ho.c, hk2⟩ (by show (w.out ++ [58]).length ≤ _; simp; omega) ht) [0, 1, 2, 3, 4] rfl ⟨rfl, rfl, rfl, rfl, rfl, trivial⟩ rfl fun x hx => ?_
  (first | refine wXD ?_ | exact wZD)
  exact ⟨x, hx, rfl, wkE_refl _, wkE_refl _, wkE_refl _, wkE_refl _, wkE_refl _, trivial⟩
end Go.Proofs.YtgogonnnojcioaaGreatDoor
