/-
  Lemmas (MC16 Ax59 MC15 MC17 MD12 MP16 Ax38 MC18 MC19 MD13 E1 Ax56 P18 E2 E3 Z6 Z7 Z8 Z9 E4 E5 E6 E7 P16 P19 H4 E8).
-/
import Derived.Scope
import Derived.Lib.SlBytesConst
import Derived.Test.YtgogonnnojcioaaGreatDoorMch9
set_option linter.unusedVariables false
set_option linter.unusedSimpArgs false
namespace Go.Proofs.YtgogonnnojcioaaGreatDoor
open Go.AX Go.RowKit Go.Core Go.Marshal
set_option maxRecDepth 20000
theorem ok_leaf {c : Cell} (hn : c.names = []) (hi : c.items = []) (ht : c.text.length ≤ 30000) : CellOk ⟨c, none, 0, none, 0⟩ :=
 ⟨fun _ => hn, fun _ => hi, by rw [hn]; exact Nat.zero_le _, by rw [hi]; exact Nat.zero_le _, (fun s hs => by rw [hn] at hs; cases hs), by show c.text.length ≤ _; omega, by rw [hn]; exact Nat.le_refl _, by rw [hi]; exact Nat.le_refl _⟩
theorem inner_rd (n : Nat) (hc : CellC n) (rb : Nat) (st : PS) (p : RdP) (ok : RdOk st p) (bd : Bd st) (hn : st.s.length < n ∨ st.e ≠ 0) (x : UInt8) (hx : x ∈ begins) : SpecH Tryz.prog 89 [.c (.v (.pointer (some ⟨rb, 0, none⟩))), .c (.v (.int .u8 (x.toNat : Int)))] (rdE rb st p) (RetG (ι := ObP) (fun i => RdOk (innerM (cellM n) x st).2 i.p ∧ CellOk ⟨(innerM (cellM n) x st).1, i.na, i.nc, i.ia, i.ic⟩) (fun i => cellV ⟨(innerM (cellM n) x st).1, i.na, i.nc, i.ia, i.ic⟩) fun i => rdE rb (innerM (cellM n) x st).2 i.p ++ [ownS (innerM (cellM n) x st).1.names i.na i.nc, ownI (innerM (cellM n) x st).1.items i.ia i.ic]) := by
 have bp := bd.pot
 have htk := cell_takes n
 simp only [begins, List.mem_cons, List.not_mem_nil, or_false] at hx
 rcases hx with rfl | rfl | rfl | rfl | rfl | rfl | rfl | rfl | rfl | rfl
 ·refine SpecH.pad [.app 9 1 [] none 0 0, .app 3 1 [] none 0 0] rfl ?_
  refine ownC hm Tryz.func89 (by kernel_rfl) rfl rfl (fun _ _ => okHB_eq rfl) (fun _ _ => Nat.le_of_ble_eq_true rfl) ?_
  refine wX ?_
  exact ⟨⟨p, none, 0, none, 0⟩, ⟨ok, ok_leaf rfl rfl (Nat.zero_le _)⟩, rfl, wkE_refl _, wkE_refl _, wkE_refl _, wkE_refl _, wkE_refl _, wkE_refl _, wkE_refl _, wkH_nil _⟩
 ·refine SpecH.pad [.app 9 1 [] none 0 0, .app 3 1 [] none 0 0] rfl ?_
  refine ownC hm Tryz.func89 (by kernel_rfl) rfl rfl (fun _ _ => okHB_eq rfl) (fun _ _ => Nat.le_of_ble_eq_true rfl) ?_
  refine wX ?_
  exact ⟨⟨p, none, 0, none, 0⟩, ⟨ok, ok_leaf rfl rfl (Nat.zero_le _)⟩, rfl, wkE_refl _, wkE_refl _, wkE_refl _, wkE_refl _, wkE_refl _, wkE_refl _, wkE_refl _, wkH_nil _⟩
 ·refine SpecH.pad [.app 9 1 [] none 0 0, .app 3 1 [] none 0 0] rfl ?_
  refine ownC hm Tryz.func89 (by kernel_rfl) rfl rfl (fun _ _ => okHB_eq rfl) (fun _ _ => Nat.le_of_ble_eq_true rfl) ?_
  refine wX ?_
  exact ⟨⟨p, none, 0, none, 0⟩, ⟨ok, ok_leaf rfl rfl (Nat.zero_le _)⟩, rfl, wkE_refl _, wkE_refl _, wkE_refl _, wkE_refl _, wkE_refl _, wkE_refl _, wkE_refl _, wkH_nil _⟩
 ·have hk := num_keep (2 * maxN) st
  have hmo := num_most (2 * maxN) st
  have hnum := number_m rb st p (2 * maxN) (by decide)
  have e : innerM (cellM n) 105 st = (⟨3, unsgn (numM (2 * maxN) st).1, [], [], []⟩, (numM (2 * maxN) st).2) := rfl
  rw [e]
  clear e
  generalize numM (2 * maxN) st = q at hk hmo hnum ⊢
  obtain ⟨m, s2⟩ := q
  simp only at hk hmo hnum
  have hmo : m ≤ 2000000000000000 := hmo
  refine SpecH.pad [.app 9 1 [] none 0 0, .app 3 1 [] none 0 0] rfl ?_
  refine ownC hm Tryz.func89 (by kernel_rfl) rfl rfl (fun _ _ => okHB_eq rfl) (fun _ _ => Nat.le_of_ble_eq_true rfl) ?_
  refine wX ?_
  refine callG (hnum) [0, 1, 2, 3, 4] rfl ⟨rfl, rfl, rfl, rfl, rfl, trivial⟩ rfl fun _ _ => ?_
  refine wX ?_
  have em : (m : Int).tmod 2 = ((m % 2 : Nat) : Int) := (Int.ofNat_tmod m 2).symm
  have ed : (m : Int).tdiv 2 = ((m / 2 : Nat) : Int) := (Int.ofNat_tdiv m 2).symm
  refine brd_eq (fun h => ?_) (fun h => ?_)
  ·have hu : unsgn m = -(((m + 1) / 2 : Nat) : Int) := by unfold unsgn; rw [if_pos (by omega)]
   refine wX ?_
   rw [show IntKind.i64.wrap ((IntKind.i64.wrap (0 - IntKind.i64.wrap ((m : Int) + 1))).tdiv 2) = unsgn m by
    rw [wrap_i64 (x := (m : Int) + 1) (by omega), wrap_i64 (x := 0 - ((m : Int) + 1)) (by omega), show (0 : Int) - ((m : Int) + 1) = -(((m + 1 : Nat)) : Int) by omega, Int.neg_tdiv, show ((m + 1 : Nat) : Int).tdiv 2 = (((m + 1) / 2 : Nat) : Int) from (Int.ofNat_tdiv (m + 1) 2).symm, wrap_i64 (by omega), hu]]
   exact ⟨⟨p, none, 0, none, 0⟩, ⟨ok.same hk, ok_leaf rfl rfl (Nat.zero_le _)⟩, rfl, wkE_refl _, wkE_refl _, wkE_refl _, wkE_refl _, wkE_refl _, wkE_refl _, wkE_refl _, wkH_nil _⟩
  ·have hu : unsgn m = ((m / 2 : Nat) : Int) := by unfold unsgn; rw [if_neg (by omega)]
   refine wX ?_
   rw [show IntKind.i64.wrap ((m : Int).tdiv 2) = unsgn m by rw [ed, wrap_i64 (by omega), hu]]
   exact ⟨⟨p, none, 0, none, 0⟩, ⟨ok.same hk, ok_leaf rfl rfl (Nat.zero_le _)⟩, rfl, wkE_refl _, wkE_refl _, wkE_refl _, wkE_refl _, wkE_refl _, wkE_refl _, wkE_refl _, wkH_nil _⟩
 ·have hk := text_keep maxN st
  have hl := text_len maxN st
  have ht := text_rd rb st p maxN
  have e : innerM (cellM n) 34 st = (⟨4, 0, (textM maxN st).1, [], []⟩, (textM maxN st).2) := rfl
  rw [e]
  clear e
  generalize textM maxN st = q at hk hl ht ⊢
  obtain ⟨t, s2⟩ := q
  simp only at hk hl ht
  refine SpecH.pad [.app 9 1 [] none 0 0, .app 3 1 [] none 0 0] rfl ?_
  refine ownC hm Tryz.func89 (by kernel_rfl) rfl rfl (fun _ _ => okHB_eq rfl) (fun _ _ => Nat.le_of_ble_eq_true rfl) ?_
  refine wX ?_
  refine callG (ht) [0, 1, 2, 3, 4] rfl ⟨rfl, rfl, rfl, rfl, rfl, trivial⟩ rfl fun _ _ => ?_
  refine wX ?_
  exact ⟨⟨p, none, 0, none, 0⟩, ⟨ok.same hk, ok_leaf rfl rfl (by show t.length ≤ _; omega)⟩, rfl, wkE_refl _, wkE_refl _, wkE_refl _, wkE_refl _, wkE_refl _, wkE_refl _, wkE_refl _, wkH_nil _⟩
 ·have hs := symbol_rd rb 58 st p ok (by omega)
  have ho := fun i hi => ok.sym (by omega) 58 (i := i) hi
  have hl := symM_len 58 st (by omega) ok.sw
  have e : innerM (cellM n) 58 st = (⟨5, 0, (symM 58 st).1, [], []⟩, (symM 58 st).2) := rfl
  rw [e]
  clear e
  generalize symM 58 st = q at hs ho hl ⊢
  obtain ⟨t, s2⟩ := q
  simp only at hs ho hl
  refine SpecH.pad [.app 9 1 [] none 0 0, .app 3 1 [] none 0 0] rfl ?_
  refine ownC hm Tryz.func89 (by kernel_rfl) rfl rfl (fun _ _ => okHB_eq rfl) (fun _ _ => Nat.le_of_ble_eq_true rfl) ?_
  refine wX ?_
  refine callG hs [0, 1, 2, 3, 4] rfl ⟨rfl, rfl, rfl, rfl, rfl, trivial⟩ rfl fun i hi => ?_
  refine wX ?_
  exact ⟨⟨{ p with sa := i.1, sc := i.2 }, none, 0, none, 0⟩, ⟨ho i hi, ok_leaf rfl rfl hl⟩, rfl, wkE_refl _, wkE_refl _, wkE_refl _, wkE_refl _, wkE_refl _, wkE_refl _, wkE_refl _, wkH_nil _⟩
 ·have hs := symbol_rd rb 59 st p ok (by omega)
  have ho := fun i hi => ok.sym (by omega) 59 (i := i) hi
  have hl := symM_len 59 st (by omega) ok.sw
  have e : innerM (cellM n) 59 st = (⟨5, 0, (symM 59 st).1, [], []⟩, (symM 59 st).2) := rfl
  rw [e]
  clear e
  generalize symM 59 st = q at hs ho hl ⊢
  obtain ⟨t, s2⟩ := q
  simp only at hs ho hl
  refine SpecH.pad [.app 9 1 [] none 0 0, .app 3 1 [] none 0 0] rfl ?_
  refine ownC hm Tryz.func89 (by kernel_rfl) rfl rfl (fun _ _ => okHB_eq rfl) (fun _ _ => Nat.le_of_ble_eq_true rfl) ?_
  refine wX ?_
  refine callG hs [0, 1, 2, 3, 4] rfl ⟨rfl, rfl, rfl, rfl, rfl, trivial⟩ rfl fun i hi => ?_
  refine wX ?_
  exact ⟨⟨{ p with sa := i.1, sc := i.2 }, none, 0, none, 0⟩, ⟨ho i hi, ok_leaf rfl rfl hl⟩, rfl, wkE_refl _, wkE_refl _, wkE_refl _, wkE_refl _, wkE_refl _, wkE_refl _, wkE_refl _, wkH_nil _⟩
 ·have hnum := number_m rb st p maxN (by decide)
  have hk := num_keep maxN st
  have hmo := num_most maxN st
  have hle := num_le maxN st
  have hnn := fuel_keep hn (num_le maxN st) (fun h => by rw [num_dead h])
  have e : innerM (cellM n) 91 st = (⟨6, 0, [], [], (itemsM (cellM n) ((numM maxN st).1) [] (numM maxN st).2).1⟩, (itemsM (cellM n) ((numM maxN st).1) [] (numM maxN st).2).2) := rfl
  rw [e]
  clear e
  generalize numM maxN st = q at hnum hk hmo hle hnn ⊢
  obtain ⟨m, s2⟩ := q
  simp only at hnum hk hmo hle hnn
  have hmo : m ≤ 1000000000000000 := hmo
  have b2 := bd.le hle
  have hit := items_rd n hc rb s2 p (ok.same hk) b2 hnn (m) (by omega)
  have hil := (items_le htk (m) [] s2).2
  simp only
  generalize itemsM (cellM n) (m) [] s2 = r at hit hil ⊢
  obtain ⟨l, s3⟩ := r
  simp only at hit hil
  have hll : l.length ≤ 30001 := by
   have := b2.pot
   have h9 : liv s2 ≤ 1 := by unfold liv; split <;> omega
   have h8 : ([] : List Int).length = 0 := rfl
   omega
  refine SpecH.pad [.app 9 1 [] none 0 0, .app 3 1 [] none 0 0] rfl ?_
  refine ownC hm Tryz.func89 (by kernel_rfl) rfl rfl (fun _ _ => okHB_eq rfl) (fun _ _ => Nat.le_of_ble_eq_true rfl) ?_
  refine wX ?_
  refine callG (hnum) [0, 1, 2, 3, 4] rfl ⟨rfl, rfl, rfl, rfl, rfl, trivial⟩ rfl fun _ _ => ?_
  refine wX ?_
  refine callG hit [0, 1, 2, 3, 4, 6] rfl ⟨rfl, rfl, rfl, rfl, rfl, rfl, trivial⟩ rfl fun i hi => ?_
  refine wX ?_
  exact ⟨⟨i.1, none, 0, i.2.1, i.2.2⟩, ⟨hi.1, ⟨fun _ => rfl, hi.2.1, Nat.zero_le _, by show l.length ≤ _; omega, (fun s hs => by cases hs), Nat.zero_le _, Nat.le_refl _, hi.2.2⟩⟩, rfl, wkE_refl _, wkE_refl _, wkE_refl _, wkE_refl _, wkE_refl _, wkE_refl _, wkE_refl _, wkH_nil _⟩
 ·have hnum := number_m rb st p maxN (by decide)
  have hk := num_keep maxN st
  have hmo := num_most maxN st
  have hle := num_le maxN st
  have hnn := fuel_keep hn (num_le maxN st) (fun h => by rw [num_dead h])
  have e : innerM (cellM n) 123 st = (⟨7, 0, [], [], (itemsM (cellM n) (2 * (numM maxN st).1) [] (numM maxN st).2).1⟩, (itemsM (cellM n) (2 * (numM maxN st).1) [] (numM maxN st).2).2) := rfl
  rw [e]
  clear e
  generalize numM maxN st = q at hnum hk hmo hle hnn ⊢
  obtain ⟨m, s2⟩ := q
  simp only at hnum hk hmo hle hnn
  have hmo : m ≤ 1000000000000000 := hmo
  have b2 := bd.le hle
  have hit := items_rd n hc rb s2 p (ok.same hk) b2 hnn (2 * m) (by omega)
  have hil := (items_le htk (2 * m) [] s2).2
  simp only
  generalize itemsM (cellM n) (2 * m) [] s2 = r at hit hil ⊢
  obtain ⟨l, s3⟩ := r
  simp only at hit hil
  have hll : l.length ≤ 30001 := by
   have := b2.pot
   have h9 : liv s2 ≤ 1 := by unfold liv; split <;> omega
   have h8 : ([] : List Int).length = 0 := rfl
   omega
  refine SpecH.pad [.app 9 1 [] none 0 0, .app 3 1 [] none 0 0] rfl ?_
  refine ownC hm Tryz.func89 (by kernel_rfl) rfl rfl (fun _ _ => okHB_eq rfl) (fun _ _ => Nat.le_of_ble_eq_true rfl) ?_
  refine wX ?_
  refine callG (hnum) [0, 1, 2, 3, 4] rfl ⟨rfl, rfl, rfl, rfl, rfl, trivial⟩ rfl fun _ _ => ?_
  refine wX ?_
  first | rw [show IntKind.i64.wrap (2 * (m : Int)) = ((2 * m : Nat) : Int) by rw [wrap_i64 (by omega)]; omega] | rw [show 2 * (m : Int) = ((2 * m : Nat) : Int) by omega]
  refine callG hit [0, 1, 2, 3, 4, 6] rfl ⟨rfl, rfl, rfl, rfl, rfl, rfl, trivial⟩ rfl fun i hi => ?_
  refine wX ?_
  exact ⟨⟨i.1, none, 0, i.2.1, i.2.2⟩, ⟨hi.1, ⟨fun _ => rfl, hi.2.1, Nat.zero_le _, by show l.length ≤ _; omega, (fun s hs => by cases hs), Nat.zero_le _, Nat.le_refl _, hi.2.2⟩⟩, rfl, wkE_refl _, wkE_refl _, wkE_refl _, wkE_refl _, wkE_refl _, wkE_refl _, wkE_refl _, wkH_nil _⟩
 ·have hob := object_rd n hc rb st p ok bd hn
  have e : innerM (cellM n) 111 st = objM (cellM n) st := rfl
  rw [e]
  clear e
  generalize objM (cellM n) st = r at hob ⊢
  obtain ⟨c, s3⟩ := r
  simp only at hob
  refine SpecH.pad [.app 9 1 [] none 0 0, .app 3 1 [] none 0 0] rfl ?_
  refine ownC hm Tryz.func89 (by kernel_rfl) rfl rfl (fun _ _ => okHB_eq rfl) (fun _ _ => Nat.le_of_ble_eq_true rfl) ?_
  refine wX ?_
  refine callG hob [0, 1, 2, 3, 4, 5, 6] rfl ⟨rfl, rfl, rfl, rfl, rfl, rfl, rfl, trivial⟩ rfl fun i hi => ?_
  refine wX ?_
  exact ⟨i, hi, rfl, wkE_refl _, wkE_refl _, wkE_refl _, wkE_refl _, wkE_refl _, wkE_refl _, wkE_refl _, wkH_nil _⟩
end Go.Proofs.YtgogonnnojcioaaGreatDoor
namespace Go.AX
def execG (P : Program) (c : Code) : List AV → List Ent → (Ex → List AV → List Ent → Prop) → Prop :=
 Code.rec (motive := fun _ => List AV → List Ent → (Ex → List AV → List Ent → Prop) → Prop)
  (fun s H K => K .normal s H)
  (fun _ ops draw s H K => regionK P ops draw s H K)
  (fun _ _ ia ib s H K => SeqN ia ib s H K)
  (fun c _ _ ia ib s H K => condK c s (fun s => ia s H K) (fun s => ib s H K))
  (fun id _ ib s H K => ib s H (blockK id K))
  (fun _ ib s H K => LoopN ib s H K)
  (fun _ _ _ _ _ _ _ _ _ => False)
  (fun id s H K => K (.exit id) s H)
  (fun _ ib s H K => ib s H K)
  (fun _ s H K => K .normal s H)
  (fun _ _ _ _ => False)
  (fun s H K => K .ret s H)
  (fun _ _ _ _ => False)
  c
theorem execG_sound {P : Program} (hm : P.follows .mixedOrders = true) : ∀ (c : Code) (s : List AV) (H : List Ent) (K : Ex → List AV → List Ent → Prop), execG P c s H K →
  ∀ (ρ : List Loc) (S : Nat → Prop) (w : World) (a : Act), Sat ρ S H w → RelS ρ s a.tmps.toList → c.wp P (Post ρ S H w a.defers K) a w := by
 intro c
 induction c with
 | skip => intro s H K h ρ S w a hs hr; exact wp_skip ⟨ρ, S, s, H, .normal, hs, Ev.refl _ _ _ _, hr, rfl, trivial, h⟩
 | label l => intro s H K h ρ S w a hs hr; exact wp_label ⟨ρ, S, s, H, .normal, hs, Ev.refl _ _ _ _, hr, rfl, trivial, h⟩
 | exit id => intro s H K h ρ S w a hs hr; exact wp_exit ⟨ρ, S, s, H, .exit id, hs, Ev.refl _ _ _ _, hr, rfl, rfl, h⟩
 | ret => intro s H K h ρ S w a hs hr; exact wp_ret ⟨ρ, S, s, H, .ret, hs, Ev.refl _ _ _ _, hr, rfl, trivial, h⟩
 | goto l => intro s H K h; exact h.elim
 | refuse y => intro s H K h; exact h.elim
 | scope b ih =>
  intro s H K h0 ρ S w a hs hr
  have h : execG P b s H K := h0
  refine wp_scope_straight (wp_mono (ih s H K h ρ S w a hs hr) fun e a' w' hp => ?_)
  cases e with
  | goto l =>
   obtain ⟨ρ1, S1, s1, H1, ex, hs1, hev, hr1, hd, hex, hK⟩ := hp
   cases ex <;> exact hex.elim
  | _ => exact hp
 | rangeFunc f ps _ b _ _ => intro s H K h; exact h.elim
 | region id ops draw =>
  intro s H K h0 ρ S w a hs hr
  have h : regionK P ops draw s H K := h0
  clear h0
  unfold regionK at h
  split at h
  ·exact wp_region_list (execOps_sound _ _ _ h ρ S w a hs hr)
  ·have h0 : Cls ρ S H w { w with drawn := w.drawn + 1 } := ⟨S, hs.heap rfl, Ev.drew _ _ _ _⟩
   rcases h with ⟨hB, h⟩ | ⟨pre, hd, tl, hB, h⟩ | ⟨pre, hd, tl, hB, h⟩ | ⟨C, pre, hd, tl, hB, hC, h⟩ | ⟨pre, t, n, hB, h⟩ | h
   ·refine wp_region_quiet (C := Cls ρ S H w) hm hB h0 ?_
    have hq := execQ_sound ⟨_, h0⟩ _ _ h a hr
    refine exec_sound.wpQuiet_mono (fun a' ⟨s', hK, hr', hd⟩ w' ⟨S', hs', hev⟩ => ?_) _ _ hq
    exact ⟨ρ, S', s', H, .normal, hs', hev, hr', hd, trivial, hK⟩
   ·exact plan_sound hm hB h hs hr
   ·exact planQ_sound hm hB h hs hr
   ·exact planC_sound hm hB hC h hs hr
   ·exact tree_sound hm hB h hs hr
   ·exact h _ ρ S w a hs hr
 | seq x y ihx ihy =>
  intro s H K h0 ρ S w a hs hr
  have h : SeqN (execG P x) (execG P y) s H K := h0
  have key : ∀ K2 : Ex → List AV → List Ent → Prop, execG P x s H K2 → (∀ (e : Ex) (s1 : List AV) (H1 : List Ent) (ρ1 : List Loc) (S1 : Nat → Prop) (w1 : World) (a1 : Act), K2 e s1 H1 → Sat ρ1 S1 H1 w1 → Ev ρ S H w ρ1 S1 H1 w1 → relX e ρ1 s1 a1.tmps.toList → ∃ s2 H2 ρ2 S2, Sat ρ2 S2 H2 w1 ∧ Ev ρ S H w ρ2 S2 H2 w1 ∧ relX e ρ2 s2 a1.tmps.toList ∧ seqK (execG P y) K e s2 H2) → (Code.seq x y).wp P (Post ρ S H w a.defers K) a w := by
   intro K2 h2 hk
   refine wp_seq (wp_mono (ihx s H K2 h2 ρ S w a hs hr) fun e a' w' hp => ?_)
   obtain ⟨ρ0, S0, s0, H0, ex, hs0, hev0, hr0, hd, hex, hK0⟩ := hp
   obtain ⟨s1, H1, ρ1, S1, hs1, hev, hr1, hK⟩ := hk ex s0 H0 ρ0 S0 w' a' hK0 hs0 hev0 hr0
   cases ex with
   | normal =>
    cases e <;> first | exact hex.elim | skip
    refine wp_mono (ihy s1 H1 K hK ρ1 S1 w' a' hs1 hr1) fun e2 a2 w2 hp2 => ?_
    rw [hd] at hp2
    exact hp2.from hev
   | exit n => cases e <;> first | exact hex.elim | exact ⟨ρ1, S1, s1, H1, .exit n, hs1, hev, hr1, hd, hex, hK⟩
   | ret => cases e <;> first | exact hex.elim | exact ⟨ρ1, S1, s1, H1, .ret, hs1, hev, hr1, hd, hex, hK⟩
   | pan n => cases e <;> first | exact hex.elim | exact ⟨ρ1, S1, s1, H1, .pan n, hs1, hev, hr1, hd, hex, hK⟩
  rcases h with h | ⟨ι, inv, sl, hp, hlen, hoks, hokh, h, hnext⟩
  ·exact key _ h fun e s1 H1 ρ1 S1 w1 a1 hK hs1 hev hr1 => ⟨s1, H1, ρ1, S1, hs1, hev, hr1, hK⟩
  ·simp only [forceS_eq, forceH_eq] at hnext
   refine key _ h fun e s1 H1 ρ1 S1 w1 a1 hK hs1 hev hr1 => ?_
   cases e with
   | normal =>
    obtain ⟨j, hij, hws, hwh⟩ := hK
    have hw := hs1.weak hwh (hokh j hij)
    refine ⟨sl j, hp j, ρ1.take (hp j).length, S1, hw.1, ⟨?_, hev.os, hev.tape, hev.output, hev.size, hev.keep, hev.imm, fun b hb => hev.own b (hw.2 b hb)⟩, wkS_rel hws (hoks j hij) hr1, hnext j hij⟩
    obtain ⟨t, ht⟩ := hev.pre
    refine ⟨t.take ((hp j).length - ρ.length), ?_⟩
    rw [ht, List.take_append, List.take_of_length_le (by rw [hs.len]; exact hlen j hij)]
   | exit n => exact ⟨s1, H1, ρ1, S1, hs1, hev, hr1, hK⟩
   | ret => exact ⟨s1, H1, ρ1, S1, hs1, hev, hr1, hK⟩
   | pan n => exact ⟨s1, H1, ρ1, S1, hs1, hev, hr1, hK⟩
 | cond c x y ihx ihy =>
  intro s H K h0 ρ S w a hs hr
  have h : condK c s (fun s => execG P x s H K) (fun s => execG P y s H K) := h0
  obtain ⟨b, hb, hc⟩ := condK_spec h hr
  refine wp_cond hb ?_
  rcases hc with ⟨rfl, s', hK, hr'⟩ | ⟨rfl, s', hK, hr'⟩
  ·exact ihx s' H K hK ρ S w a hs hr'
  ·exact ihy s' H K hK ρ S w a hs hr'
 | block id b ih =>
  intro s H K h ρ S w a hs hr
  refine wp_block (wp_mono (ih s H (blockK id K) h ρ S w a hs hr) fun e a' w' hp => ?_)
  obtain ⟨ρ1, S1, s1, H1, ex, hs1, hev, hr1, hd, hex, hK⟩ := hp
  cases ex with
  | normal => cases e <;> first | exact hex.elim | exact ⟨ρ1, S1, s1, H1, .normal, hs1, hev, hr1, hd, trivial, hK⟩
  | ret => cases e <;> first | exact hex.elim | exact ⟨ρ1, S1, s1, H1, .ret, hs1, hev, hr1, hd, trivial, hK⟩
  | pan n => cases e <;> first | exact hex.elim | exact ⟨ρ1, S1, s1, H1, .pan n, hs1, hev, hr1, hd, hex, hK⟩
  | exit n =>
   cases e <;> first | exact hex.elim | skip
   rename_i m
   have hnm : n = m := hex
   subst hnm
   by_cases hid : n = id
   ·subst hid
    simp only [Exit.inBlock, if_true]
    have hK' : K .normal s1 H1 := by simpa [blockK] using hK
    exact ⟨ρ1, S1, s1, H1, .normal, hs1, hev, hr1, hd, trivial, hK'⟩
   ·simp only [Exit.inBlock, if_neg hid]
    have hbq : Nat.beq n id = false := by cases hq : Nat.beq n id with | false => rfl | true => exact absurd (Nat.eq_of_beq_eq_true hq) hid
    have hK' : K (.exit n) s1 H1 := by simpa [blockK, hbq] using hK
    exact ⟨ρ1, S1, s1, H1, .exit n, hs1, hev, hr1, hd, rfl, hK'⟩
 | loop b ih =>
  intro s H K h0 ρ S w a hs hr
  have h : LoopN (execG P b) s H K := h0
  rcases h with ⟨ι, inv, sl, hp, μ, pad, hpad, hlen, hoks, hokh, ⟨i0, hi0, hst, hsh⟩, hround⟩ | ⟨n, hU⟩ | ⟨ι, inv, sl, hp, μ, pad, hpad, hlen, hoks, hokh, ⟨i0, hi0, hst, hsh⟩, hround⟩
  ·obtain ⟨t0, hs0, hev0⟩ := Sat.pad pad hpad hs
   have hr0 := RelS_pre t0 hr
   refine wp_mono (P := P) (c := .loop b) (Q := Post (ρ ++ t0) S (H ++ pad) w a.defers K) ?_ fun e a' w' hp => hp.from hev0
   clear hs hr h0
   have hs := hs0
   have hr := hr0
   clear hs0 hr0
   generalize ρ ++ t0 = ρ at *
   generalize H ++ pad = H at *
   simp only [forceS_eq, forceH_eq] at hround
   refine wp_loop_by (fun n a' w' => ∃ i ρ' S', inv i ∧ μ i = n ∧ Sat ρ' S' (hp i) w' ∧ Ev ρ S H w ρ' S' (hp i) w' ∧ RelS ρ' (sl i) a'.tmps.toList ∧ a'.defers = a.defers) ?_ (μ i0) a w ?_
   ·rintro n a' w' ⟨i, ρ', S', hinv, rfl, hs', hev, hr', hd⟩
    refine wp_mono (ih (sl i) (hp i) _ (hround i hinv) ρ' S' w' a' hs' hr') fun e a2 w2 hq => ?_
    obtain ⟨ρ2, S2, s2, H2, ex, hs2, hev2, hr2, hd2, hex, hK⟩ := hq
    cases ex with
    | normal =>
     cases e <;> first | exact hex.elim | skip
     obtain ⟨j, hij, hj, hws, hwh⟩ := hK
     have hw := hs2.weak hwh (by rw [hlen]; exact hokh j hij)
     refine ⟨μ j, hj, j, ρ2.take (hp j).length, S2, hij, rfl, hw.1, ?_, ?_, hd2.trans hd⟩
     ·have h12 := hev.trans hev2
      refine ⟨?_, h12.os, h12.tape, h12.output, h12.size, h12.keep, h12.imm, fun b hb => h12.own b (hw.2 b hb)⟩
      obtain ⟨t, ht⟩ := h12.pre
      refine ⟨t.take ((hp j).length - ρ.length), ?_⟩
      rw [ht, List.take_append, List.take_of_length_le (by rw [hs.len, hlen]; omega)]
     ·rw [hlen]; exact wkS_rel hws (hoks j) hr2
    | exit n => cases e <;> first | exact hex.elim | exact ⟨ρ2, S2, s2, H2, .exit n, hs2, hev.trans hev2, hr2, hd2.trans hd, hex, hK⟩
    | ret => cases e <;> first | exact hex.elim | exact ⟨ρ2, S2, s2, H2, .ret, hs2, hev.trans hev2, hr2, hd2.trans hd, trivial, hK⟩
    | pan n => cases e <;> first | exact hex.elim | exact ⟨ρ2, S2, s2, H2, .pan n, hs2, hev.trans hev2, hr2, hd2.trans hd, hex, hK⟩
   ·have hw := hs.weak hsh (by rw [hlen]; exact hokh i0 hi0)
    have hρ : ρ.take (hp i0).length = ρ := List.take_of_length_le (by rw [hs.len, hlen]; omega)
    rw [hρ] at hw
    refine ⟨i0, ρ, S, hi0, rfl, hw.1, ⟨⟨[], by simp⟩, rfl, rfl, rfl, Nat.le_refl _, fun _ _ _ => rfl, fun b hb => .inl hb, fun b hb => .inl (hw.2 b hb)⟩, ?_, rfl⟩
    have := wkS_rel hst (hoks i0) hr
    rw [← hlen i0, hρ] at this
    exact this
  ·refine wp_loop_by (fun n a' w' => ∃ s' H' ρ' S', LoopU (execG P b) K n s' H' ∧ Sat ρ' S' H' w' ∧ Ev ρ S H w ρ' S' H' w' ∧ RelS ρ' s' a'.tmps.toList ∧ a'.defers = a.defers) ?_ n a w ⟨s, H, ρ, S, hU, hs, Ev.refl _ _ _ _, hr, rfl⟩
   rintro n a' w' ⟨s', H', ρ', S', hU, hs', hev, hr', hd⟩
   cases n with
   | zero => exact hU.elim
   | succ n =>
    refine wp_mono (ih s' H' _ hU ρ' S' w' a' hs' hr') fun e a2 w2 hq => ?_
    obtain ⟨ρ2, S2, s2, H2, ex, hs2, hev2, hr2, hd2, hex, hK⟩ := hq
    cases ex with
    | normal =>
     cases e <;> first | exact hex.elim | skip
     exact ⟨n, Nat.lt_succ_self n, s2, H2, ρ2, S2, hK, hs2, hev.trans hev2, hr2, hd2.trans hd⟩
    | exit n => cases e <;> first | exact hex.elim | exact ⟨ρ2, S2, s2, H2, .exit n, hs2, hev.trans hev2, hr2, hd2.trans hd, hex, hK⟩
    | ret => cases e <;> first | exact hex.elim | exact ⟨ρ2, S2, s2, H2, .ret, hs2, hev.trans hev2, hr2, hd2.trans hd, trivial, hK⟩
    | pan n => cases e <;> first | exact hex.elim | exact ⟨ρ2, S2, s2, H2, .pan n, hs2, hev.trans hev2, hr2, hd2.trans hd, hex, hK⟩
  ·obtain ⟨t0, hs0, hev0⟩ := Sat.pad pad hpad hs
   have hr0 := RelS_pre t0 hr
   refine wp_mono (P := P) (c := .loop b) (Q := Post (ρ ++ t0) S (H ++ pad) w a.defers K) ?_ fun e a' w' hp => hp.from hev0
   clear hs hr h0
   have hs := hs0
   have hr := hr0
   clear hs0 hr0
   generalize ρ ++ t0 = ρ at *
   generalize H ++ pad = H at *
   simp only [forceS_eq, forceH_eq] at hround
   refine wp_loop_by (fun n a' w' => ∃ i ρ' S', inv i ∧ μ i = n ∧ Sat ρ' S' (hp i) w' ∧ Ev ρ S H w ρ' S' (hp i) w' ∧ RelS ρ' (sl i) a'.tmps.toList ∧ a'.defers = a.defers) ?_ (μ i0) a w ?_
   ·rintro n a' w' ⟨i, ρ', S', hinv, rfl, hs', hev, hr', hd⟩
    refine wp_mono (ih (sl i) (hp i) _ (hround i hinv) ρ' S' w' a' hs' hr') fun e a2 w2 hq => ?_
    obtain ⟨ρ2, S2, s2, H2, ex, hs2, hev2, hr2, hd2, hex, hK⟩ := hq
    cases ex with
    | normal =>
     cases e <;> first | exact hex.elim | skip
     obtain ⟨j, hij, hj, hws, G, hT, hwh⟩ := hK
     obtain ⟨S3, hs3, hev3⟩ := hT.2 _ _ _ hs2
     have hw := hs3.weak hwh (by rw [hlen]; exact hokh j hij)
     refine ⟨μ j, hj, j, ρ2.take (hp j).length, S3, hij, rfl, hw.1, ?_, ?_, hd2.trans hd⟩
     ·have h12 := (hev.trans hev2).trans hev3
      refine ⟨?_, h12.os, h12.tape, h12.output, h12.size, h12.keep, h12.imm, fun b hb => h12.own b (hw.2 b hb)⟩
      obtain ⟨t, ht⟩ := h12.pre
      refine ⟨t.take ((hp j).length - ρ.length), ?_⟩
      rw [ht, List.take_append, List.take_of_length_le (by rw [hs.len, hlen]; omega)]
     ·rw [hlen]; exact wkS_rel hws (hoks j) hr2
    | exit n => cases e <;> first | exact hex.elim | exact ⟨ρ2, S2, s2, H2, .exit n, hs2, hev.trans hev2, hr2, hd2.trans hd, hex, hK⟩
    | ret => cases e <;> first | exact hex.elim | exact ⟨ρ2, S2, s2, H2, .ret, hs2, hev.trans hev2, hr2, hd2.trans hd, trivial, hK⟩
    | pan n => cases e <;> first | exact hex.elim | exact ⟨ρ2, S2, s2, H2, .pan n, hs2, hev.trans hev2, hr2, hd2.trans hd, hex, hK⟩
   ·obtain ⟨G, hT, hsh⟩ := hsh
    obtain ⟨S3, hs3, hev3⟩ := hT.2 _ _ _ hs
    have hw := hs3.weak hsh (by rw [hlen]; exact hokh i0 hi0)
    have hρ : ρ.take (hp i0).length = ρ := List.take_of_length_le (by rw [hs.len, hlen]; omega)
    rw [hρ] at hw
    refine ⟨i0, ρ, S3, hi0, rfl, hw.1, ⟨⟨[], by simp⟩, hev3.os, hev3.tape, hev3.output, hev3.size, hev3.keep, hev3.imm, fun b hb => hev3.own b (hw.2 b hb)⟩, ?_, rfl⟩
    have := wkS_rel hst (hoks i0) hr
    rw [← hlen i0, hρ] at this
    exact this
theorem specG_of_exec {P : Program} (hm : P.follows .mixedOrders = true) {f : FuncId} {fn : Func} {c : Code} (hf : P.funcs[f]? = some fn) (hn : (fn.name == "runtime.NumGoroutine") = false) (hb : fn.body = some c)
  {args : List AV} (hl : Nat.ble args.length fn.ntmps = true) {H : List Ent} {K : Out → List Ent → Prop} (h : initK fn.ntmps args fun s => execG P c s H (endK P fn.results.toList K)) : SpecH P f args H K := by
 refine ⟨⟨fn, hf, hn, by rw [hb]; rfl⟩, fun ρ S w vs hs hr => ?_⟩
 have hvl := RelS_len hr
 obtain ⟨s0, h, hs0⟩ := initK_rel h (Nat.le_of_ble_eq_true hl)
 have hinit : RelS ρ s0 (vs.toArray ++ Array.replicate (fn.ntmps - vs.toArray.size) undef).toList := by
  have := hs0 ρ vs hr
  simpa [hvl] using this
 refine calls_of_wp hf hb (wp_mono (execG_sound hm c _ H _ h ρ S w ⟨_, []⟩ hs hinit) ?_)
 ·intro e a w' hp
  obtain ⟨ρ1, S1, s1, H1, ex, hs1, hev, hr1, hd, hex, hK⟩ := hp
  have fin : RelS ρ1 s1 a.tmps.toList → ∀ {K' : Out → Prop}, resK P fn.results.toList s1 H1 K' → (∀ out, K' out → K out H1) → ∃ v, (results fn a.tmps).run P w' = .ok v w' ∧
    ∃ ρ' S' H' out, Sat ρ' S' H' w' ∧ Ev ρ S H w ρ' S' H' w' ∧ OutOk ρ' out (.returned v) ∧ K out H' := fun hr2 {_} hK1 hK2 => by
   obtain ⟨out, hK3, hres⟩ := resK_sound hK1
   obtain ⟨v, hrun, hv⟩ := hres ρ1 S1 w' a.tmps hs1 hr2
   exact ⟨v, hrun, ρ1, S1, H1, out, hs1, hev, hv, hK2 out hK3⟩
  cases ex with
  | normal =>
   cases e <;> first | exact hex.elim | skip
   obtain ⟨v, hrun, hR⟩ := fin hr1 (K' := fun out => K out H1) hK fun _ h => h
   exact ⟨hd, v, hrun, hR⟩
  | ret =>
   cases e <;> first | exact hex.elim | skip
   obtain ⟨v, hrun, hR⟩ := fin hr1 (K' := fun out => K out H1) hK fun _ h => h
   exact ⟨hd, v, hrun, hR⟩
  | exit n => exact hK.elim
  | pan ch =>
   cases e <;> first | exact hex.elim | skip
   have : ch = _ := hex
   subst this
   exact ⟨hd, ρ1, S1, H1, .pan ch, hs1, hev, rfl, hK⟩
end Go.AX
namespace Go.Proofs.YtgogonnnojcioaaGreatDoor
open Go.AX Go.RowKit Go.Core Go.Marshal
set_option maxRecDepth 20000
theorem pureG {P : Program} (hm : P.follows .mixedOrders = true) {f : FuncId} {fn : Func} {c : Code} (hf : P.funcs[f]? = some fn) (hn : (fn.name == "runtime.NumGoroutine") = false) (hb : fn.body = some c)
  {xs : List Value} (hl : Nat.ble (pvs xs).length fn.ntmps = true) {r : Value} (h : initK fn.ntmps (pvs xs) fun s => execG P c s [] (endK P fn.results.toList fun out _ => out = .val (.c (.v r)))) (H : List Ent) : SpecH P f (pvs xs) H (Ret r H) :=
 ((specG_of_exec hm hf hn hb hl h).mono fun out _ ho => ⟨r, ho, rfl⟩ : SpecH P f (pvs xs) [] fun out _ => ∃ x, out = .val (.c (.v x)) ∧ x = r).frame H |>.mono fun _ _ ⟨_, ho, hx, hH⟩ => ⟨by rw [ho, hx], hH⟩
theorem enc_hi (x : UInt8) (hx : 128 ≤ x.toNat) : ∃ b0 b1 : UInt8, Utf8.encode (x.toNat : Int) = bs [b0, b1] ∧ 128 ≤ b1.toNat := by
 have h : ∀ n : Fin 256, 128 ≤ n.val → (Utf8.encode (n.val : Int)).data.toList = [UInt8.ofNat (192 + n.val / 64), UInt8.ofNat (128 + n.val % 64)] ∧ 128 ≤ (UInt8.ofNat (128 + n.val % 64)).toNat := by decide +kernel
 have h2 := h ⟨x.toNat, x.toNat_lt⟩ hx
 exact ⟨_, _, by rw [← bs_of (Utf8.encode (x.toNat : Int)), h2.1], h2.2⟩
theorem index_lt (l : List UInt8) (c : UInt8) : Lib.indexByte l c < 0 ↔ l.contains c = false := by
 induction l with
 | nil => simp [Lib.indexByte]
 | cons b l ih =>
  have hge := Lib.indexByte_ge l c
  unfold Lib.indexByte
  cases hb : b == c with
  | true =>
   have hbc : b = c := by simpa using hb
   simp [hbc]
  | false =>
   have hbc : (c == b) = false := by
    have : ¬ b = c := by simpa using hb
    simpa using fun h => this h.symm
   rw [List.contains_cons, hbc, Bool.false_or, ← ih]
   simp only [Bool.false_eq_true, if_false]
   split
   ·rename_i h; have : Lib.indexByte l c = -1 := by simpa using h
    omega
   ·rename_i h; have : ¬ Lib.indexByte l c = -1 := by simpa using h
    omega
theorem index_none (s : List UInt8) (c : UInt8) (h : c ∉ s) : Lib.indexByte s c = -1 := by
 induction s with
 | nil => rfl
 | cons b l ih =>
  have hb : (b == c) = false := by
   rw [beq_eq_false_iff_ne]
   intro e
   exact h (by simp [e])
  unfold Lib.indexByte
  rw [hb, ih (fun h2 => h (by simp [h2]))]
  rfl
theorem IndexRune_hi (c0 c1 : UInt8) (s : List UInt8) (hs : ∀ c ∈ c0 :: c1 :: s, c.toNat < 128) (hl : s.length ≤ 1000) (x : UInt8) (hx : 128 ≤ x.toNat) : ∀ H, SpecH Tryz.prog 103 (pvs [.string (bs (c0 :: c1 :: s)), .int .i32 (x.toNat : Int)]) H (Ret (.int .i64 (-1)) H) := by
 refine pureG hm Tryz.func103 (by kernel_rfl) rfl rfl ?_
 have hx2 := x.toNat_lt
 have hvr : ∀ H, SpecH Tryz.prog 127 (pvs [.int .i32 (x.toNat : Int)]) H (Ret (.bool true) H) := fun H =>
  SpecH.rawP (R := fun r => r = .bool true) (callOk Tryz.func127 (by kernel_rfl) rfl) (fun w _ => (Tryz.utf8_ValidRune (x.toNat : Int) w).mono fun e w' ⟨he, hw⟩ => by
   have e1 : Lib.validRune (x.toNat : Int) = true := by unfold Lib.validRune; simp; omega
   rw [e1] at he
   subst hw
   exact ⟨_, he, rfl, Below.refl _ _⟩) fun r hr => by subst hr; exact ⟨rfl, rfl⟩
 refine wXS ?_
 refine brd_dec (fun h => absurd h (by omega)) (fun _ => ?_)
 refine wXS ?_
 refine brd_eq (fun h => absurd h (by omega)) (fun _ => ?_)
 refine wXS ?_
 refine call1 (hvr _) ?_
 refine wXS ?_
 obtain ⟨b0, b1, he, hb1⟩ := enc_hi x hx
 rw [he, show IntKind.i64.wrap (((bs [b0, b1]).size : Nat) - 1) = 1 from rfl]
 refine LoopN.unroll 1 ?_
 refine wXS ?_
 have hsz : (bs (c0 :: c1 :: s)).size = s.length + 2 := bs_size _
 refine brd_dec (fun _ => ?_) (fun h => absurd (by rw [hsz]; show (1 : Int) < _; omega) h)
 refine wXS ?_
 refine Nd.mk ⟨by decide, by show (1 : Int) < 2; decide⟩ ?_
 refine wXS ?_
 rw [show byteAt (bs (c0 :: c1 :: s)) (Int.toNat 1) = (c1.toNat : Int) from rfl, show byteAt (bs [b0, b1]) (Int.toNat 1) = (b1.toNat : Int) from rfl]
 have hc1 : c1.toNat < 128 := hs c1 (by simp)
 refine brd_ne (fun _ => ?_) (fun h => absurd h (by omega))
 refine wXS ?_
 refine ReadW.str_l rfl (by kernel_rfl) rfl rfl ⟨by decide, by rw [hsz, show IntKind.i64.wrap (1 + 1) = 2 from rfl]; omega⟩ ?_
 rw [show (bs (c0 :: c1 :: s)).extract (Int.toNat (IntKind.i64.wrap (1 + 1))) (bs (c0 :: c1 :: s)).size = bs s by rw [bs_size]; exact bs_drop (c0 :: c1 :: s) 2]
 refine wXS ?_
 refine Nd.mk ⟨by decide, by show (1 : Int) < 2; decide⟩ ?_
 refine wXS ?_
 refine callQ (IndexByte_c s b1 _) ?_
 rw [index_none s b1 (fun h => by have := hs b1 (by simp [h]); omega)]
 exact wZS
theorem ContainsRune_lo (s : List UInt8) (x : UInt8) (hx : x.toNat < 128) : ∀ H, SpecH Tryz.prog 88 (pvs [.string (bs s), .int .i32 (x.toNat : Int)]) H (Ret (.bool (decide (0 ≤ Lib.indexByte s x))) H) := fun H =>
 SpecH.rawP (R := fun r => r = .bool (decide (0 ≤ Lib.indexByte s x))) (callOk Tryz.func88 (by kernel_rfl) rfl) (fun w _ => (Tryz.strings_ContainsRune_ascii (bs s) (x.toNat : Int) w (by omega) (by omega)).mono fun e w' ⟨he, hw⟩ => by
  subst hw
  rw [bs_list, Int.toNat_natCast, show x.toNat.toUInt8 = x by simp] at he
  exact ⟨_, he, rfl, Below.refl _ _⟩) fun r hr => by subst hr; exact ⟨rfl, rfl⟩
theorem ContainsRune_hi (c0 c1 : UInt8) (s : List UInt8) (hs : ∀ c ∈ c0 :: c1 :: s, c.toNat < 128) (hl : s.length ≤ 1000) (x : UInt8) (hx : 128 ≤ x.toNat) : ∀ H, SpecH Tryz.prog 88 (pvs [.string (bs (c0 :: c1 :: s)), .int .i32 (x.toNat : Int)]) H (Ret (.bool false) H) := by
 refine pureC hm Tryz.func88 (by kernel_rfl) rfl rfl ?_
 refine wX ?_
 refine call1 (IndexRune_hi c0 c1 s hs hl x hx _) ?_
 refine wX ?_
 rfl
theorem ContainsRune_m (c0 c1 : UInt8) (s : List UInt8) (hs : ∀ c ∈ c0 :: c1 :: s, c.toNat < 128) (hl : s.length ≤ 1000) (x : UInt8) : ∀ H, SpecH Tryz.prog 88 (pvs [.string (bs (c0 :: c1 :: s)), .int .i32 (x.toNat : Int)]) H (Ret (.bool (decide (x ∈ c0 :: c1 :: s))) H) := by
 intro H
 by_cases hx : x.toNat < 128
 ·have h := ContainsRune_lo (c0 :: c1 :: s) x hx H
  have e : decide (0 ≤ Lib.indexByte (c0 :: c1 :: s) x) = decide (x ∈ c0 :: c1 :: s) := by
   by_cases hm2 : x ∈ c0 :: c1 :: s
   ·rw [decide_eq_true hm2]
    have : ¬ Lib.indexByte (c0 :: c1 :: s) x < 0 := by
     rw [index_lt, List.contains_iff_mem.2 hm2]
     exact fun h => by cases h
    simp; omega
   ·rw [decide_eq_false hm2, index_none _ _ hm2]
    rfl
  rw [← e]
  exact h
 ·have h := ContainsRune_hi c0 c1 s hs hl x (by omega) H
  rw [decide_eq_false (fun hm2 => hx (hs x hm2))]
  exact h
abbrev nilP : CellP := ⟨nilC, none, 0, none, 0⟩
theorem grC_put : ∀ {m : List CellP} {j : Nat} (q : CellP), j < m.length → (grC m).take (j * 5) ++ cellC q ++ (grC m).drop (j * 5 + 5) = grC (m.set j q)
 | p :: m, 0, q, _ => by simp [grC, cellC]
 | p :: m, j + 1, q, h => by
  have ih := grC_put (m := m) (j := j) q (by simpa using h)
  have e : grC (p :: m) = cellC p ++ grC m := by simp [grC]
  have l5 : (cellC p).length = 5 := rfl
  rw [List.set_cons_succ, show grC (p :: m.set j q) = cellC p ++ grC (m.set j q) by simp [grC], ← ih, e, show (j + 1) * 5 = (cellC p).length + j * 5 by rw [l5]; omega, List.take_length_add_append, show (cellC p).length + j * 5 + 5 = (cellC p).length + (j * 5 + 5) by omega, List.drop_length_add_append]
  simp
theorem seal_rd {H : List Ent} {rb : Nat} {st : PS} {p : RdP} (hl : 5 ≤ H.length) (h0 : H[0]? = some (.app 84 5 (rdC st p) (some ⟨rb, 0, none⟩) 1 1)) (h1 : H[1]? = some (.app 57 5 (grC p.m) p.ga p.m.length p.gc)) (h3 : H[3]? = some (.app 3 1 (iC st.cells) p.ca st.cells.length p.cc)) (h4 : H[4]? = some (.app 9 1 (strC st.ss) p.sa st.ss.length p.sc)) (hΓ : ∀ w, Facts (restL H (rdE rb st p)) w → ∀ q ∈ p.m, CellF q w) : SealOk H (rdE rb st p) := by
 refine ⟨hl, fun i e he => ?_⟩
 rcases i with _ | _ | _ | _ | _ | i
 ·obtain rfl := Option.some.inj he
  exact .inr (.inl ⟨_, _, _, _, _, _, rfl, h0⟩)
 ·obtain rfl := Option.some.inj he
  exact .inr (.inl ⟨_, _, _, _, _, _, rfl, h1⟩)
 ·exact .inr (.inr ⟨_, (Option.some.inj he).symm, hΓ⟩)
 ·obtain rfl := Option.some.inj he
  exact .inr (.inl ⟨_, _, _, _, _, _, rfl, h3⟩)
 ·obtain rfl := Option.some.inj he
  exact .inr (.inl ⟨_, _, _, _, _, _, rfl, h4⟩)
 ·cases he
theorem cell_dead_c (n : Nat) (rb : Nat) (st : PS) (p : RdP) (ok : RdOk st p) (he : st.e ≠ 0) : SpecH Tryz.prog 64 [.c (.v (.pointer (some ⟨rb, 0, none⟩)))] (rdE rb st p) (RetG (ι := RdP) (fun p' => RdOk (cellM n st).2 p') (fun _ => .int .i64 (cellM n st).1) fun p' => rdE rb (cellM n st).2 p') := by
 have hcm : cellM n st = (0, st) := by
  cases n with
  | zero => show (0, failM st 99) = _; rw [fail_dead he]
  | succ n => exact cell_dead n he
 rw [hcm]
 refine ownC hm Tryz.func64 (by kernel_rfl) rfl rfl (fun _ _ => rdE_ok _ _ _) (fun _ _ => Nat.le_refl _) ?_
 have hne := next_m rb st p
 rw [next_dead he] at hne
 refine wX ?_
 refine callG (hne) [0, 1, 2, 3, 4] rfl ⟨rfl, rfl, rfl, rfl, rfl, trivial⟩ rfl fun _ _ => ?_
 refine wX ?_
 refine LdN.one (a := some ⟨rb, 0, none⟩) (q := 4) (.int .i64 st.e) rfl (fun w hw => hw.1) rfl ?_
 refine wX ?_
 refine brd_ne (fun _ => ?_) (fun h => absurd h he)
 refine wX ?_
 exact ⟨p, ok, rfl, wkH_refl _⟩
theorem cell_step (n : Nat) (hc : CellC n) : CellC (n + 1) := by
  intro rb st p ok bd hn
  by_cases he : st.e ≠ 0
  · exact cell_dead_c (n + 1) rb st p ok he
  have hn : st.s.length < n + 1 := hn.resolve_right he
  have hcm : cellM (n + 1) st = (if (nextM st).2.e ≠ 0 then (0, (nextM st).2) else if (nextM st).1 = 64 then refM (nextM st).2 else if 500 ≤ (nextM st).2.g.length ∨ (nextM st).1 ∉ begins then (0, failM (nextM st).2 4) else (((nextM st).2.g.length : Int), { (innerM (cellM n) (nextM st).1 (openM (nextM st).1 (nextM st).2)).2 with g := (innerM (cellM n) (nextM st).1 (openM (nextM st).1 (nextM st).2)).2.g.set (nextM st).2.g.length (innerM (cellM n) (nextM st).1 (openM (nextM st).1 (nextM st).2)).1 })) := rfl
  generalize cellM (n + 1) st = R at hcm ⊢
  refine SpecH.sealP ?_
  refine spec_of_exec hm Tryz.func64 (by kernel_rfl) rfl rfl ?_
  have hne := next_m rb st p
  have b1 := bd.le (next_le st)
  have ok1 := ok.same (next_keep st)
  have hlt := next_lt (st := st)
  generalize nextM st = q at hne hcm b1 ok1 hlt ⊢
  obtain ⟨x, s1⟩ := q
  simp only at hne hcm b1 ok1 hlt
  refine wX ?_
  refine callG (hne) [0, 1, 2, 3, 4] rfl ⟨rfl, rfl, rfl, rfl, rfl, trivial⟩ rfl fun _ _ => ?_
  refine wX ?_
  refine LdN.one (a := some ⟨rb, 0, none⟩) (q := 4) (.int .i64 s1.e) rfl (fun w hw => hw.1) rfl ?_
  refine wX ?_
  refine brd_ne (fun h1 => ?_) (fun h1 => ?_)
  · rw [if_pos h1] at hcm
    subst hcm
    refine wX ?_
    refine ⟨rdE rb (s1) (p), Nat.le_of_ble_eq_true rfl, seal_rd (Nat.le_of_ble_eq_true rfl) rfl rfl rfl rfl (fun w hw => hw.1), ⟨_, rfl⟩, ⟨p, ok1, rfl, rfl⟩⟩
  rw [if_neg (fun h => h h1)] at hcm
  obtain ⟨hl1, _⟩ := hlt (.inl h1)
  have hn1 : s1.s.length < n ∨ s1.e ≠ 0 := .inl (by omega)
  refine wX ?_
  refine brd_eq (fun h64 => ?_) (fun h64 => ?_)
  · obtain rfl : x = 64 := UInt8.toNat_inj.1 (by have : x.toNat = 64 := by omega
                                                 rw [this]; rfl)
    rw [if_pos rfl] at hcm
    have hnum := number_m rb s1 p maxN (by decide)
    have ok2 := ok1.same (num_keep maxN s1)
    have hmo := num_most maxN s1
    unfold refM at hcm
    simp only at hcm
    generalize numM maxN s1 = q at hnum ok2 hmo hcm ⊢
    obtain ⟨k, s2⟩ := q
    simp only at hnum ok2 hmo hcm
    have hmo : k ≤ 1000000000000000 := hmo
    refine wX ?_
    refine callG (hnum) [0, 1, 2, 3, 4] rfl ⟨rfl, rfl, rfl, rfl, rfl, trivial⟩ rfl fun _ _ => ?_
    refine wX ?_
    refine LdN.one (a := some ⟨rb, 0, none⟩) (q := 4) (.int .i64 s2.e) rfl (fun w hw => hw.1) rfl ?_
    refine wX ?_
    by_cases he2 : s2.e = 0
    · rw [show (s2.e == 0) = true by rw [he2]; rfl]
      rw [if_neg (fun h => h he2)] at hcm
      refine wX ?_
      refine LdN.one (a := some ⟨rb, 0, none⟩) (q := 2) (.slice p.ca s2.cells.length p.cc) rfl (fun w hw => hw.1) rfl ?_
      refine wX ?_
      refine brd_dec (fun hk => ?_) (fun hk => ?_)
      · rw [if_pos (by omega)] at hcm
        subst hcm
        refine wX ?_
        refine callG (fail_m rb s2 p 4) [0, 1, 2, 3, 4] rfl ⟨rfl, rfl, rfl, rfl, rfl, trivial⟩ rfl fun _ _ => ?_
        have he4 : (failM s2 4).e = 4 := fail_e he2 4
        refine wX ?_
        refine LdN.one (a := some ⟨rb, 0, none⟩) (q := 4) (.int .i64 (failM s2 4).e) rfl (fun w hw => hw.1) rfl ?_
        rw [he4]
        refine wX ?_
        refine ⟨rdE rb (failM s2 4) (p), Nat.le_of_ble_eq_true rfl, seal_rd (Nat.le_of_ble_eq_true rfl) rfl rfl rfl rfl (fun w hw => hw.1), ⟨_, rfl⟩, ⟨p, ok2.same (fail_ss s2 4), rfl, rfl⟩⟩
      · have hkl : k < s2.cells.length := by omega
        rw [if_neg (by omega)] at hcm
        subst hcm
        have hsa : p.ca.isSome = true := by
          cases h : p.ca with
          | none =>
            rw [ok2.ca h] at hkl
            exact absurd hkl (Nat.not_lt_zero _)
          | some b => rfl
        have hget : s2.cells[k]? = some (s2.cells.getD k 0) := by rw [List.getD_eq_getElem?_getD, List.getElem?_eq_getElem hkl]; rfl
        refine wX ?_
        refine LdN.one (a := some ⟨rb, 0, none⟩) (q := 4) (.int .i64 s2.e) rfl (fun w hw => hw.1) rfl ?_
        rw [he2]
        refine wX ?_
        refine LdN.one (a := some ⟨rb, 0, none⟩) (q := 2) (.slice p.ca s2.cells.length p.cc) rfl (fun w hw => hw.1) rfl ?_
        refine wX ?_
        refine Nd.mk ⟨hsa, by omega, by omega⟩ ?_
        refine wX ?_
        refine LdN.one (.int .i64 (s2.cells.getD k 0)) rfl (fun w hw => hw.2.2.2.1) (by show (iC s2.cells)[Int.toNat _ * 1]? = _; rw [Int.toNat_natCast, Nat.mul_one]; exact iC_get hget) ?_
        refine wX ?_
        refine ⟨rdE rb (s2) (p), Nat.le_of_ble_eq_true rfl, seal_rd (Nat.le_of_ble_eq_true rfl) rfl rfl rfl rfl (fun w hw => hw.1), ⟨_, rfl⟩, ⟨p, ok2, rfl, rfl⟩⟩
    · rw [show (s2.e == 0) = false by simpa using he2]
      rw [if_pos he2] at hcm
      subst hcm
      refine wX ?_
      refine LdN.one (a := some ⟨rb, 0, none⟩) (q := 4) (.int .i64 s2.e) rfl (fun w hw => hw.1) rfl ?_
      refine wX ?_
      refine brd_ne (fun _ => ?_) (fun h => absurd h he2)
      refine wX ?_
      refine ⟨rdE rb (s2) (p), Nat.le_of_ble_eq_true rfl, seal_rd (Nat.le_of_ble_eq_true rfl) rfl rfl rfl rfl (fun w hw => hw.1), ⟨_, rfl⟩, ⟨p, ok2, rfl, rfl⟩⟩
  have hx64 : x ≠ 64 := fun h => h64 (by rw [h]; rfl)
  rw [if_neg hx64] at hcm
  have hml : p.m.length = s1.g.length := by rw [← ok1.g, List.length_map]
  refine wX ?_
  refine LdN.one (a := some ⟨rb, 0, none⟩) (q := 1) (.slice p.ga p.m.length p.gc) rfl (fun w hw => hw.1) rfl ?_
  have hfail : (500 ≤ s1.g.length ∨ x ∉ begins) → R = (0, failM s1 4) := fun h => by rw [hcm, if_pos h]
  have hxl := x.toNat_lt
  have hw32 : IntKind.i32.wrap (x.toNat : Int) = (x.toNat : Int) := by simp [IntKind.wrap, IntKind.bits, IntKind.signed]; omega
  have hb10 : ∀ c ∈ [(48 : UInt8), 84, 70, 105, 34, 58, 59, 91, 123, 111], c.toNat < 128 := by decide
  have hb4 : ∀ c ∈ [(34 : UInt8), 91, 123, 111], c.toNat < 128 := by decide
  refine wX ?_
  by_cases h5 : 500 ≤ s1.g.length
  · rw [show decide ((p.m.length : Int) ≥ 500) = true by simp; omega]
    have hcm := hfail (.inl h5)
    subst hcm
    refine wX ?_
    refine callG (fail_m rb s1 p 4) [0, 1, 2, 3, 4] rfl ⟨rfl, rfl, rfl, rfl, rfl, trivial⟩ rfl fun _ _ => ?_
    refine wX ?_
    refine ⟨rdE rb (failM s1 4) (p), Nat.le_of_ble_eq_true rfl, seal_rd (Nat.le_of_ble_eq_true rfl) rfl rfl rfl rfl (fun w hw => hw.1), ⟨_, rfl⟩, ⟨p, ok1.same (fail_ss s1 4), rfl, rfl⟩⟩
  rw [show decide ((p.m.length : Int) ≥ 500) = false by simp; omega]
  refine wX ?_
  rw [hw32]
  refine call1 (ContainsRune_m 48 84 [70, 105, 34, 58, 59, 91, 123, 111] hb10 (by decide) x _) ?_
  by_cases hx : x ∈ begins
  · rw [show decide (x ∈ [(48 : UInt8), 84, 70, 105, 34, 58, 59, 91, 123, 111]) = true from decide_eq_true hx]
    rw [if_neg (fun h => h.elim h5 (fun h => h hx))] at hcm
    have hfe : (fun w => ∀ q ∈ p.m, CellF q w) = (fun w => ∀ q ∈ p.m ++ [nilP], CellF q w) := by
      funext w
      refine propext ⟨fun h q hq => ?_, fun h q hq => h q (List.mem_append_left _ hq)⟩
      rcases List.mem_append.1 hq with hq | hq
      · exact h q hq
      · obtain rfl := List.mem_singleton.1 hq
        exact ⟨slAt_nil w, slAt_nil w⟩
    have hgl := b1.g
    have hcl := b1.cl
    have hle := inner_le (cell_takes n) x (openM x s1)
    have hol : (openM x s1).g.length = s1.g.length + 1 := by unfold openM; simp
    have hogl := hle.g
    rw [hol] at hogl
    have b2 : Bd (openM x s1) := ⟨by rw [hol]; omega, by
      rw [hol]
      show (if x ∈ named then s1.cells ++ [(s1.g.length : Int)] else s1.cells).length ≤ _
      split
      · simp; omega
      · omega, b1.pot⟩
    have hn2 : (openM x s1).s.length < n ∨ (openM x s1).e ≠ 0 := hn1
    have hml2 : p.m.length + 1 = (p.m ++ [nilP]).length := by simp
    refine wX ?_
    refine LdN.one (a := some ⟨rb, 0, none⟩) (q := 1) (.slice p.ga p.m.length p.gc) rfl (fun w hw => hw.1) rfl ?_
    refine wX ?_
    refine AppN.grow 1 (grC p.m) (cellC nilP) rfl rfl ⟨Nat.le_refl 1, ⟨by show (p.m.length + 1) * 80 ≤ _; omega, by omega⟩, by decide⟩ fun gb gc' g1 g2 => ?_
    refine wX ?_
    rw [← grC_snoc, hml2, hfe]
    refine EffW.appTo (i := 0) (q := 1) (ys := [_]) (rdC { s1 with g := s1.g ++ [nilC] } { p with m := p.m ++ [nilP], ga := some ⟨gb, 0, none⟩, gc := gc' }) 5 rfl rfl rfl rfl rfl rfl rfl (Nat.le_of_ble_eq_true rfl) rfl rfl ?_
    refine wX ?_
    rw [hw32]
    refine call1 (ContainsRune_m 34 91 [123, 111] hb4 (by decide) x _) ?_
    by_cases hnm : x ∈ named
    · rw [show decide (x ∈ [(34 : UInt8), 91, 123, 111]) = true from decide_eq_true hnm]
      have ho : openM x s1 = { s1 with g := s1.g ++ [nilC], cells := s1.cells ++ [(s1.g.length : Int)] } := by unfold openM; rw [if_pos hnm]
      refine wX ?_
      refine LdN.one (a := some ⟨rb, 0, none⟩) (q := 2) (.slice p.ca s1.cells.length p.cc) rfl (fun w hw => hw.1) rfl ?_
      refine wX ?_
      refine Nd.mk ⟨Nat.le_refl 1, rfl, rfl⟩ ?_
      (conv => whnf)
      refine AppN.grow 3 (iC s1.cells) [.int .i64 (p.m.length : Int)] rfl rfl ⟨Nat.le_refl 1, ⟨by show (s1.cells.length + 1) * 8 ≤ _; omega, by omega⟩, by decide⟩ fun cb cc' g3 g4 => ?_
      refine wX ?_
      have e1 : iC s1.cells ++ [.int .i64 (p.m.length : Int)] = iC (s1.cells ++ [(s1.g.length : Int)]) := by rw [hml]; simp [iC]
      have e2 : s1.cells.length + 1 = (s1.cells ++ [(s1.g.length : Int)]).length := by simp
      rw [e1, e2]
      refine EffW.appTo (i := 0) (q := 2) (ys := [_]) (rdC { s1 with g := s1.g ++ [nilC], cells := s1.cells ++ [(s1.g.length : Int)] } { p with m := p.m ++ [nilP], ga := some ⟨gb, 0, none⟩, gc := gc', ca := some ⟨cb, 0, none⟩, cc := cc' }) 5 rfl rfl rfl rfl rfl rfl rfl (Nat.le_of_ble_eq_true rfl) rfl rfl ?_
      have ok2 : RdOk { s1 with g := s1.g ++ [nilC], cells := s1.cells ++ [(s1.g.length : Int)] } { p with m := p.m ++ [nilP], ga := some ⟨gb, 0, none⟩, gc := gc', ca := some ⟨cb, 0, none⟩, cc := cc' } :=
        ⟨by show (p.m ++ [nilP]).map (·.c) = s1.g ++ [nilC]; rw [List.map_append, ok1.g]; rfl, fun y hy => (List.mem_append.1 hy).elim (ok1.cell y) (fun h => by obtain rfl := List.mem_singleton.1 h; exact ok_leaf rfl rfl (Nat.zero_le _)), (fun h => by cases h), (fun h => by cases h), ok1.sa, ok1.sw, .inr ⟨gb, rfl⟩⟩
      rw [ho] at hcm hle hogl b2 hn2
      have hin := inner_rd n hc rb ({ s1 with g := s1.g ++ [nilC], cells := s1.cells ++ [(s1.g.length : Int)] }) ({ p with m := p.m ++ [nilP], ga := some ⟨gb, 0, none⟩, gc := gc', ca := some ⟨cb, 0, none⟩, cc := cc' }) ok2 b2 hn2 x hx
      generalize innerM (cellM n) x ({ s1 with g := s1.g ++ [nilC], cells := s1.cells ++ [(s1.g.length : Int)] }) = r at hcm hle hogl hin ⊢
      obtain ⟨c, s3⟩ := r
      simp only at hcm hle hogl hin
      refine wX ?_
      refine callG hin [0, 1, 2, 3, 4] rfl ⟨rfl, rfl, rfl, rfl, rfl, trivial⟩ rfl fun q hq => ?_
      obtain ⟨⟨qm, qga, qgc, qca, qcc, qsa, qsc⟩, na, nc, ia, ic⟩ := q
      obtain ⟨hq1, hq2⟩ := hq
      simp only at hq1 hq2
      have hqm : qm.length = s3.g.length := by
        have := hq1.g
        rw [← this, List.length_map]
      have hat : s1.g.length < qm.length := by rw [hqm]; omega
      obtain ⟨qb, hqb⟩ : ∃ b : Nat, qga = some ⟨b, 0, none⟩ := hq1.gx.resolve_left fun h => by
        have h9 : qm = [] := hq1.ga h
        rw [h9] at hat
        exact absurd hat (Nat.not_lt_zero _)
      subst hqb
      subst hcm
      rw [hml]
      refine wX ?_
      refine DrawN.planQ [0, 4] [1, 2, 3, 5, 6] [(7, 0)] (by decide +kernel) ?_
      refine wX ?_
      refine LdN.one (a := some ⟨rb, 0, none⟩) (q := 1) (.slice (some ⟨qb, 0, none⟩) qm.length qgc) rfl (fun w hw => hw.1) rfl ?_
      refine wX ?_
      refine Nd.mk ⟨rfl, by omega, by omega⟩ ?_
      refine wX ?_
      refine EffW.appTo (i := 1) (q := s1.g.length * 5) (ys := cellC ⟨c, na, nc, ia, ic⟩) (grC (qm.set s1.g.length ⟨c, na, nc, ia, ic⟩)) 5 rfl (ptr_lit rfl (by show (s1.g.length : Int).toNat * 5 = _; rw [Int.toNat_natCast])) rfl rfl rfl rfl rfl (by show s1.g.length * 5 + 5 ≤ qm.length * 5; omega) (grC_put _ hat) rfl ?_
      refine wX ?_
      have hrc : rdC { s3 with g := s3.g.set s1.g.length c } ⟨qm.set s1.g.length ⟨c, na, nc, ia, ic⟩, some ⟨qb, 0, none⟩, qgc, qca, qcc, qsa, qsc⟩ = rdC s3 ⟨qm, some ⟨qb, 0, none⟩, qgc, qca, qcc, qsa, qsc⟩ := by simp [rdC]
      refine ⟨rdE rb { s3 with g := s3.g.set s1.g.length c } ⟨qm.set s1.g.length ⟨c, na, nc, ia, ic⟩, some ⟨qb, 0, none⟩, qgc, qca, qcc, qsa, qsc⟩, Nat.le_of_ble_eq_true rfl, seal_rd (Nat.le_of_ble_eq_true rfl) (by rw [hrc]; rfl) (by rw [List.length_set]; rfl) rfl rfl (fun w hw y hy => ?_), ⟨_, rfl⟩, ⟨_, ?_, rfl, rfl⟩⟩
      · rcases List.mem_or_eq_of_mem_set hy with h | h
        · exact hw.1 y h
        · subst h
          exact ⟨hw.2.1, hw.2.2.1⟩
      · exact ⟨by show (qm.set _ _).map (·.c) = s3.g.set _ _; rw [List.map_set]; exact congrArg (fun l => List.set l s1.g.length c) hq1.g, fun y hy => (List.mem_or_eq_of_mem_set hy).elim (hq1.cell y) (fun h => by subst h; exact hq2), (fun h => by cases h), hq1.ca, hq1.sa, hq1.sw, .inr ⟨qb, rfl⟩⟩
    · rw [show decide (x ∈ [(34 : UInt8), 91, 123, 111]) = false from decide_eq_false hnm]
      have ho : openM x s1 = { s1 with g := s1.g ++ [nilC] } := by unfold openM; rw [if_neg hnm]
      have ok2 : RdOk { s1 with g := s1.g ++ [nilC] } { p with m := p.m ++ [nilP], ga := some ⟨gb, 0, none⟩, gc := gc' } :=
        ⟨by show (p.m ++ [nilP]).map (·.c) = s1.g ++ [nilC]; rw [List.map_append, ok1.g]; rfl, fun y hy => (List.mem_append.1 hy).elim (ok1.cell y) (fun h => by obtain rfl := List.mem_singleton.1 h; exact ok_leaf rfl rfl (Nat.zero_le _)), (fun h => by cases h), ok1.ca, ok1.sa, ok1.sw, .inr ⟨gb, rfl⟩⟩
      rw [ho] at hcm hle hogl b2 hn2
      have hin := inner_rd n hc rb ({ s1 with g := s1.g ++ [nilC] }) ({ p with m := p.m ++ [nilP], ga := some ⟨gb, 0, none⟩, gc := gc' }) ok2 b2 hn2 x hx
      generalize innerM (cellM n) x ({ s1 with g := s1.g ++ [nilC] }) = r at hcm hle hogl hin ⊢
      obtain ⟨c, s3⟩ := r
      simp only at hcm hle hogl hin
      refine wX ?_
      refine callG hin [0, 1, 2, 3, 4] rfl ⟨rfl, rfl, rfl, rfl, rfl, trivial⟩ rfl fun q hq => ?_
      obtain ⟨⟨qm, qga, qgc, qca, qcc, qsa, qsc⟩, na, nc, ia, ic⟩ := q
      obtain ⟨hq1, hq2⟩ := hq
      simp only at hq1 hq2
      have hqm : qm.length = s3.g.length := by
        have := hq1.g
        rw [← this, List.length_map]
      have hat : s1.g.length < qm.length := by rw [hqm]; omega
      obtain ⟨qb, hqb⟩ : ∃ b : Nat, qga = some ⟨b, 0, none⟩ := hq1.gx.resolve_left fun h => by
        have h9 : qm = [] := hq1.ga h
        rw [h9] at hat
        exact absurd hat (Nat.not_lt_zero _)
      subst hqb
      subst hcm
      rw [hml]
      refine wX ?_
      refine DrawN.planQ [0, 4] [1, 2, 3, 5, 6] [(7, 0)] (by decide +kernel) ?_
      refine wX ?_
      refine LdN.one (a := some ⟨rb, 0, none⟩) (q := 1) (.slice (some ⟨qb, 0, none⟩) qm.length qgc) rfl (fun w hw => hw.1) rfl ?_
      refine wX ?_
      refine Nd.mk ⟨rfl, by omega, by omega⟩ ?_
      refine wX ?_
      refine EffW.appTo (i := 1) (q := s1.g.length * 5) (ys := cellC ⟨c, na, nc, ia, ic⟩) (grC (qm.set s1.g.length ⟨c, na, nc, ia, ic⟩)) 5 rfl (ptr_lit rfl (by show (s1.g.length : Int).toNat * 5 = _; rw [Int.toNat_natCast])) rfl rfl rfl rfl rfl (by show s1.g.length * 5 + 5 ≤ qm.length * 5; omega) (grC_put _ hat) rfl ?_
      refine wX ?_
      have hrc : rdC { s3 with g := s3.g.set s1.g.length c } ⟨qm.set s1.g.length ⟨c, na, nc, ia, ic⟩, some ⟨qb, 0, none⟩, qgc, qca, qcc, qsa, qsc⟩ = rdC s3 ⟨qm, some ⟨qb, 0, none⟩, qgc, qca, qcc, qsa, qsc⟩ := by simp [rdC]
      refine ⟨rdE rb { s3 with g := s3.g.set s1.g.length c } ⟨qm.set s1.g.length ⟨c, na, nc, ia, ic⟩, some ⟨qb, 0, none⟩, qgc, qca, qcc, qsa, qsc⟩, Nat.le_of_ble_eq_true rfl, seal_rd (Nat.le_of_ble_eq_true rfl) (by rw [hrc]; rfl) (by rw [List.length_set]; rfl) rfl rfl (fun w hw y hy => ?_), ⟨_, rfl⟩, ⟨_, ?_, rfl, rfl⟩⟩
      · rcases List.mem_or_eq_of_mem_set hy with h | h
        · exact hw.1 y h
        · subst h
          exact ⟨hw.2.1, hw.2.2.1⟩
      · exact ⟨by show (qm.set _ _).map (·.c) = s3.g.set _ _; rw [List.map_set]; exact congrArg (fun l => List.set l s1.g.length c) hq1.g, fun y hy => (List.mem_or_eq_of_mem_set hy).elim (hq1.cell y) (fun h => by subst h; exact hq2), (fun h => by cases h), hq1.ca, hq1.sa, hq1.sw, .inr ⟨qb, rfl⟩⟩
  · rw [show decide (x ∈ [(48 : UInt8), 84, 70, 105, 34, 58, 59, 91, 123, 111]) = false from decide_eq_false hx]
    have hcm := hfail (.inr hx)
    subst hcm
    refine wX ?_
    refine callG (fail_m rb s1 p 4) [0, 1, 2, 3, 4] rfl ⟨rfl, rfl, rfl, rfl, rfl, trivial⟩ rfl fun _ _ => ?_
    refine wX ?_
    refine ⟨rdE rb (failM s1 4) (p), Nat.le_of_ble_eq_true rfl, seal_rd (Nat.le_of_ble_eq_true rfl) rfl rfl rfl rfl (fun w hw => hw.1), ⟨_, rfl⟩, ⟨p, ok1.same (fail_ss s1 4), rfl, rfl⟩⟩
theorem cell_rd : ∀ n : Nat, CellC n
 | 0 => fun rb st p ok bd hn => cell_dead_c 0 rb st p ok (hn.resolve_left (by omega))
 | n + 1 => cell_step n (cell_rd n)
end Go.Proofs.YtgogonnnojcioaaGreatDoor
namespace Go.Marshal
open Go.Core
theorem Tel.addS {st : PS} (h : st.e = 0) (c : Cell) : Tel (.ok ((), addS c (toS st))) () { st with g := st.g ++ [c] } := by
 obtain ⟨s, g, cs, ss, e⟩ := st
 simp only at h
 subst h
 exact ⟨rfl, rfl⟩
end Go.Marshal
namespace Go.Proofs.YtgogonnnojcioaaGreatDoor
open Go.AX Go.RowKit Go.Core Go.Marshal
set_option maxRecDepth 20000
theorem seal_d {H : List Ent} {rb : Nat} {S : List UInt8} {st : PS} {p : RdP} {nm : List CellP} (hl : 5 ≤ H.length) (h0 : H[0]? = some (.app 109 6 (ddC S st p) (some ⟨rb, 0, none⟩) 1 1)) (h1 : H[1]? = some (.app 87 5 (grC p.m) p.ga p.m.length p.gc)) (h3 : H[3]? = some (.app 3 1 (iC st.cells) p.ca st.cells.length p.cc)) (h4 : H[4]? = some (.app 9 1 (strC st.ss) p.sa st.ss.length p.sc)) (hΓ : ∀ w, Facts (restL H (dE rb S st p nm)) w → ∀ q ∈ nm, CellF q w) : SealOk H (dE rb S st p nm) := by
 refine ⟨hl, fun i e he => ?_⟩
 rcases i with _ | _ | _ | _ | _ | i
 ·obtain rfl := Option.some.inj he
  exact .inr (.inl ⟨_, _, _, _, _, _, rfl, h0⟩)
 ·obtain rfl := Option.some.inj he
  exact .inr (.inl ⟨_, _, _, _, _, _, rfl, h1⟩)
 ·exact .inr (.inr ⟨_, (Option.some.inj he).symm, hΓ⟩)
 ·obtain rfl := Option.some.inj he
  exact .inr (.inl ⟨_, _, _, _, _, _, rfl, h3⟩)
 ·obtain rfl := Option.some.inj he
  exact .inr (.inl ⟨_, _, _, _, _, _, rfl, h4⟩)
 ·cases he
theorem cell_plain {c : Cell} (hn : c.names = []) (hi : c.items = []) (w : World) : CellF (plP c) w := by
 obtain ⟨k, n, t, ns, its⟩ := c
 simp only at hn hi
 subst hn
 subst hi
 exact ⟨slAt_nil w, slAt_nil w⟩
theorem form_open {n : Nat} {st s1 : PS} {x : UInt8} (tel : Tel (nextS (toS st)) x s1) (h1 : s1.e = 0) (h64 : x ≠ 64) (h5 : ¬ 500 ≤ s1.g.length) (hx : x ∈ begins) {st' : PS} (hi : Tel (innerD (formD n) x (toS s1)) () st') : Tel (formD (n + 1) (toS st)) (s1.g.length : Int) st' := by
 unfold formD
 rw [tel.live h1]
 show Tel (if x = 64 then _ else if 500 ≤ s1.g.length ∨ x ∉ begins then _ else _) _ _
 rw [if_neg h64, if_neg (fun h => h.elim h5 (fun h => h hx))]
 exact hi.bnd (fun h => Tel.ok h) (fun _ => rfl)
theorem form_bad {n : Nat} {st s1 : PS} {x : UInt8} (tel : Tel (nextS (toS st)) x s1) (h1 : s1.e = 0) (h64 : x ≠ 64) (h : 500 ≤ s1.g.length ∨ x ∉ begins) : Tel (formD (n + 1) (toS st)) 0 (failM s1 4) := by
 unfold formD
 rw [tel.live h1]
 show Tel (if x = 64 then _ else if 500 ≤ s1.g.length ∨ x ∉ begins then _ else _) _ _
 rw [if_neg h64, if_pos h]
 exact ⟨fail_e h1 4, by decide⟩
theorem form_ref {n : Nat} {st s1 s2 : PS} {k : Nat} (tel : Tel (nextS (toS st)) 64 s1) (h1 : s1.e = 0) (tk : Tel (numS maxN (toS s1)) k s2) : (s2.e ≠ 0 → Tel (formD (n + 1) (toS st)) 0 s2) ∧ (s2.e = 0 → s2.cells.length ≤ k → Tel (formD (n + 1) (toS st)) 0 (failM s2 4)) ∧ (s2.e = 0 → k < s2.cells.length → Tel (formD (n + 1) (toS st)) (s2.cells.getD k 0) s2) := by
 unfold formD
 rw [tel.live h1]
 refine ⟨fun h => ?_, fun h h2 => ?_, fun h h2 => ?_⟩
 ·show Tel (bnd (numS maxN (toS s1)) _) _ _
  rw [tk.dead h]
  exact ⟨rfl, h⟩
 ·show Tel (bnd (numS maxN (toS s1)) _) _ _
  rw [tk.live h]
  show Tel (match s2.cells[k]? with
   | some c => .ok (c, toS s2)
   | none => .error 4) _ _
  rw [List.getElem?_eq_none h2]
  exact ⟨fail_e h 4, by decide⟩
 ·show Tel (bnd (numS maxN (toS s1)) _) _ _
  rw [tk.live h]
  show Tel (match s2.cells[k]? with
   | some c => .ok (c, toS s2)
   | none => .error 4) _ _
  rw [List.getD_eq_getElem?_getD, List.getElem?_eq_getElem h2]
  exact Tel.ok h
theorem add_le {st s2 : PS} (le : Le 0 st s2) (h5 : s2.g.length < 500) (c : Cell) : Le 0 st (addP s2 c) := by
 have h1 := le.g
 have h2 := le.cl
 exact ⟨le.pot, le.s, by show _ ≤ (s2.g ++ [c]).length; simp; omega, fun _ => by show (s2.g ++ [c]).length ≤ 500; simp; omega, by show s2.cells.length + st.g.length ≤ st.cells.length + (s2.g ++ [c]).length; simp; omega⟩
theorem open_bd2 {s1 : PS} (b : Bd s1) (h5 : s1.g.length < 500) (c : Cell) (x : Int) : Bd (cellsP (addP s1 c) x) :=
 ⟨by show (s1.g ++ [c]).length ≤ 500; simp; omega, by show (s1.cells ++ [x]).length ≤ (s1.g ++ [c]).length; have := b.cl; simp; omega, b.pot⟩
theorem open_le2 {st s1 : PS} (le : Le 0 st s1) (h5 : s1.g.length < 500) (c : Cell) (x : Int) : Le 0 st (cellsP (addP s1 c) x) := by
 have h1 := le.g
 have h2 := le.cl
 exact ⟨le.pot, le.s, by show _ ≤ (s1.g ++ [c]).length; simp; omega, fun _ => by show (s1.g ++ [c]).length ≤ 500; simp; omega, by show (s1.cells ++ [x]).length + st.g.length ≤ st.cells.length + (s1.g ++ [c]).length; simp; omega⟩
set_option maxHeartbeats 4000000 in
theorem form_step (n : Nat) (hc : FormC n) : FormC (n + 1) := by
  intro rb S st p nm hS ok bd hl h0 hn
  have htel := Ref.next.tel h0
  have hne := next_d rb S (by omega) st p nm hl
  have b1 := bd.le (next_le st)
  have le1 := next_le st
  have les := nextsymD_le st
  have ok1 := ok.same (next_keep st)
  have hl1 := hl.next
  have hlt := next_lt (st := st)
  have hR : ∃ R, formD (n + 1) (toS st) = R := ⟨_, rfl⟩
  refine SpecH.sealP ?_
  refine SpecH.pad [.app 9 1 [] none 0 0, .app 3 1 [] none 0 0] rfl ?_
  refine spec_of_exec hm Tryz.func86 (by kernel_rfl) rfl rfl ?_
  generalize nextM st = q at htel hne b1 le1 ok1 hl1 hlt les
  obtain ⟨x, s1⟩ := q
  simp only at htel hne b1 le1 ok1 hl1 hlt les
  refine wX ?_
  refine callG (hne) [0, 1, 2, 3, 4] rfl ⟨rfl, rfl, rfl, rfl, rfl, trivial⟩ rfl fun _ _ => ?_
  refine wX ?_
  refine LdN.one (a := some ⟨rb, 0, none⟩) (q := 5) (.int .i64 s1.e) rfl (fun w hw => hw.1) rfl ?_
  refine wX ?_
  refine brd_ne (fun he => ?_) (fun he => ?_)
  · refine wX ?_
    refine ⟨dE rb S (s1) (p) (nm ++ []), Nat.le_of_ble_eq_true rfl, seal_d (Nat.le_of_ble_eq_true rfl) rfl rfl rfl rfl (fun w hw => by rw [List.append_nil]; exact hw.1), ⟨_, rfl⟩, ⟨⟨_, s1, p, []⟩, ⟨?_, ?_, ?_, ?_, ?_, ?_, ?_⟩, rfl, rfl⟩⟩
    · exact ok1
    · exact (List.append_nil _).symm
    · intro q hq; cases hq
    · exact hl1
    · exact le1
    · exact fun h => absurd h he
    · exact htel.bnd (fun h => absurd h he) (fun _ => rfl)
  obtain ⟨hs1, _⟩ := hlt (.inl he)
  have hgl := b1.g
  have hml : p.m.length = s1.g.length := by rw [← ok1.g, List.length_map]
  have hp1 := b1.pot
  by_cases h64 : x = 64
  · subst h64
    have htk := (Ref.num maxN).tel he
    have hnum := number_d rb S (by omega) s1 p nm hl1 maxN
    have ok2 := ok1.same (num_keep maxN s1)
    have le2 := num_le maxN s1
    have hl2 := hl1.num maxN
    have hmo := num_most maxN s1
    generalize numM maxN s1 = q at htk hnum ok2 le2 hl2 hmo
    obtain ⟨k, s2⟩ := q
    simp only at htk hnum ok2 le2 hl2 hmo
    have hmo : k ≤ 1000000000000000 := hmo
    obtain ⟨f1, f2, f3⟩ := form_ref (n := n) htel he htk
    have hls := le2.s
    refine wX ?_
    refine callG (hnum) [0, 1, 2, 3, 4] rfl ⟨rfl, rfl, rfl, rfl, rfl, trivial⟩ rfl fun _ _ => ?_
    refine wX ?_
    refine LdN.one (a := some ⟨rb, 0, none⟩) (q := 5) (.int .i64 s2.e) rfl (fun w hw => hw.1) rfl ?_
    refine wX ?_
    by_cases he2 : s2.e = 0
    · rw [show (s2.e == 0) = true by rw [he2]; rfl]
      refine wX ?_
      refine LdN.one (a := some ⟨rb, 0, none⟩) (q := 3) (.slice p.ca s2.cells.length p.cc) rfl (fun w hw => hw.1) rfl ?_
      refine wX ?_
      refine brd_dec (fun hk => ?_) (fun hk => ?_)
      · refine wX ?_
        refine callG (fail_d rb S s2 p nm 4) [0, 1, 2, 3, 4] rfl ⟨rfl, rfl, rfl, rfl, rfl, trivial⟩ rfl fun _ _ => ?_
        have he4 : (failM s2 4).e = 4 := fail_e he2 4
        refine wX ?_
        refine LdN.one (a := some ⟨rb, 0, none⟩) (q := 5) (.int .i64 (failM s2 4).e) rfl (fun w hw => hw.1) rfl ?_
        refine wX ?_
        rw [show ((failM s2 4).e != 0) = true by rw [he4]; rfl]
        refine wX ?_
        refine ⟨dE rb S (failM s2 4) (p) (nm ++ []), Nat.le_of_ble_eq_true rfl, seal_d (Nat.le_of_ble_eq_true rfl) rfl rfl rfl rfl (fun w hw => by rw [List.append_nil]; exact hw.1), ⟨_, rfl⟩, ⟨⟨_, failM s2 4, p, []⟩, ⟨?_, ?_, ?_, ?_, ?_, ?_, ?_⟩, rfl, rfl⟩⟩
        · exact ok2.same (fail_ss s2 4)
        · exact (List.append_nil _).symm
        · intro q hq; cases hq
        · exact hl2.fail 4
        · exact (le1.trans le2).trans (fail_le s2 4)
        · exact fun h => by rw [he4] at h; exact absurd h (by decide)
        · exact f2 he2 (by omega)
      · have hkl : k < s2.cells.length := by omega
        have hsa : p.ca.isSome = true := by
          cases h : p.ca with
          | none =>
            rw [ok2.ca h] at hkl
            exact absurd hkl (Nat.not_lt_zero _)
          | some b => rfl
        have hget : s2.cells[k]? = some (s2.cells.getD k 0) := by rw [List.getD_eq_getElem?_getD, List.getElem?_eq_getElem hkl]; rfl
        refine wX ?_
        refine LdN.one (a := some ⟨rb, 0, none⟩) (q := 5) (.int .i64 s2.e) rfl (fun w hw => hw.1) rfl ?_
        refine wX ?_
        rw [show (s2.e != 0) = false by rw [he2]; rfl]
        refine wX ?_
        refine LdN.one (a := some ⟨rb, 0, none⟩) (q := 3) (.slice p.ca s2.cells.length p.cc) rfl (fun w hw => hw.1) rfl ?_
        refine wX ?_
        refine Nd.mk ⟨hsa, by omega, by omega⟩ ?_
        refine wX ?_
        refine LdN.one (.int .i64 (s2.cells.getD k 0)) rfl (fun w hw => hw.2.2.2.1) (by show (iC s2.cells)[Int.toNat _ * 1]? = _; rw [Int.toNat_natCast, Nat.mul_one]; exact iC_get hget) ?_
        refine wX ?_
        refine ⟨dE rb S (s2) (p) (nm ++ []), Nat.le_of_ble_eq_true rfl, seal_d (Nat.le_of_ble_eq_true rfl) rfl rfl rfl rfl (fun w hw => by rw [List.append_nil]; exact hw.1), ⟨_, rfl⟩, ⟨⟨_, s2, p, []⟩, ⟨?_, ?_, ?_, ?_, ?_, ?_, ?_⟩, rfl, rfl⟩⟩
        · exact ok2
        · exact (List.append_nil _).symm
        · intro q hq; cases hq
        · exact hl2
        · exact le1.trans le2
        · exact fun _ => by show s2.s.length < _; omega
        · exact f3 he2 hkl
    · rw [show (s2.e == 0) = false by simpa using he2]
      refine wX ?_
      refine LdN.one (a := some ⟨rb, 0, none⟩) (q := 5) (.int .i64 s2.e) rfl (fun w hw => hw.1) rfl ?_
      refine wX ?_
      refine brd_ne (fun _ => ?_) (fun h => absurd h he2)
      refine wX ?_
      refine ⟨dE rb S (s2) (p) (nm ++ []), Nat.le_of_ble_eq_true rfl, seal_d (Nat.le_of_ble_eq_true rfl) rfl rfl rfl rfl (fun w hw => by rw [List.append_nil]; exact hw.1), ⟨_, rfl⟩, ⟨⟨_, s2, p, []⟩, ⟨?_, ?_, ?_, ?_, ?_, ?_, ?_⟩, rfl, rfl⟩⟩
      · exact ok2
      · exact (List.append_nil _).symm
      · intro q hq; cases hq
      · exact hl2
      · exact le1.trans le2
      · exact fun h => absurd h he2
      · exact f1 he2
  have e64 : ((x.toNat : Int) == 64) = false := by
    rw [beq_eq_false_iff_ne]
    intro h5
    exact h64 (UInt8.toNat_inj.1 (by have : x.toNat = 64 := by omega
                                     rw [this]; rfl))
  by_cases h5 : 500 ≤ s1.g.length
  · refine wX ?_
    rw [show ((x.toNat : Int) != 64) = true by rw [bne, e64]; rfl]
    refine wX ?_
    refine LdN.one (a := some ⟨rb, 0, none⟩) (q := 2) (.slice p.ga p.m.length p.gc) rfl (fun w hw => hw.1) rfl ?_
    refine wX ?_
    rw [show decide ((p.m.length : Int) ≥ 500) = true by simp; omega]
    refine wX ?_
    refine callG (fail_d rb S s1 p nm 4) [0, 1, 2, 3, 4] rfl ⟨rfl, rfl, rfl, rfl, rfl, trivial⟩ rfl fun _ _ => ?_
    refine wX ?_
    refine ⟨dE rb S (failM s1 4) (p) (nm ++ []), Nat.le_of_ble_eq_true rfl, seal_d (Nat.le_of_ble_eq_true rfl) rfl rfl rfl rfl (fun w hw => by rw [List.append_nil]; exact hw.1), ⟨_, rfl⟩, ⟨⟨_, failM s1 4, p, []⟩, ⟨?_, ?_, ?_, ?_, ?_, ?_, ?_⟩, rfl, rfl⟩⟩
    · exact ok1.same (fail_ss s1 4)
    · exact (List.append_nil _).symm
    · intro q hq; cases hq
    · exact hl1.fail 4
    · exact le1.trans (fail_le s1 4)
    · exact fun h => by rw [fail_e he 4] at h; exact absurd h (by decide)
    · exact form_bad htel he h64 (.inl h5)
  by_cases hx : x ∈ begins
  · have hx2 := hx
    unfold begins at hx2
    simp only [List.mem_cons, List.not_mem_nil, or_false] at hx2
    have hp2 : ∃ p2 : RdP, p2 = p := ⟨p, rfl⟩
    obtain ⟨p2, rfl⟩ := hp2
    have hm3 := hml
    have hp3 : p2 = p2 := rfl
    rcases hx2 with rfl | rfl | rfl | rfl | rfl | rfl | rfl | rfl | rfl | rfl
    · have ok2 := ok1
      have hl2 := hl1
      have le2 := le1
      refine wX ?_
      refine LdN.one (a := some ⟨rb, 0, none⟩) (q := 2) (.slice p2.ga p2.m.length p2.gc) rfl (fun w hw => hw.1) rfl ?_
      refine wX ?_
      rw [show decide ((p2.m.length : Int) ≥ 500) = false by simp; omega]
      refine wX ?_
      refine callG (add_d rb S s1 p2 nm ⟨0, 0, [], [], []⟩ ⟨rfl, rfl⟩ (by omega)) [0, 1, 2, 3, 4] rfl ⟨rfl, rfl, rfl, rfl, rfl, trivial⟩ rfl fun i _ => ?_
      refine wX ?_
      refine ⟨dE rb S (addP s1 ⟨0, 0, [], [], []⟩) ({ p2 with m := p2.m ++ [plP ⟨0, 0, [], [], []⟩], ga := some ⟨i.1, 0, none⟩, gc := i.2 }) (nm ++ [plP ⟨0, 0, [], [], []⟩]), Nat.le_of_ble_eq_true rfl, seal_d (Nat.le_of_ble_eq_true rfl) rfl rfl rfl rfl (fun w hw => fun q hq => (List.mem_append.1 hq).elim (hw.1 q) (fun h => by rw [List.mem_singleton.1 h]; exact cell_plain rfl rfl w)), ⟨_, rfl⟩, ⟨⟨_, addP s1 ⟨0, 0, [], [], []⟩, { p2 with m := p2.m ++ [plP ⟨0, 0, [], [], []⟩], ga := some ⟨i.1, 0, none⟩, gc := i.2 }, [plP ⟨0, 0, [], [], []⟩]⟩, ⟨?_, ?_, ?_, ?_, ?_, ?_, ?_⟩, rfl, rfl⟩⟩
      · exact ok2.add ⟨0, 0, [], [], []⟩ _ _
      · exact by first | rfl | (show _ = _; rw [hp3])
      · intro q hq
        rw [List.mem_singleton.1 hq]
        exact ok_leaf rfl rfl (Nat.zero_le _)
      · exact hl2
      · exact add_le le2 (by omega) _
      · exact fun _ => by show s1.s.length < _; omega
      · show Tel _ (p2.m.length : Int) _
        rw [hm3]
        exact form_open htel he h64 h5 hx (Tel.addS he _)
    · have ok2 := ok1
      have hl2 := hl1
      have le2 := le1
      refine wX ?_
      refine LdN.one (a := some ⟨rb, 0, none⟩) (q := 2) (.slice p2.ga p2.m.length p2.gc) rfl (fun w hw => hw.1) rfl ?_
      refine wX ?_
      rw [show decide ((p2.m.length : Int) ≥ 500) = false by simp; omega]
      refine wX ?_
      refine callG (add_d rb S s1 p2 nm ⟨1, 0, [], [], []⟩ ⟨rfl, rfl⟩ (by omega)) [0, 1, 2, 3, 4] rfl ⟨rfl, rfl, rfl, rfl, rfl, trivial⟩ rfl fun i _ => ?_
      refine wX ?_
      refine ⟨dE rb S (addP s1 ⟨1, 0, [], [], []⟩) ({ p2 with m := p2.m ++ [plP ⟨1, 0, [], [], []⟩], ga := some ⟨i.1, 0, none⟩, gc := i.2 }) (nm ++ [plP ⟨1, 0, [], [], []⟩]), Nat.le_of_ble_eq_true rfl, seal_d (Nat.le_of_ble_eq_true rfl) rfl rfl rfl rfl (fun w hw => fun q hq => (List.mem_append.1 hq).elim (hw.1 q) (fun h => by rw [List.mem_singleton.1 h]; exact cell_plain rfl rfl w)), ⟨_, rfl⟩, ⟨⟨_, addP s1 ⟨1, 0, [], [], []⟩, { p2 with m := p2.m ++ [plP ⟨1, 0, [], [], []⟩], ga := some ⟨i.1, 0, none⟩, gc := i.2 }, [plP ⟨1, 0, [], [], []⟩]⟩, ⟨?_, ?_, ?_, ?_, ?_, ?_, ?_⟩, rfl, rfl⟩⟩
      · exact ok2.add ⟨1, 0, [], [], []⟩ _ _
      · exact by first | rfl | (show _ = _; rw [hp3])
      · intro q hq
        rw [List.mem_singleton.1 hq]
        exact ok_leaf rfl rfl (Nat.zero_le _)
      · exact hl2
      · exact add_le le2 (by omega) _
      · exact fun _ => by show s1.s.length < _; omega
      · show Tel _ (p2.m.length : Int) _
        rw [hm3]
        exact form_open htel he h64 h5 hx (Tel.addS he _)
    · have ok2 := ok1
      have hl2 := hl1
      have le2 := le1
      refine wX ?_
      refine LdN.one (a := some ⟨rb, 0, none⟩) (q := 2) (.slice p2.ga p2.m.length p2.gc) rfl (fun w hw => hw.1) rfl ?_
      refine wX ?_
      rw [show decide ((p2.m.length : Int) ≥ 500) = false by simp; omega]
      refine wX ?_
      refine callG (add_d rb S s1 p2 nm ⟨2, 0, [], [], []⟩ ⟨rfl, rfl⟩ (by omega)) [0, 1, 2, 3, 4] rfl ⟨rfl, rfl, rfl, rfl, rfl, trivial⟩ rfl fun i _ => ?_
      refine wX ?_
      refine ⟨dE rb S (addP s1 ⟨2, 0, [], [], []⟩) ({ p2 with m := p2.m ++ [plP ⟨2, 0, [], [], []⟩], ga := some ⟨i.1, 0, none⟩, gc := i.2 }) (nm ++ [plP ⟨2, 0, [], [], []⟩]), Nat.le_of_ble_eq_true rfl, seal_d (Nat.le_of_ble_eq_true rfl) rfl rfl rfl rfl (fun w hw => fun q hq => (List.mem_append.1 hq).elim (hw.1 q) (fun h => by rw [List.mem_singleton.1 h]; exact cell_plain rfl rfl w)), ⟨_, rfl⟩, ⟨⟨_, addP s1 ⟨2, 0, [], [], []⟩, { p2 with m := p2.m ++ [plP ⟨2, 0, [], [], []⟩], ga := some ⟨i.1, 0, none⟩, gc := i.2 }, [plP ⟨2, 0, [], [], []⟩]⟩, ⟨?_, ?_, ?_, ?_, ?_, ?_, ?_⟩, rfl, rfl⟩⟩
      · exact ok2.add ⟨2, 0, [], [], []⟩ _ _
      · exact by first | rfl | (show _ = _; rw [hp3])
      · intro q hq
        rw [List.mem_singleton.1 hq]
        exact ok_leaf rfl rfl (Nat.zero_le _)
      · exact hl2
      · exact add_le le2 (by omega) _
      · exact fun _ => by show s1.s.length < _; omega
      · show Tel _ (p2.m.length : Int) _
        rw [hm3]
        exact form_open htel he h64 h5 hx (Tel.addS he _)
    · have htk := (Ref.num (2 * maxN)).tel he
      have hnum := number_d rb S (by omega) s1 p2 nm hl1 (2 * maxN)
      have ok2 := ok1.same (num_keep (2 * maxN) s1)
      have le2 := le1.trans (num_le (2 * maxN) s1)
      have hl2 := hl1.num (2 * maxN)
      have hkp := num_keep (2 * maxN) s1
      have hmo := num_most (2 * maxN) s1
      have hls2 := (num_le (2 * maxN) s1).s
      generalize numM (2 * maxN) s1 = q at htk hnum ok2 le2 hl2 hkp hmo hls2
      obtain ⟨m, s2⟩ := q
      simp only at htk hnum ok2 le2 hl2 hkp hmo hls2
      have hmo : m ≤ 2000000000000000 := hmo
      have hg2 : s2.g.length = s1.g.length := by rw [hkp.2.1]
      refine wX ?_
      refine LdN.one (a := some ⟨rb, 0, none⟩) (q := 2) (.slice p2.ga p2.m.length p2.gc) rfl (fun w hw => hw.1) rfl ?_
      refine wX ?_
      rw [show decide ((p2.m.length : Int) ≥ 500) = false by simp; omega]
      refine wX ?_
      refine callG (hnum) [0, 1, 2, 3, 4] rfl ⟨rfl, rfl, rfl, rfl, rfl, trivial⟩ rfl fun _ _ => ?_
      refine wX ?_
      have em : (m : Int).tmod 2 = ((m % 2 : Nat) : Int) := (Int.ofNat_tmod m 2).symm
      have ed : (m : Int).tdiv 2 = ((m / 2 : Nat) : Int) := (Int.ofNat_tdiv m 2).symm
      refine brd_eq (fun h => ?_) (fun h => ?_)
      · have hu : unsgn m = -(((m + 1) / 2 : Nat) : Int) := by unfold unsgn; rw [if_pos (by omega)]
        refine wX ?_
        rw [show IntKind.i64.wrap ((IntKind.i64.wrap (0 - IntKind.i64.wrap ((m : Int) + 1))).tdiv 2) = unsgn m by
          rw [wrap_i64 (x := (m : Int) + 1) (by omega), wrap_i64 (x := 0 - ((m : Int) + 1)) (by omega), show (0 : Int) - ((m : Int) + 1) = -(((m + 1 : Nat)) : Int) by omega, Int.neg_tdiv, show ((m + 1 : Nat) : Int).tdiv 2 = (((m + 1) / 2 : Nat) : Int) from (Int.ofNat_tdiv (m + 1) 2).symm, wrap_i64 (by omega), hu]]
        refine callG (add_d rb S s2 p2 nm ⟨3, unsgn m, [], [], []⟩ ⟨rfl, rfl⟩ (by omega)) [0, 1, 2, 3, 4] rfl ⟨rfl, rfl, rfl, rfl, rfl, trivial⟩ rfl fun i _ => ?_
        refine wX ?_
        refine ⟨dE rb S (addP s2 ⟨3, unsgn m, [], [], []⟩) ({ p2 with m := p2.m ++ [plP ⟨3, unsgn m, [], [], []⟩], ga := some ⟨i.1, 0, none⟩, gc := i.2 }) (nm ++ [plP ⟨3, unsgn m, [], [], []⟩]), Nat.le_of_ble_eq_true rfl, seal_d (Nat.le_of_ble_eq_true rfl) rfl rfl rfl rfl (fun w hw => fun q hq => (List.mem_append.1 hq).elim (hw.1 q) (fun h => by rw [List.mem_singleton.1 h]; exact cell_plain rfl rfl w)), ⟨_, rfl⟩, ⟨⟨_, addP s2 ⟨3, unsgn m, [], [], []⟩, { p2 with m := p2.m ++ [plP ⟨3, unsgn m, [], [], []⟩], ga := some ⟨i.1, 0, none⟩, gc := i.2 }, [plP ⟨3, unsgn m, [], [], []⟩]⟩, ⟨?_, ?_, ?_, ?_, ?_, ?_, ?_⟩, rfl, rfl⟩⟩
        · exact ok2.add ⟨3, unsgn m, [], [], []⟩ _ _
        · exact by first | rfl | (show _ = _; rw [hp3])
        · intro q hq
          rw [List.mem_singleton.1 hq]
          exact ok_leaf rfl rfl (Nat.zero_le _)
        · exact hl2
        · exact add_le le2 (by omega) _
        · exact fun _ => by show s2.s.length < _; omega
        · show Tel _ (p2.m.length : Int) _
          rw [hm3]
          exact form_open htel he h64 h5 hx (htk.bnd (fun h => Tel.addS h _) (fun _ => rfl))
      · have hu : unsgn m = ((m / 2 : Nat) : Int) := by unfold unsgn; rw [if_neg (by omega)]
        refine wX ?_
        rw [show (m : Int).tdiv 2 = unsgn m by rw [ed, hu]]
        refine callG (add_d rb S s2 p2 nm ⟨3, unsgn m, [], [], []⟩ ⟨rfl, rfl⟩ (by omega)) [0, 1, 2, 3, 4] rfl ⟨rfl, rfl, rfl, rfl, rfl, trivial⟩ rfl fun i _ => ?_
        refine wX ?_
        refine ⟨dE rb S (addP s2 ⟨3, unsgn m, [], [], []⟩) ({ p2 with m := p2.m ++ [plP ⟨3, unsgn m, [], [], []⟩], ga := some ⟨i.1, 0, none⟩, gc := i.2 }) (nm ++ [plP ⟨3, unsgn m, [], [], []⟩]), Nat.le_of_ble_eq_true rfl, seal_d (Nat.le_of_ble_eq_true rfl) rfl rfl rfl rfl (fun w hw => fun q hq => (List.mem_append.1 hq).elim (hw.1 q) (fun h => by rw [List.mem_singleton.1 h]; exact cell_plain rfl rfl w)), ⟨_, rfl⟩, ⟨⟨_, addP s2 ⟨3, unsgn m, [], [], []⟩, { p2 with m := p2.m ++ [plP ⟨3, unsgn m, [], [], []⟩], ga := some ⟨i.1, 0, none⟩, gc := i.2 }, [plP ⟨3, unsgn m, [], [], []⟩]⟩, ⟨?_, ?_, ?_, ?_, ?_, ?_, ?_⟩, rfl, rfl⟩⟩
        · exact ok2.add ⟨3, unsgn m, [], [], []⟩ _ _
        · exact by first | rfl | (show _ = _; rw [hp3])
        · intro q hq
          rw [List.mem_singleton.1 hq]
          exact ok_leaf rfl rfl (Nat.zero_le _)
        · exact hl2
        · exact add_le le2 (by omega) _
        · exact fun _ => by show s2.s.length < _; omega
        · show Tel _ (p2.m.length : Int) _
          rw [hm3]
          exact form_open htel he h64 h5 hx (htk.bnd (fun h => Tel.addS h _) (fun _ => rfl))
    · -- there is room for a cell
      refine wX ?_
      refine LdN.one (a := some ⟨rb, 0, none⟩) (q := 2) (.slice p2.ga p2.m.length p2.gc) rfl (fun w hw => hw.1) rfl ?_
      refine wX ?_
      rw [show decide ((p2.m.length : Int) ≥ 500) = false by simp; omega]
      refine wX ?_
      refine callG (add_d rb S s1 p2 nm ⟨4, 0, [], [], []⟩ ⟨rfl, rfl⟩ (by omega)) [0, 1, 2, 3, 4] rfl ⟨rfl, rfl, rfl, rfl, rfl, trivial⟩ rfl fun i _ => ?_
      have ok2 := ok1.add ⟨4, 0, [], [], []⟩ i.1 i.2
      have hbo := open_bd2 b1 (by omega) ⟨4, 0, [], [], []⟩ (p2.m.length : Int)
      have hlo := open_le2 le1 (by omega) ⟨4, 0, [], [], []⟩ (p2.m.length : Int)
      have hbc := b1.cl
      refine wX ?_
      refine LdN.one (a := some ⟨rb, 0, none⟩) (q := 3) (.slice p2.ca s1.cells.length p2.cc) rfl (fun w hw => hw.1) rfl ?_
      refine wX ?_
      refine Nd.mk ⟨Nat.le_refl 1, rfl, rfl⟩ ?_
      (conv => whnf)
      refine AppN.grow 3 (iC s1.cells) [.int .i64 (p2.m.length : Int)] rfl rfl ⟨Nat.le_refl 1, ⟨by show (s1.cells.length + 1) * 8 ≤ _; omega, by omega⟩, by decide⟩ fun cb cc' g1 g2 => ?_
      refine wX ?_
      have e1 : iC s1.cells ++ [.int .i64 (p2.m.length : Int)] = iC (s1.cells ++ [(p2.m.length : Int)]) := by simp [iC]
      have e2 : s1.cells.length + 1 = (s1.cells ++ [(p2.m.length : Int)]).length := by simp
      rw [e1, e2]
      refine EffW.appTo (i := 0) (q := 3) (ys := [_]) (ddC S (cellsP (addP s1 ⟨4, 0, [], [], []⟩) (p2.m.length : Int)) ({ p2 with m := p2.m ++ [plP ⟨4, 0, [], [], []⟩], ga := some ⟨i.1, 0, none⟩, gc := i.2, ca := some ⟨cb, 0, none⟩, cc := cc' } : RdP)) 6 rfl rfl rfl rfl rfl rfl rfl (Nat.le_of_ble_eq_true rfl) rfl rfl ?_
      have ok3 : OkD (cellsP (addP s1 ⟨4, 0, [], [], []⟩) (p2.m.length : Int)) ({ p2 with m := p2.m ++ [plP ⟨4, 0, [], [], []⟩], ga := some ⟨i.1, 0, none⟩, gc := i.2, ca := some ⟨cb, 0, none⟩, cc := cc' } : RdP) := ⟨ok2.g, ok2.ga, (fun h => by cases h), ok2.sa, ok2.sw, ok2.gx⟩
      have h03 : ((cellsP (addP s1 ⟨4, 0, [], [], []⟩) (p2.m.length : Int))).e = 0 := he
      have hl3 : Left S (cellsP (addP s1 ⟨4, 0, [], [], []⟩) (p2.m.length : Int)) := hl1
      have htk := (Ref.text maxN).tel h03
      have htx := text_e rb S (by omega) (cellsP (addP s1 ⟨4, 0, [], [], []⟩) (p2.m.length : Int)) ({ p2 with m := p2.m ++ [plP ⟨4, 0, [], [], []⟩], ga := some ⟨i.1, 0, none⟩, gc := i.2, ca := some ⟨cb, 0, none⟩, cc := cc' } : RdP) nm hl3 maxN
      have htl := text_len maxN (cellsP (addP s1 ⟨4, 0, [], [], []⟩) (p2.m.length : Int))
      have ok4 := ok3.same (text_keep maxN (cellsP (addP s1 ⟨4, 0, [], [], []⟩) (p2.m.length : Int)))
      have hl4 := hl3.text maxN
      have le4 := hlo.trans (text_le maxN (cellsP (addP s1 ⟨4, 0, [], [], []⟩) (p2.m.length : Int)))
      have hls4 := (text_le maxN (cellsP (addP s1 ⟨4, 0, [], [], []⟩) (p2.m.length : Int))).s
      generalize textM maxN (cellsP (addP s1 ⟨4, 0, [], [], []⟩) (p2.m.length : Int)) = q at htk htx htl ok4 hl4 le4 hls4
      obtain ⟨t, s4⟩ := q
      simp only at htk htx htl ok4 hl4 le4 hls4
      have hls4 : s4.s.length ≤ s1.s.length := hls4
      have htl : t.length ≤ s1.s.length := htl
      refine wX ?_
      refine DrawN.planC (fun w => w.cell? ((⟨rb, 0, none⟩ : Addr).add 2) = some (.slice (some ⟨i.1, 0, none⟩) (p2.m ++ [plP ⟨4, 0, [], [], []⟩]).length i.2)) [0, 4, 5] [(1, 1), (2, 2), (3, 1), (6, 0)] [(7, 0), (8, 0), (9, 0)] (by decide +kernel) (fun w hw => hw.1.cell rfl) ?_
      refine wXO ?_
      refine ReadC.load _ rfl rfl (fun w hw => loadVar_cell rfl hw) ?_
      refine wXO ?_
      refine callG (htx) [0, 1, 2, 3, 4] rfl ⟨rfl, rfl, rfl, rfl, rfl, trivial⟩ rfl fun _ _ => ?_
      refine wXO ?_
      have hml4 : (p2.m ++ [plP ⟨4, 0, [], [], []⟩]).length = p2.m.length + 1 := by simp
      refine Nd.mk ⟨rfl, by omega, by omega⟩ ?_
      (conv => whnf)
      have hgk : (p2.m ++ [plP ⟨4, 0, [], [], []⟩])[p2.m.length]? = some (plP ⟨4, 0, [], [], []⟩) := pre_get _ _ _
      have hset : (p2.m ++ [plP ⟨4, 0, [], [], []⟩]).set p2.m.length (plP ⟨4, 0, t, [], []⟩) = p2.m ++ [plP ⟨4, 0, t, [], []⟩] := pre_set _ _ _ _
      have hq2 : p2.m.length * 5 + 2 < (grC (p2.m ++ [plP ⟨4, 0, [], [], []⟩])).length := by rw [grC_len]; omega
      refine EffW.appTo (i := 1) (q := p2.m.length * 5 + 2) (ys := [.string (bs t)]) (grC (p2.m ++ [plP ⟨4, 0, t, [], []⟩])) 5 rfl (by rw [Int.toNat_natCast]; show AV.c (CV.v (Value.pointer (some (((⟨i.1, 0, none⟩ : Addr).add (p2.m.length * 5)).add 2)))) = _; rw [add_lit0, add_lit]) rfl rfl rfl rfl rfl (by show p2.m.length * 5 + 2 + 1 ≤ (p2.m ++ [plP ⟨4, 0, [], [], []⟩]).length * 5; omega) ((put_set _ hq2).trans ((grC_fld (by omega) hgk rfl).trans (by rw [hset]))) rfl ?_
      refine wX ?_
      have hml5 : (p2.m ++ [plP ⟨4, 0, t, [], []⟩]).length = (p2.m ++ [plP ⟨4, 0, [], [], []⟩]).length := by simp
      have hrc : ddC S (putG p2.m.length ⟨4, 0, t, [], []⟩ s4) { ({ p2 with m := p2.m ++ [plP ⟨4, 0, [], [], []⟩], ga := some ⟨i.1, 0, none⟩, gc := i.2, ca := some ⟨cb, 0, none⟩, cc := cc' } : RdP) with m := p2.m ++ [plP ⟨4, 0, t, [], []⟩] } = ddC S s4 ({ p2 with m := p2.m ++ [plP ⟨4, 0, [], [], []⟩], ga := some ⟨i.1, 0, none⟩, gc := i.2, ca := some ⟨cb, 0, none⟩, cc := cc' } : RdP) := by simp [ddC, putG]
      have hgd : s4.g.getD p2.m.length nilC = ⟨4, 0, [], [], []⟩ := map_get ok4.g (q := plP ⟨4, 0, [], [], []⟩) hgk
      refine ⟨dE rb S (putG p2.m.length ⟨4, 0, t, [], []⟩ s4) { ({ p2 with m := p2.m ++ [plP ⟨4, 0, [], [], []⟩], ga := some ⟨i.1, 0, none⟩, gc := i.2, ca := some ⟨cb, 0, none⟩, cc := cc' } : RdP) with m := p2.m ++ [plP ⟨4, 0, t, [], []⟩] } (nm ++ [plP ⟨4, 0, t, [], []⟩]), Nat.le_of_ble_eq_true rfl, seal_d (Nat.le_of_ble_eq_true rfl) (by rw [hrc]; rfl) (by rw [hml5]; rfl) rfl rfl (fun w hw => fun q hq => (List.mem_append.1 hq).elim (hw.1 q) (fun h => by rw [List.mem_singleton.1 h]; exact cell_plain rfl rfl w)), ⟨_, rfl⟩, ⟨⟨_, putG p2.m.length ⟨4, 0, t, [], []⟩ s4, { ({ p2 with m := p2.m ++ [plP ⟨4, 0, [], [], []⟩], ga := some ⟨i.1, 0, none⟩, gc := i.2, ca := some ⟨cb, 0, none⟩, cc := cc' } : RdP) with m := p2.m ++ [plP ⟨4, 0, t, [], []⟩] }, [plP ⟨4, 0, t, [], []⟩]⟩, ⟨?_, ?_, ?_, ?_, ?_, ?_, ?_⟩, rfl, rfl⟩⟩
      · have h9 := ok4.put p2.m.length (plP ⟨4, 0, t, [], []⟩) (by show p2.m.length < (p2.m ++ [plP ⟨4, 0, [], [], []⟩]).length; omega)
        rw [show (({ p2 with m := p2.m ++ [plP ⟨4, 0, [], [], []⟩], ga := some ⟨i.1, 0, none⟩, gc := i.2, ca := some ⟨cb, 0, none⟩, cc := cc' } : RdP)).m.set p2.m.length (plP ⟨4, 0, t, [], []⟩) = p2.m ++ [plP ⟨4, 0, t, [], []⟩] from hset] at h9
        exact h9
      · rfl
      · intro q hq
        rw [List.mem_singleton.1 hq]
        exact ok_leaf rfl rfl (by show t.length ≤ _; omega)
      · exact hl4
      · exact le4.trans (put_le _ _ _)
      · exact fun _ => by show s4.s.length < _; omega
      · show Tel _ (p2.m.length : Int) _
        rw [hml]
        refine form_open htel he h64 h5 hx ?_
        have h9 : openK 4 (toS s1) = toS (cellsP (addP s1 ⟨4, 0, [], [], []⟩) (p2.m.length : Int)) := by rw [hml]; rfl
        show Tel (Marshal.bnd (textS maxN (openK 4 (toS s1))) fun t st' => .ok ((), setT s1.g.length t st')) () _
        rw [h9]
        refine htk.bnd (fun h => ?_) (fun _ => rfl)
        rw [hml] at hgd
        have h8 : setT s1.g.length t (toS s4) = toS (putG s1.g.length ⟨4, 0, t, [], []⟩ s4) := by
          unfold setT toS putG
          simp only [hgd]
        show Tel (.ok ((), setT s1.g.length t (toS s4))) () (putG s1.g.length ⟨4, 0, t, [], []⟩ s4)
        rw [h8]
        exact Tel.ok h
    · have hls2 : (symD 58 s1).2.s.length ≤ s1.s.length := (symD_le 58 s1).s
      have htk := (Ref.symD 58).tel he
      have hsym := symbol_d rb S (by omega) 58 s1 p2 nm hl1 ok1.sa (by omega)
      have oks := fun i hi => ok1.sym (by omega) 58 (i := i) hi
      have hl2 := symD_left hl1 58
      have hlen := (symD_len 58 s1 (by omega) ok1.sw).1
      have hkp := symD_keep 58 s1
      have le2 := les
      generalize symD 58 s1 = q at htk hsym oks hl2 hlen hkp le2 hls2
      obtain ⟨t, s2⟩ := q
      simp only at htk hsym oks hl2 hlen hkp le2 hls2
      have hg2 : s2.g.length = s1.g.length := by rw [hkp.1]
      have hs2 : s2.s.length < st.s.length := Nat.lt_of_le_of_lt hls2 hs1
      refine wX ?_
      refine LdN.one (a := some ⟨rb, 0, none⟩) (q := 2) (.slice p2.ga p2.m.length p2.gc) rfl (fun w hw => hw.1) rfl ?_
      refine wX ?_
      rw [show decide ((p2.m.length : Int) ≥ 500) = false by simp; omega]
      refine wX ?_
      refine callG hsym [0, 1, 2, 3, 4] rfl ⟨rfl, rfl, rfl, rfl, rfl, trivial⟩ rfl fun j hj => ?_
      have ok2 := oks j hj
      obtain ⟨p3, hp3⟩ : ∃ p3 : RdP, p3 = { p2 with sa := j.1, sc := j.2 } := ⟨_, rfl⟩
      have hm3 : p3.m.length = s1.g.length := by rw [hp3]; exact hml
      rw [← hp3] at ok2 ⊢
      refine wX ?_
      refine callG (add_d rb S s2 p3 nm ⟨5, 0, t, [], []⟩ ⟨rfl, rfl⟩ (by omega)) [0, 1, 2, 3, 4] rfl ⟨rfl, rfl, rfl, rfl, rfl, trivial⟩ rfl fun i _ => ?_
      refine wX ?_
      refine ⟨dE rb S (addP s2 ⟨5, 0, t, [], []⟩) ({ p3 with m := p3.m ++ [plP ⟨5, 0, t, [], []⟩], ga := some ⟨i.1, 0, none⟩, gc := i.2 }) (nm ++ [plP ⟨5, 0, t, [], []⟩]), Nat.le_of_ble_eq_true rfl, seal_d (Nat.le_of_ble_eq_true rfl) rfl rfl rfl rfl (fun w hw => fun q hq => (List.mem_append.1 hq).elim (hw.1 q) (fun h => by rw [List.mem_singleton.1 h]; exact cell_plain rfl rfl w)), ⟨_, rfl⟩, ⟨⟨_, addP s2 ⟨5, 0, t, [], []⟩, { p3 with m := p3.m ++ [plP ⟨5, 0, t, [], []⟩], ga := some ⟨i.1, 0, none⟩, gc := i.2 }, [plP ⟨5, 0, t, [], []⟩]⟩, ⟨?_, ?_, ?_, ?_, ?_, ?_, ?_⟩, rfl, rfl⟩⟩
      · exact ok2.add ⟨5, 0, t, [], []⟩ _ _
      · exact by first | rfl | (show _ = _; rw [hp3])
      · intro q hq
        rw [List.mem_singleton.1 hq]
        exact ok_leaf rfl rfl (hlen)
      · exact hl2
      · exact add_le le2 (by omega) _
      · exact fun _ => by show s2.s.length < _; omega
      · show Tel _ (p3.m.length : Int) _
        rw [hm3]
        exact form_open htel he h64 h5 hx (htk.bnd (fun h => Tel.addS h _) (fun _ => rfl))
    · have hls2 : (symD 59 s1).2.s.length ≤ s1.s.length := (symD_le 59 s1).s
      have htk := (Ref.symD 59).tel he
      have hsym := symbol_d rb S (by omega) 59 s1 p2 nm hl1 ok1.sa (by omega)
      have oks := fun i hi => ok1.sym (by omega) 59 (i := i) hi
      have hl2 := symD_left hl1 59
      have hlen := (symD_len 59 s1 (by omega) ok1.sw).1
      have hkp := symD_keep 59 s1
      have le2 := les
      generalize symD 59 s1 = q at htk hsym oks hl2 hlen hkp le2 hls2
      obtain ⟨t, s2⟩ := q
      simp only at htk hsym oks hl2 hlen hkp le2 hls2
      have hg2 : s2.g.length = s1.g.length := by rw [hkp.1]
      have hs2 : s2.s.length < st.s.length := Nat.lt_of_le_of_lt hls2 hs1
      refine wX ?_
      refine LdN.one (a := some ⟨rb, 0, none⟩) (q := 2) (.slice p2.ga p2.m.length p2.gc) rfl (fun w hw => hw.1) rfl ?_
      refine wX ?_
      rw [show decide ((p2.m.length : Int) ≥ 500) = false by simp; omega]
      refine wX ?_
      refine callG hsym [0, 1, 2, 3, 4] rfl ⟨rfl, rfl, rfl, rfl, rfl, trivial⟩ rfl fun j hj => ?_
      have ok2 := oks j hj
      obtain ⟨p3, hp3⟩ : ∃ p3 : RdP, p3 = { p2 with sa := j.1, sc := j.2 } := ⟨_, rfl⟩
      have hm3 : p3.m.length = s1.g.length := by rw [hp3]; exact hml
      rw [← hp3] at ok2 ⊢
      refine wX ?_
      refine callG (add_d rb S s2 p3 nm ⟨5, 0, t, [], []⟩ ⟨rfl, rfl⟩ (by omega)) [0, 1, 2, 3, 4] rfl ⟨rfl, rfl, rfl, rfl, rfl, trivial⟩ rfl fun i _ => ?_
      refine wX ?_
      refine ⟨dE rb S (addP s2 ⟨5, 0, t, [], []⟩) ({ p3 with m := p3.m ++ [plP ⟨5, 0, t, [], []⟩], ga := some ⟨i.1, 0, none⟩, gc := i.2 }) (nm ++ [plP ⟨5, 0, t, [], []⟩]), Nat.le_of_ble_eq_true rfl, seal_d (Nat.le_of_ble_eq_true rfl) rfl rfl rfl rfl (fun w hw => fun q hq => (List.mem_append.1 hq).elim (hw.1 q) (fun h => by rw [List.mem_singleton.1 h]; exact cell_plain rfl rfl w)), ⟨_, rfl⟩, ⟨⟨_, addP s2 ⟨5, 0, t, [], []⟩, { p3 with m := p3.m ++ [plP ⟨5, 0, t, [], []⟩], ga := some ⟨i.1, 0, none⟩, gc := i.2 }, [plP ⟨5, 0, t, [], []⟩]⟩, ⟨?_, ?_, ?_, ?_, ?_, ?_, ?_⟩, rfl, rfl⟩⟩
      · exact ok2.add ⟨5, 0, t, [], []⟩ _ _
      · exact by first | rfl | (show _ = _; rw [hp3])
      · intro q hq
        rw [List.mem_singleton.1 hq]
        exact ok_leaf rfl rfl (hlen)
      · exact hl2
      · exact add_le le2 (by omega) _
      · exact fun _ => by show s2.s.length < _; omega
      · show Tel _ (p3.m.length : Int) _
        rw [hm3]
        exact form_open htel he h64 h5 hx (htk.bnd (fun h => Tel.addS h _) (fun _ => rfl))
    · -- a list of kind 6, so many items for each of its number; rw [Nat.mul_one]: so many are read
      refine wX ?_
      refine LdN.one (a := some ⟨rb, 0, none⟩) (q := 2) (.slice p2.ga p2.m.length p2.gc) rfl (fun w hw => hw.1) rfl ?_
      refine wX ?_
      rw [show decide ((p2.m.length : Int) ≥ 500) = false by simp; omega]
      refine wX ?_
      refine callG (add_d rb S s1 p2 nm ⟨6, 0, [], [], []⟩ ⟨rfl, rfl⟩ (by omega)) [0, 1, 2, 3, 4] rfl ⟨rfl, rfl, rfl, rfl, rfl, trivial⟩ rfl fun i _ => ?_
      have ok3 := ok1.add ⟨6, 0, [], [], []⟩ i.1 i.2
      have hbo := open_bd2 b1 (by omega) ⟨6, 0, [], [], []⟩ (p2.m.length : Int)
      have hit := items_d n hc rb S hS (addP s1 ⟨6, 0, [], [], []⟩) { p2 with m := p2.m ++ [plP ⟨6, 0, [], [], []⟩], ga := some ⟨i.1, 0, none⟩, gc := i.2 } p2.m 6 1 (by omega) (by omega) ok3 rfl hbo hl1 he (by show s1.s.length < n; omega) nm
      refine wX ?_
      refine callG hit [0, 1, 2, 3, 4, 6] rfl ⟨rfl, rfl, rfl, rfl, rfl, rfl, trivial⟩ rfl fun it hit2 => ?_
      obtain ⟨hi, htl⟩ := hit2
      refine wX ?_
      have hls2 : it.st.s.length ≤ s1.s.length := hi.le.s
      have hlo := open_le2 le1 (by omega) ⟨6, 0, [], [], []⟩ (p2.m.length : Int)
      refine ⟨dE rb S (it.st) (it.p) (nm ++ itP 6 it.l it.a it.cap :: it.nm), Nat.le_of_ble_eq_true rfl, seal_d (Nat.le_of_ble_eq_true rfl) rfl rfl rfl rfl (fun w hw => fun q hq => (List.mem_append.1 hq).elim (fun h => hw.1 q (List.mem_append_left _ h)) (fun h => (List.mem_cons.1 h).elim (fun h => by rw [h]; exact ⟨slAt_nil w, hw.2.2.1⟩) (fun h => hw.1 q (List.mem_append_right _ h)))), ⟨_, rfl⟩, ⟨⟨_, it.st, it.p, itP 6 it.l it.a it.cap :: it.nm⟩, ⟨?_, ?_, ?_, ?_, ?_, ?_, ?_⟩, rfl, rfl⟩⟩
      · exact hi.ok
      · exact hi.m
      · intro q hq
        rcases List.mem_cons.1 hq with h | h
        · rw [h]
          have h8 := hi.ll
          exact ⟨fun _ => rfl, hi.la, Nat.zero_le _, by show it.l.length ≤ _; omega, (fun s hs => by cases hs), Nat.zero_le _, Nat.le_refl _, hi.lc⟩
        · exact hi.cell q h
      · exact hi.left
      · exact hlo.trans hi.le
      · exact fun _ => by show it.st.s.length < _; omega
      · show Tel _ (p2.m.length : Int) _
        rw [hml]
        refine form_open htel he h64 h5 hx ?_
        have h9 : (Marshal.bnd (numS maxN (openK 6 (toS s1))) fun n' st' => itemsD (formD n) s1.g.length (n') st') = Marshal.bnd (numS maxN (toS (cellsP (addP s1 ⟨6, 0, [], [], []⟩) (p2.m.length : Int)))) fun m s => itemsD (formD n) p2.m.length (m * 1) s := by
          rw [hml]
          congr 1
          funext m s
          rw [Nat.mul_one]
        show Tel (Marshal.bnd (numS maxN (openK 6 (toS s1))) fun n' st' => itemsD (formD n) s1.g.length (n') st') () it.st
        rw [h9]
        exact htl
    · -- a list of kind 7, so many items for each of its number; rw [Nat.mul_comm]: so many are read
      refine wX ?_
      refine LdN.one (a := some ⟨rb, 0, none⟩) (q := 2) (.slice p2.ga p2.m.length p2.gc) rfl (fun w hw => hw.1) rfl ?_
      refine wX ?_
      rw [show decide ((p2.m.length : Int) ≥ 500) = false by simp; omega]
      refine wX ?_
      refine callG (add_d rb S s1 p2 nm ⟨7, 0, [], [], []⟩ ⟨rfl, rfl⟩ (by omega)) [0, 1, 2, 3, 4] rfl ⟨rfl, rfl, rfl, rfl, rfl, trivial⟩ rfl fun i _ => ?_
      have ok3 := ok1.add ⟨7, 0, [], [], []⟩ i.1 i.2
      have hbo := open_bd2 b1 (by omega) ⟨7, 0, [], [], []⟩ (p2.m.length : Int)
      have hit := items_d n hc rb S hS (addP s1 ⟨7, 0, [], [], []⟩) { p2 with m := p2.m ++ [plP ⟨7, 0, [], [], []⟩], ga := some ⟨i.1, 0, none⟩, gc := i.2 } p2.m 7 2 (by omega) (by omega) ok3 rfl hbo hl1 he (by show s1.s.length < n; omega) nm
      refine wX ?_
      refine callG hit [0, 1, 2, 3, 4, 6] rfl ⟨rfl, rfl, rfl, rfl, rfl, rfl, trivial⟩ rfl fun it hit2 => ?_
      obtain ⟨hi, htl⟩ := hit2
      refine wX ?_
      have hls2 : it.st.s.length ≤ s1.s.length := hi.le.s
      have hlo := open_le2 le1 (by omega) ⟨7, 0, [], [], []⟩ (p2.m.length : Int)
      refine ⟨dE rb S (it.st) (it.p) (nm ++ itP 7 it.l it.a it.cap :: it.nm), Nat.le_of_ble_eq_true rfl, seal_d (Nat.le_of_ble_eq_true rfl) rfl rfl rfl rfl (fun w hw => fun q hq => (List.mem_append.1 hq).elim (fun h => hw.1 q (List.mem_append_left _ h)) (fun h => (List.mem_cons.1 h).elim (fun h => by rw [h]; exact ⟨slAt_nil w, hw.2.2.1⟩) (fun h => hw.1 q (List.mem_append_right _ h)))), ⟨_, rfl⟩, ⟨⟨_, it.st, it.p, itP 7 it.l it.a it.cap :: it.nm⟩, ⟨?_, ?_, ?_, ?_, ?_, ?_, ?_⟩, rfl, rfl⟩⟩
      · exact hi.ok
      · exact hi.m
      · intro q hq
        rcases List.mem_cons.1 hq with h | h
        · rw [h]
          have h8 := hi.ll
          exact ⟨fun _ => rfl, hi.la, Nat.zero_le _, by show it.l.length ≤ _; omega, (fun s hs => by cases hs), Nat.zero_le _, Nat.le_refl _, hi.lc⟩
        · exact hi.cell q h
      · exact hi.left
      · exact hlo.trans hi.le
      · exact fun _ => by show it.st.s.length < _; omega
      · show Tel _ (p2.m.length : Int) _
        rw [hml]
        refine form_open htel he h64 h5 hx ?_
        have h9 : (Marshal.bnd (numS maxN (openK 7 (toS s1))) fun n' st' => itemsD (formD n) s1.g.length (2 * n') st') = Marshal.bnd (numS maxN (toS (cellsP (addP s1 ⟨7, 0, [], [], []⟩) (p2.m.length : Int)))) fun m s => itemsD (formD n) p2.m.length (m * 2) s := by
          rw [hml]
          congr 1
          funext m s
          rw [Nat.mul_comm]
        show Tel (Marshal.bnd (numS maxN (openK 7 (toS s1))) fun n' st' => itemsD (formD n) s1.g.length (2 * n') st') () it.st
        rw [h9]
        exact htl
    · -- there is room for a cell
      refine wX ?_
      refine LdN.one (a := some ⟨rb, 0, none⟩) (q := 2) (.slice p2.ga p2.m.length p2.gc) rfl (fun w hw => hw.1) rfl ?_
      refine wX ?_
      rw [show decide ((p2.m.length : Int) ≥ 500) = false by simp; omega]
      refine wX ?_
      refine callG (add_d rb S s1 p2 nm ⟨8, 0, [], [], []⟩ ⟨rfl, rfl⟩ (by omega)) [0, 1, 2, 3, 4] rfl ⟨rfl, rfl, rfl, rfl, rfl, trivial⟩ rfl fun i _ => ?_
      have ok3 := ok1.add ⟨8, 0, [], [], []⟩ i.1 i.2
      have hbo := open_bd2 b1 (by omega) ⟨8, 0, [], [], []⟩ (p2.m.length : Int)
      have hob := object_d n hc rb S hS (addP s1 ⟨8, 0, [], [], []⟩) { p2 with m := p2.m ++ [plP ⟨8, 0, [], [], []⟩], ga := some ⟨i.1, 0, none⟩, gc := i.2 } p2.m ok3 rfl hbo hl1 he (by show s1.s.length < n; omega) nm
      refine wX ?_
      refine callG hob [0, 1, 2, 3, 4, 5, 6] rfl ⟨rfl, rfl, rfl, rfl, rfl, rfl, rfl, trivial⟩ rfl fun ob hob2 => ?_
      obtain ⟨hi, htl⟩ := hob2
      refine wX ?_
      have hls2 : ob.st.s.length ≤ s1.s.length := hi.le.s
      have hlo := open_le2 le1 (by omega) ⟨8, 0, [], [], []⟩ (p2.m.length : Int)
      refine ⟨dE rb S (ob.st) (ob.p) (nm ++ ob.c :: ob.nm), Nat.le_of_ble_eq_true rfl, seal_d (Nat.le_of_ble_eq_true rfl) rfl rfl rfl rfl (fun w hw => fun q hq => (List.mem_append.1 hq).elim (fun h => hw.1 q (List.mem_append_left _ h)) (fun h => (List.mem_cons.1 h).elim (fun h => by rw [h]; exact ⟨hw.2.1, hw.2.2.1⟩) (fun h => hw.1 q (List.mem_append_right _ h)))), ⟨_, rfl⟩, ⟨⟨_, ob.st, ob.p, ob.c :: ob.nm⟩, ⟨?_, ?_, ?_, ?_, ?_, ?_, ?_⟩, rfl, rfl⟩⟩
      · exact hi.ok
      · exact hi.m
      · intro q hq
        rcases List.mem_cons.1 hq with h | h
        · rw [h]
          have h8 := hi.ll
          have h9 := hi.nl
          have h7 := hi.tl
          exact ⟨hi.na, hi.ia, by show ob.ns.length ≤ _; omega, by show ob.l.length ≤ _; omega, fun s hs => Nat.le_trans (hi.nw s hs) (by omega), by show ob.t.length ≤ _; omega, hi.nb, hi.ib⟩
        · exact hi.cell q h
      · exact hi.left
      · exact hlo.trans hi.le
      · exact fun _ => by show ob.st.s.length < _; omega
      · show Tel _ (p2.m.length : Int) _
        rw [hml]
        refine form_open htel he h64 h5 hx ?_
        have h9 : objD (formD n) s1.g.length (openK 8 (toS s1)) = objD (formD n) p2.m.length (toS (cellsP (addP s1 ⟨8, 0, [], [], []⟩) (p2.m.length : Int))) := by
          rw [hml]
          rfl
        show Tel (objD (formD n) s1.g.length (openK 8 (toS s1))) () ob.st
        rw [h9]
        exact htl
  · have hne2 : ∀ c : UInt8, c ∈ begins → ((x.toNat : Int) == (c.toNat : Int)) = false := fun c hcb => by
      rw [beq_eq_false_iff_ne]
      intro h5
      exact hx (by rw [UInt8.toNat_inj.1 (show x.toNat = c.toNat by omega)]; exact hcb)
    have hp2 : ∃ p2 : RdP, p2 = p := ⟨p, rfl⟩
    obtain ⟨p2, rfl⟩ := hp2
    refine wX ?_
    rw [show ((x.toNat : Int) != 64) = true by rw [bne, e64]; rfl]
    refine wX ?_
    refine LdN.one (a := some ⟨rb, 0, none⟩) (q := 2) (.slice p2.ga p2.m.length p2.gc) rfl (fun w hw => hw.1) rfl ?_
    refine wX ?_
    rw [show decide ((p2.m.length : Int) ≥ 500) = false by simp; omega]
    refine wX ?_
    rw [show ((x.toNat : Int) == 48) = false from hne2 48 (by decide)]
    refine wX ?_
    rw [show ((x.toNat : Int) == 84) = false from hne2 84 (by decide)]
    refine wX ?_
    rw [show ((x.toNat : Int) == 70) = false from hne2 70 (by decide)]
    refine wX ?_
    rw [show ((x.toNat : Int) == 105) = false from hne2 105 (by decide)]
    refine wX ?_
    rw [show ((x.toNat : Int) == 58) = false from hne2 58 (by decide)]
    refine wX ?_
    rw [show ((x.toNat : Int) == 59) = false from hne2 59 (by decide)]
    refine wX ?_
    rw [e64]
    refine wX ?_
    rw [show ((x.toNat : Int) == 34) = false from hne2 34 (by decide)]
    refine wX ?_
    rw [show ((x.toNat : Int) == 91) = false from hne2 91 (by decide)]
    refine wX ?_
    rw [show ((x.toNat : Int) == 123) = false from hne2 123 (by decide)]
    refine wX ?_
    rw [show ((x.toNat : Int) == 111) = false from hne2 111 (by decide)]
    refine wX ?_
    refine callG (fail_d rb S s1 p2 nm 4) [0, 1, 2, 3, 4] rfl ⟨rfl, rfl, rfl, rfl, rfl, trivial⟩ rfl fun _ _ => ?_
    refine wX ?_
    refine ⟨dE rb S (failM s1 4) (p2) (nm ++ []), Nat.le_of_ble_eq_true rfl, seal_d (Nat.le_of_ble_eq_true rfl) rfl rfl rfl rfl (fun w hw => by rw [List.append_nil]; exact hw.1), ⟨_, rfl⟩, ⟨⟨_, failM s1 4, p2, []⟩, ⟨?_, ?_, ?_, ?_, ?_, ?_, ?_⟩, rfl, rfl⟩⟩
    · exact ok1.same (fail_ss s1 4)
    · exact (List.append_nil _).symm
    · intro q hq; cases hq
    · exact hl1.fail 4
    · exact le1.trans (fail_le s1 4)
    · exact fun h => by rw [fail_e he 4] at h; exact absurd h (by decide)
    · exact form_bad htel he h64 (.inr hx)
theorem form_d : ∀ n : Nat, FormC n
 | 0 => fun _ _ _ _ _ _ _ _ _ _ hn => absurd hn (Nat.not_lt_zero _)
 | n + 1 => form_step n (form_d n)
end Go.Proofs.YtgogonnnojcioaaGreatDoor
namespace Go.Marshal
open Go.Core
def WdC (c : Cell) : Prop := c.names.length ≤ 30001 ∧ c.items.length ≤ 30001
def Wd (st : PS) : Prop := ∀ c ∈ st.g, WdC c
theorem num_g (most : Nat) (st : PS) : (numM most st).2.g = st.g := by
 unfold numM
 split
 ·rfl
 split <;> rfl
theorem fail_g (st : PS) (e : Int) : (failM st e).g = st.g := by unfold failM; split <;> rfl
theorem next_g (st : PS) : (nextM st).2.g = st.g := by
 unfold nextM
 split
 ·rfl
 split <;> rfl
theorem text_g (most : Nat) (st : PS) : (textM most st).2.g = st.g := by
 have h := num_g maxN st
 unfold textM
 split
 ·exact h
 split
 ·exact h
 split <;> exact h
theorem sym_g (x : UInt8) (st : PS) : (symM x st).2.g = st.g := by
 have h1 := text_g 40 st
 have h2 := num_g maxN st
 unfold symM
 split
 ·simp only
  split
  ·rw [fail_g]; exact h1
  ·exact h1
 split
 ·split
  ·exact h2
  ·rw [fail_g]; exact h2
 ·exact fail_g _ _
theorem name_g (ns : List B) (st : PS) : (nameM ns st).2.g = st.g := by
 unfold nameM
 simp only
 split
 ·rw [fail_g, sym_g, next_g]
 ·rw [sym_g, next_g]
theorem class_g (st : PS) : (classM st).2.g = st.g := by
 unfold classM
 simp only
 split
 ·rw [fail_g, sym_g, next_g]
 ·rw [sym_g, next_g]
def WdF (f : PS → Int × PS) : Prop := ∀ st, Bd st → Wd st → Wd (f st).2
theorem items_wd {f : PS → Int × PS} (hf : Takes f) (hw : WdF f) : ∀ (n : Nat) (l : List Int) (st : PS), Bd st → Wd st → Wd (itemsM f n l st).2
 | 0, _, _, _, h => h
 | n + 1, l, st, b, h => by
  unfold itemsM
  split
  ·exact items_wd hf hw n _ _ (b.le (hf.le st)) (hw st b h)
  ·exact h
theorem attrs_wd {f : PS → Int × PS} (hf : Takes f) (hw : WdF f) : ∀ (n : Nat) (ns : List B) (l : List Int) (st : PS), Bd st → Wd st → Wd (attrsM f n ns l st).2
 | 0, _, _, _, _, h => h
 | n + 1, ns, l, st, b, h => by
  unfold attrsM
  split
  ·have b2 := b.le (name_le ns st)
   have h2 : Wd (nameM ns st).2 := by unfold Wd; rw [name_g]; exact h
   exact attrs_wd hf hw n _ _ _ (b2.le (hf.le _)) (hw _ b2 h2)
  ·exact h
theorem liv_le (st : PS) : liv st ≤ 1 := by unfold liv; split <;> omega
theorem items_w {f : PS → Int × PS} (hf : Takes f) (n : Nat) (st : PS) (b : Bd st) : (itemsM f n [] st).1.length ≤ 30001 := by
 have h := (items_le hf n [] st).2
 have h1 := liv_le st
 have h2 := b.pot
 have h3 : ([] : List Int).length = 0 := rfl
 omega
theorem inner_wd {f : PS → Int × PS} (hf : Takes f) (hw : WdF f) (x : UInt8) (st : PS) (b : Bd st) (h : Wd st) : WdC (innerM f x st).1 ∧ Wd (innerM f x st).2 := by
 have z : ∀ {c : Cell}, c.names = [] → c.items = [] → WdC c := fun h1 h2 => ⟨by rw [h1]; exact Nat.zero_le _, by rw [h2]; exact Nat.zero_le _⟩
 have bn := b.le (num_le maxN st)
 have hn : Wd (numM maxN st).2 := by unfold Wd; rw [num_g]; exact h
 unfold innerM
 split
 ·exact ⟨z rfl rfl, h⟩
 split
 ·exact ⟨z rfl rfl, h⟩
 split
 ·exact ⟨z rfl rfl, by unfold Wd; rw [num_g]; exact h⟩
 split
 ·exact ⟨z rfl rfl, by unfold Wd; rw [text_g]; exact h⟩
 split
 ·exact ⟨z rfl rfl, by unfold Wd; rw [sym_g]; exact h⟩
 split
 ·exact ⟨⟨Nat.zero_le _, items_w hf _ _ bn⟩, items_wd hf hw _ _ _ bn hn⟩
 split
 ·exact ⟨⟨Nat.zero_le _, items_w hf _ _ bn⟩, items_wd hf hw _ _ _ bn hn⟩
 split
 ·have bc := b.le (class_le st)
  have b2 := bc.le (num_le maxN (classM st).2)
  have h2 : Wd (numM maxN (classM st).2).2 := by unfold Wd; rw [num_g, class_g]; exact h
  obtain ⟨_, h4, h5⟩ := attrs_le hf (numM maxN (classM st).2).1 [] [] (numM maxN (classM st).2).2
  have h6 := liv_le (numM maxN (classM st).2).2
  have h7 := b2.pot
  have h8 : ([] : List Int).length = 0 := rfl
  have h9 : ([] : List B).length = 0 := rfl
  refine ⟨⟨?_, ?_⟩, attrs_wd hf hw _ _ _ _ b2 h2⟩
  ·show (attrsM f (numM maxN (classM st).2).1 [] [] (numM maxN (classM st).2).2).1.1.length ≤ _
   omega
  ·show (attrsM f (numM maxN (classM st).2).1 [] [] (numM maxN (classM st).2).2).1.2.length ≤ _
   omega
 ·exact ⟨z rfl rfl, h⟩
theorem open_bd {x : UInt8} {st : PS} (b : Bd st) (hg : ¬ 500 ≤ st.g.length) : Bd (openM x st) := by
 have b1 := b.cl
 refine ⟨?_, ?_, b.pot⟩
 ·show (st.g ++ [nilC]).length ≤ _
  simp
  omega
 ·show (if x ∈ named then st.cells ++ [(st.g.length : Int)] else st.cells).length ≤ (st.g ++ [nilC]).length
  split
  ·simp; omega
  ·simp; omega
theorem cell_wd : ∀ n : Nat, WdF (cellM n)
 | 0 => fun st b h => by
  show ∀ c ∈ (failM st 99).g, _
  rw [fail_g]
  exact h
 | n + 1 => fun st b h => by
  have ih := cell_wd n
  have b1 := b.le (next_le st)
  have h1 : Wd (nextM st).2 := by unfold Wd; rw [next_g]; exact h
  unfold cellM
  simp only
  split
  ·exact h1
  split
  ·unfold refM
   simp only
   have hn : Wd (numM maxN (nextM st).2).2 := by unfold Wd; rw [num_g]; exact h1
   split
   ·exact hn
   split
   ·unfold Wd; rw [fail_g]; exact hn
   ·exact hn
  split
  ·unfold Wd; rw [fail_g]; exact h1
  ·rename_i h2 h3
   have hg : ¬ 500 ≤ (nextM st).2.g.length := fun h => h3 (.inl h)
   have bo := open_bd (x := (nextM st).1) b1 hg
   have ho : Wd (openM (nextM st).1 (nextM st).2) := by
    intro c hc
    rcases List.mem_append.1 (show c ∈ (nextM st).2.g ++ [nilC] from hc) with hc | hc
    ·exact h1 c hc
    ·obtain rfl := List.mem_singleton.1 hc
     exact ⟨Nat.zero_le _, Nat.zero_le _⟩
   obtain ⟨w1, w2⟩ := inner_wd (cell_takes n) ih (nextM st).1 (openM (nextM st).1 (nextM st).2) bo ho
   intro c hc
   rcases List.mem_or_eq_of_mem_set (show c ∈ (innerM (cellM n) (nextM st).1 (openM (nextM st).1 (nextM st).2)).2.g.set (nextM st).2.g.length (innerM (cellM n) (nextM st).1 (openM (nextM st).1 (nextM st).2)).1 from hc) with hc | hc
   ·exact w2 c hc
   ·rw [hc]; exact w1
end Go.Marshal
namespace Go.AX
open Go.RowKit
theorem run_convert_own {P : Program} (w : World) (t e : TypeId) (b : Nat) (arr : Array Value) (fr : Nat × Nat) (n c : Nat) (hb : w.heap[b]? = some (.cells arr e fr)) (ht : P.underlying t = some (.slice e)) (he : P.underlying e = some (.int .u8)) :
  (convert t t (.slice (some ⟨b, 0, none⟩) n c)).run P w = .ok (.slice (some ⟨b, 0, none⟩) n c) (w.freeze ⟨b, arr.size, none⟩ 1) := by
 have hsh : w.shape? b = some (e, arr.size) := by
  unfold World.shape?
  rw [hb]
 simp [convert, run_underlying ht, run_underlying he, markStringish, hsh]
theorem EffW.constB {P : Program} {o : Oper} {s : List AV} {H : List Ent} {K : AV → List Ent → Prop} {t e : TypeId} {x : Operand} {b n c : Nat} {xs : List Value} (i : Nat) (ho : o.op = .convert t t x) (ht : P.underlying t = some (.slice e)) (he : P.underlying e = some (.int .u8))
  (hx : opv s x = .c (.v (.slice (some ⟨b, 0, none⟩) n c))) (hi : nthE H i = some (.app e 1 xs (some ⟨b, 0, none⟩) n c)) (hk : K (.c (.v (.slice (some ⟨b, 0, none⟩) n c))) H) : EffW P o s H K := by
 intro ρ S w ac hsat hr
 have hxr := opv_rel hr x
 rw [hx] at hxr
 have hxe : ac.eval x = .slice (some ⟨b, 0, none⟩) n c := hxr
 rw [nthE_eq] at hi
 have hilt : i < H.length := (List.getElem?_eq_some_iff.1 hi).1
 have hset : H.set i (.app e 1 xs (some ⟨b, 0, none⟩) n c) = H := by
  apply List.ext_getElem?
  intro j
  by_cases hj : i = j
  ·subst hj
   rw [List.getElem?_set_self hilt, hi]
  ·rw [List.getElem?_set_ne hj]
 rcases hsat.ent i _ hi with ⟨h0, _⟩ | ⟨b', hb', hrow⟩
 ·cases h0
 ·obtain rfl : b = b' := by
   injection hb' with h1
   injection h1
  obtain ⟨arr, fr, ⟨hb, hfr⟩, h1, h2, h3, h4, h5⟩ := hrow
  have hrun := run_convert_own w t e b arr fr n c hb ht he
  have hbl : b < w.heap.size := (Array.getElem?_eq_some_iff.1 hb).1
  have hb2 : (w.freeze ⟨b, arr.size, none⟩ 1).heap[b]? = some (.cells arr e (if fr.1 == fr.2 then (arr.size, arr.size + 1) else (min fr.1 arr.size, max fr.2 (arr.size + 1)))) := by
   simp [World.freeze, Array.getElem?_modify, hb]
  have hS := hsat.setG (e' := .app e 1 xs (some ⟨b, 0, none⟩) n c) (c := b) (w' := w.freeze ⟨b, arr.size, none⟩ 1) hi rfl (by simp [World.freeze]) (fun k _ hne => by simp [World.freeze, Array.getElem?_modify, Ne.symm hne]) rfl rfl rfl (fun c hc => .inl (Option.some.inj hc).symm)
   (.inr ⟨b, rfl, arr, _, ⟨hb2, by
    split
    ·exact .inr (Nat.le_refl _)
    ·rename_i hne
     rcases hfr with h | h
     ·simp [h] at hne
     ·exact .inr (by show arr.size ≤ min fr.1 arr.size; omega)⟩, h1, h2, h3, h4, h5⟩)
  rw [hset] at hS
  refine ⟨_, _, hk, _, _, _, _, ?_, .inl rfl, hS.1, hS.2, rfl⟩
  unfold execOp
  simp only [ho, hxe, Sem.run_bind, hrun, Result.andThen_ok, Sem.run_pure]
end Go.AX
namespace Go.Proofs.YtgogonnnojcioaaGreatDoor
open Go.AX Go.RowKit Go.Core Go.Marshal
set_option maxRecDepth 20000
theorem checkW (a : Option Addr) (ca : Nat) (l : List CellP) (ha : a = none → l = []) (hs : l.length ≤ 2000 ∧ ∀ p ∈ l, p.c.names.length ≤ 40000 ∧ p.c.items.length ≤ 40000) (hok : ∀ p ∈ l, CellOk p) (b : Bool) (hb : b = true ↔ ValidP (l.map (·.c))) :
  ∀ H, (∀ w, Facts H w → GrF a l w) → SpecH Tryz.prog 65 (pvs [.slice a l.length ca]) H (Ret (errI b) H) := by
 intro H hH
 obtain ⟨b2, hb2, h⟩ := Check_w a ca l ha hs hok H hH
 have e : b2 = b := by rw [Bool.eq_iff_iff, hb, hb2]
 rw [← e]
 exact h
def P0 : RdP := ⟨[], none, 0, none, 0, none, 0⟩
def RdR (st : PS) (v : Value) (G : World → Prop) : Prop := ∃ (rb : Nat) (p : RdP), v = .tuple #[.pointer (some ⟨rb, 0, none⟩), .int .i64 st.e] ∧ RdOk st p ∧ ∀ w, G w → SlAt (some ⟨rb, 0, none⟩) 5 (rdC st p) w ∧ SlAt p.ga (p.m.length * 5) (grC p.m) w ∧ (∀ q ∈ p.m, CellF q w) ∧ SlAt p.sa (st.ss.length * 1) (strC st.ss) w
set_option maxHeartbeats 4000000 in
theorem read_c (s : List UInt8) (hs : s.length ≤ 20000) : SpecF Tryz.prog 41 [.string (bs s)] (fun w => ∀ q ∈ ([] : List CellP), CellF q w) (RdR (readM s)) := by
 refine specF_of ?_
 refine SpecH.pad [.app 57 5 [] none 0 0, .app 3 1 [] none 0 0, .app 9 1 [] none 0 0] rfl ?_
 refine spec_of_exec hm Tryz.func41 (by kernel_rfl) rfl rfl ?_
 have hsz := bs_size s
 refine wXB ?_
 refine brd_dec (fun h => absurd h (by rw [hsz]; omega)) (fun _ => ?_)
 refine wXB ?_
 refine BoxN.known [.string (bs s), .slice none 0 0, .slice none 0 0, .slice none 0 0, .int .i64 0] rfl fun rb => ?_
 refine wXK ?_
 refine RwN.known [.int .u8 67, .int .u8 77, .int .u8 1] rfl fun hb => ?_
 refine wXK ?_
 refine EffW.constB 5 rfl Tryz.underlying29 Tryz.underlying5 rfl rfl ?_
 obtain ⟨S0, hS0⟩ : ∃ S0, headM headB ⟨s, [], [], [], 0⟩ = S0 := ⟨_, rfl⟩
 have ok0 : RdOk ⟨s, [], [], [], 0⟩ P0 := ⟨rfl, (fun q hq => by cases hq), fun _ => rfl, fun _ => rfl, fun _ => rfl, (fun t ht => by cases ht), .inl rfl⟩
 have bd0 : Bd ⟨s, [], [], [], 0⟩ := ⟨Nat.zero_le _, Nat.le_refl _, by show 0 + s.length ≤ _; omega⟩
 refine wXK ?_
 refine LoopN.intro (Nat × PS) (fun ⟨i, st⟩ => i ≤ 3 ∧ headM (headB.drop i) st = S0 ∧ RdOk st P0 ∧ Le 0 ⟨s, [], [], [], 0⟩ st)
  (fun ⟨i, _⟩ => mkS Tryz.f41.ntmps 0 [(4, .c (.v (.pointer (some ⟨rb, 0, none⟩)))), (14, .c (.v (.slice (some ⟨hb, 0, none⟩) 3 3))), (15, .c (.v (.int .i64 3))), (16, .c (.v (.int .i64 (i : Int))))])
  (fun ⟨_, st⟩ => [.fact fun w => ∀ q ∈ ([] : List CellP), CellF q w, .app 57 5 [] none 0 0, .app 3 1 (iC st.cells) none st.cells.length 0, .app 9 1 (strC st.ss) none st.ss.length 0, .app 84 5 (rdC st P0) (some ⟨rb, 0, none⟩) 1 1, .app 5 1 [.int .u8 67, .int .u8 77, .int .u8 1] (some ⟨hb, 0, none⟩) 3 3]) (fun ⟨i, _⟩ => 3 - i) [] rfl
  (fun _ => rfl) (fun _ => rfl) (fun _ _ => okHB_eq rfl) ⟨(0, ⟨s, [], [], [], 0⟩), ⟨by omega, hS0, ok0, Le.refl _⟩, ?_, ?_⟩ ?_
 ·exact wKK
 ·exact ⟨wkE_refl _, wkE_refl _, wkE_refl _, wkE_refl _, wkE_refl _, wkE_refl _, wkH_nil _⟩
 rintro ⟨i, st⟩ ⟨h1, h2, h3, h4⟩
 refine wXK ?_
 refine brd_dec (fun hi => ?_) (fun hi => ?_)
 ·obtain ⟨c, hc⟩ : ∃ c, headB[i]? = some c := ⟨_, List.getElem?_eq_getElem (by show i < 3; omega)⟩
  have hd : headB.drop i = c :: headB.drop (i + 1) := by
   obtain ⟨h5, h6⟩ := List.getElem?_eq_some_iff.1 hc
   rw [← h6, List.getElem_cons_drop]
  rw [hd] at h2
  have h2 : headM (headB.drop (i + 1)) (if (nextM st).1 ≠ c then failM (nextM st).2 4 else (nextM st).2) = S0 := h2
  have hcv : ([.int .u8 67, .int .u8 77, .int .u8 1] : List Value)[i]? = some (.int .u8 (c.toNat : Int)) := by
   rcases i with _ | _ | _ | i
   ·cases hc; rfl
   ·cases hc; rfl
   ·cases hc; rfl
   ·cases hc
  have hnx := next_m rb st P0
  have hln := h4.trans (next_le st)
  have okn := h3.same (next_keep st)
  generalize nextM st = r at h2 hnx hln okn ⊢
  obtain ⟨x, st2⟩ := r
  simp only at h2 hnx hln okn
  refine wXK ?_
  refine Nd.mk ⟨rfl, by omega, by omega⟩ ?_
  refine wXK ?_
  refine LdN.one (.int .u8 (c.toNat : Int)) rfl (fun w hw => hw.2.2.2.2.2.1) (by show ([.int .u8 67, .int .u8 77, .int .u8 1] : List Value)[Int.toNat _ * 1]? = _; rw [Int.toNat_natCast, Nat.mul_one]; exact hcv) ?_
  refine wXK ?_
  refine callG (hnx) [4, 1, 0, 2, 3] rfl ⟨rfl, rfl, rfl, rfl, rfl, trivial⟩ rfl fun _ _ => ?_
  refine wXK ?_
  refine brd_ne (fun h7 => ?_) (fun h7 => ?_)
  ·have hxc : x ≠ c := fun h => h7 (by rw [h])
   rw [if_pos hxc] at h2
   refine wXK ?_
   refine callG (fail_m rb st2 P0 4) [4, 1, 0, 2, 3] rfl ⟨rfl, rfl, rfl, rfl, rfl, trivial⟩ rfl fun _ _ => ?_
   refine wXK ?_
   refine ⟨(i + 1, failM st2 4), ⟨by omega, h2, okn.same (fail_ss st2 4), hln.trans (fail_le st2 4)⟩, by show 3 - (i + 1) < 3 - i; omega, ?_, wkE_refl _, wkE_refl _, wkE_refl _, wkE_refl _, wkE_refl _, wkE_refl _, wkH_nil _⟩
   exact wKK
  ·have hxc : x = c := UInt8.toNat_inj.1 (by omega)
   rw [if_neg (fun h => h hxc)] at h2
   refine wXK ?_
   refine ⟨(i + 1, st2), ⟨by omega, h2, okn, hln⟩, by show 3 - (i + 1) < 3 - i; omega, ?_, wkE_refl _, wkE_refl _, wkE_refl _, wkE_refl _, wkE_refl _, wkE_refl _, wkH_nil _⟩
   exact wKK
 ·obtain rfl : i = 3 := by omega
  have h2 : st = S0 := h2
  subst h2
  have hR : readM s = checkM (endM (cellM (s.length + 1) st).2) := by unfold readM; rw [hS0]
  rw [hR]
  have hs4 : st.s.length ≤ s.length := h4.s
  have bd4 := bd0.le h4
  have hce := cell_rd (s.length + 1) rb st P0 h3 bd4 (.inl (by omega))
  have hwd := cell_wd (s.length + 1) st bd4 (by unfold Wd; rw [← h3.g]; intro c hc; cases hc)
  have bd5 := bd4.le ((cell_takes (s.length + 1)).le st)
  generalize cellM (s.length + 1) st = r at hce hwd bd5 ⊢
  obtain ⟨z, st1⟩ := r
  simp only at hce hwd bd5
  refine wXK ?_
  refine callG hce [4, 1, 0, 2, 3] rfl ⟨rfl, rfl, rfl, rfl, rfl, trivial⟩ rfl fun p hp => ?_
  refine wXK ?_
  refine LdN.one (a := some ⟨rb, 0, none⟩) (q := 4) (.int .i64 st1.e) rfl (fun w hw => hw.2.2.2.2.1) rfl ?_
  refine wXK ?_
  by_cases he : st1.e = 0
  ·rw [show (st1.e == 0) = true by rw [he]; rfl]
   refine wXK ?_
   refine LdN.one (a := some ⟨rb, 0, none⟩) (q := 0) (.string (bs st1.s)) rfl (fun w hw => hw.2.2.2.2.1) rfl ?_
   refine wXK ?_
   have hsn : ((bs st1.s).data.toList == (⟨#[]⟩ : ByteArray).data.toList) = decide (st1.s = []) := by rw [bs_list]; cases st1.s <;> rfl
   rw [hsn]
   by_cases hs1 : st1.s = []
   ·rw [decide_eq_true hs1]
    have e1 : endM st1 = st1 := by
     unfold endM
     rw [if_neg (fun h => h.2 hs1)]
    have hml : p.m.length = st1.g.length := by rw [← hp.g, List.length_map]
    have hgl := bd5.g
    obtain ⟨b, hb⟩ : ∃ b : Bool, b = true ↔ ValidP (p.m.map (·.c)) := by
     by_cases h : ValidP (p.m.map (·.c))
     ·exact ⟨true, fun _ => h, fun _ => rfl⟩
     ·exact ⟨false, (fun h => by cases h), fun h2 => absurd h2 h⟩
    have e2 : checkM st1 = { st1 with e := if b then 0 else 1 } := by
     unfold checkM
     rw [if_pos he]
     congr 1
     rw [← hp.g]
     cases b with
     | true => rw [if_pos (hb.1 rfl)]; rfl
     | false => rw [if_neg (fun h => by have := hb.2 h; cases this)]; rfl
    have hwm : ∀ q ∈ p.m, q.c.names.length ≤ 40000 ∧ q.c.items.length ≤ 40000 := fun q hq => by
     have := hwd q.c (by rw [← hp.g]; exact List.mem_map.2 ⟨q, hq, rfl⟩)
     exact ⟨Nat.le_trans this.1 (by decide), Nat.le_trans this.2 (by decide)⟩
    rw [show (z, st1).2 = st1 from rfl, e1, e2]
    refine wXK ?_
    refine LdN.one (a := some ⟨rb, 0, none⟩) (q := 4) (.int .i64 st1.e) rfl (fun w hw => hw.2.2.2.2.1) rfl ?_
    rw [he]
    refine wXK ?_
    refine LdN.one (a := some ⟨rb, 0, none⟩) (q := 1) (.slice p.ga p.m.length p.gc) rfl (fun w hw => hw.2.2.2.2.1) rfl ?_
    refine wXK ?_
    refine call1 (checkW p.ga p.gc p.m hp.ga ⟨by omega, hwm⟩ hp.cell b hb _ (fun w hw => ⟨hw.2.1, hw.1⟩)) ?_
    refine wXK ?_
    refine EffW.appTo (i := 4) (q := 4) (ys := [_]) (rdC ({ st1 with e := if b then 0 else 1 }) p) 5 rfl rfl rfl rfl rfl rfl rfl (Nat.le_of_ble_eq_true rfl) rfl rfl ?_
    refine wXK ?_
    refine LdN.one (a := some ⟨rb, 0, none⟩) (q := 4) (.int .i64 (if b then 0 else 1)) rfl (fun w hw => hw.2.2.2.2.1) rfl ?_
    refine wXK ?_
    exact fin_p (fun w => SlAt (some ⟨rb, 0, none⟩) 5 (rdC ({ st1 with e := if b then 0 else 1 }) p) w ∧ SlAt p.ga (p.m.length * 5) (grC p.m) w ∧ (∀ q ∈ p.m, CellF q w) ∧ SlAt p.sa (({ st1 with e := if b then 0 else 1 }).ss.length * 1) (strC ({ st1 with e := if b then 0 else 1 }).ss) w) ⟨rb, p, rfl, hp.same (st' := { st1 with e := if b then 0 else 1 }) ⟨rfl, rfl, rfl⟩, fun w hw => hw⟩ (fun w hw => ⟨hw.2.2.2.2.1, hw.2.1, hw.1, hw.2.2.2.1⟩)
   ·rw [decide_eq_false hs1]
    have e1 : endM st1 = failM st1 4 := by
     unfold endM
     rw [if_pos ⟨he, hs1⟩]
    have he4 : (failM st1 4).e = 4 := fail_e he 4
    have e2 : checkM (failM st1 4) = failM st1 4 := check_dead (by rw [he4]; decide)
    rw [show (z, st1).2 = st1 from rfl, e1, e2]
    have ok4 := hp.same (fail_ss st1 4)
    refine wXK ?_
    refine callG (fail_m rb st1 p 4) [4, 1, 0, 2, 3] rfl ⟨rfl, rfl, rfl, rfl, rfl, trivial⟩ rfl fun _ _ => ?_
    generalize failM st1 4 = st4 at he4 ok4 ⊢
    refine wXK ?_
    refine LdN.one (a := some ⟨rb, 0, none⟩) (q := 4) (.int .i64 st4.e) rfl (fun w hw => hw.2.2.2.2.1) rfl ?_
    rw [he4]
    refine wXK ?_
    refine LdN.one (a := some ⟨rb, 0, none⟩) (q := 4) (.int .i64 st4.e) rfl (fun w hw => hw.2.2.2.2.1) rfl ?_
    refine wXK ?_
    exact fin_p (fun w => SlAt (some ⟨rb, 0, none⟩) 5 (rdC (st4) p) w ∧ SlAt p.ga (p.m.length * 5) (grC p.m) w ∧ (∀ q ∈ p.m, CellF q w) ∧ SlAt p.sa ((st4).ss.length * 1) (strC (st4).ss) w) ⟨rb, p, rfl, ok4, fun w hw => hw⟩ (fun w hw => ⟨hw.2.2.2.2.1, hw.2.1, hw.1, hw.2.2.2.1⟩)
  ·have e1 : checkM (endM st1) = st1 := by rw [end_dead he, check_dead he]
   rw [e1]
   rw [show (st1.e == 0) = false by simpa using he]
   refine wXK ?_
   refine LdN.one (a := some ⟨rb, 0, none⟩) (q := 4) (.int .i64 st1.e) rfl (fun w hw => hw.2.2.2.2.1) rfl ?_
   refine wXK ?_
   refine brd_eq (fun h => absurd h he) (fun _ => ?_)
   refine wXK ?_
   refine LdN.one (a := some ⟨rb, 0, none⟩) (q := 4) (.int .i64 st1.e) rfl (fun w hw => hw.2.2.2.2.1) rfl ?_
   refine wXK ?_
   exact fin_p (fun w => SlAt (some ⟨rb, 0, none⟩) 5 (rdC (st1) p) w ∧ SlAt p.ga (p.m.length * 5) (grC p.m) w ∧ (∀ q ∈ p.m, CellF q w) ∧ SlAt p.sa ((st1).ss.length * 1) (strC (st1).ss) w) ⟨rb, p, rfl, hp, fun w hw => hw⟩ (fun w hw => ⟨hw.2.2.2.2.1, hw.2.1, hw.1, hw.2.2.2.1⟩)
theorem read_long (s : List UInt8) (hs : 20000 < s.length) : ∀ H, SpecH Tryz.prog 41 (pvs [.string (bs s)]) H (Ret (.tuple #[.pointer none, .int .i64 2]) H) := by
 refine pureC hm Tryz.func41 (by kernel_rfl) rfl rfl ?_
 have hsz := bs_size s
 refine wX ?_
 refine brd_dec (fun h => ?_) (fun h => absurd (show (s.length : Int) > 20000 by omega) (by rw [hsz] at h; exact h))
 exact wZ
def GraphR (g : List Cell) (v : Value) (G : World → Prop) : Prop := ∃ (a : Option Addr) (c : Nat) (m : List CellP), v = .slice a m.length c ∧ m.map (·.c) = g ∧ (a = none → m = []) ∧ (∀ q ∈ m, CellOk q) ∧ ∀ w, G w → GrF a m w
def LoadR (r : Except Int (List Cell × List B)) (v : Value) (G : World → Prop) : Prop := match r with
 | .error e => v = .tuple #[.slice none 0 0, .int .i64 e]
 | .ok (g, _) => ∃ v1, v = .tuple #[v1, .int .i64 0] ∧ GraphR g v1 G
theorem Load_c (s : List UInt8) : SpecF Tryz.prog 16 [.string (bs s)] (fun _ => True) (LoadR (loadS s)) := by
 refine specF hm Tryz.func16 (by kernel_rfl) rfl rfl ?_
 by_cases hs : 20000 < s.length
 ·have hl : loadS s = .error 2 := by unfold loadS; rw [if_pos hs]
  rw [hl]
  refine wX ?_
  refine call1 (read_long s hs _) ?_
  refine wX ?_
  exact fin_v rfl
 ·have href := load_ref (s := s) (by omega)
  ((conv => whnf); (repeat ((first | refine VrN.keep ?_ | refine BoxN.own ?_ | refine RwN.own ?_); (conv => whnf))))
  refine SpecF.call (read_c s (by omega)) (fun w _ q hq => by cases hq) fun v G hR => ?_
  obtain ⟨rb, p, rfl, ok, hG⟩ := hR
  generalize readM s = st at href ok hG ⊢
  cases hl : loadS s with
  | error e =>
   obtain ⟨h1, h2⟩ := href.2 e hl
   refine wX ?_
   rw [h1]
   refine brd_ne (fun _ => ?_) (fun h => absurd h h2)
   refine wX ?_
   exact fin_v rfl
  | ok r =>
   obtain ⟨h1, h2, h3⟩ := href.1 r hl
   obtain ⟨g, ss⟩ := r
   refine wX ?_
   rw [h1]
   refine wX ?_
   refine LdN.one (a := some ⟨rb, 0, none⟩) (q := 1) (.slice p.ga p.m.length p.gc) rfl (fun w hw => (hG w hw.2.1).1) rfl ?_
   refine wX ?_
   exact fin_p (fun w => GrF p.ga p.m w) ⟨_, rfl, p.ga, p.gc, p.m, rfl, by rw [ok.g]; exact h2, ok.ga, ok.cell, fun w hw => hw⟩ (fun w hw => ⟨(hG w hw.2.1).2.1, (hG w hw.2.1).2.2.1⟩)
def errS (r : Except Int (List Cell × List B)) : Int := match r with
 | .error e => e
 | .ok _ => 0
theorem MCheck_c (s : List UInt8) : SpecF Tryz.prog 24 [.string (bs s)] (fun _ => True) (fun v _ => v = .int .i64 (errS (loadS s))) := by
 refine specF hm Tryz.func24 (by kernel_rfl) rfl rfl ?_
 by_cases hs : 20000 < s.length
 ·have hl : loadS s = .error 2 := by unfold loadS; rw [if_pos hs]
  rw [hl]
  refine wX ?_
  refine call1 (read_long s hs _) ?_
  refine wX ?_
  exact fin_v rfl
 ·have href := load_ref (s := s) (by omega)
  ((conv => whnf); (repeat ((first | refine VrN.keep ?_ | refine BoxN.own ?_ | refine RwN.own ?_); (conv => whnf))))
  refine SpecF.call (read_c s (by omega)) (fun w _ q hq => by cases hq) fun v G hR => ?_
  obtain ⟨rb, p, rfl, ok, hG⟩ := hR
  generalize readM s = st at href ok hG ⊢
  cases hl : loadS s with
  | error e =>
   obtain ⟨h1, h2⟩ := href.2 e hl
   refine wX ?_
   rw [h1]
   exact fin_v rfl
  | ok r =>
   obtain ⟨h1, h2, h3⟩ := href.1 r hl
   refine wX ?_
   rw [h1]
   exact fin_v rfl
def TextsR (l : List B) (v : Value) (G : World → Prop) : Prop := ∃ (a : Option Addr) (c : Nat), v = .slice a l.length c ∧ (a = none → l = []) ∧ ∀ w, G w → SlAt a (l.length * 1) (strC l) w
def SymsR (r : Except Int (List Cell × List B)) (v : Value) (G : World → Prop) : Prop := match r with
 | .error e => v = .tuple #[.slice none 0 0, .int .i64 e]
 | .ok (_, ss) => ∃ v1, v = .tuple #[v1, .int .i64 0] ∧ TextsR ss v1 G
theorem Symbols_c (s : List UInt8) : SpecF Tryz.prog 38 [.string (bs s)] (fun _ => True) (SymsR (loadS s)) := by
 refine specF hm Tryz.func38 (by kernel_rfl) rfl rfl ?_
 by_cases hs : 20000 < s.length
 ·have hl : loadS s = .error 2 := by unfold loadS; rw [if_pos hs]
  rw [hl]
  refine wX ?_
  refine call1 (read_long s hs _) ?_
  refine wX ?_
  exact fin_v rfl
 ·have href := load_ref (s := s) (by omega)
  ((conv => whnf); (repeat ((first | refine VrN.keep ?_ | refine BoxN.own ?_ | refine RwN.own ?_); (conv => whnf))))
  refine SpecF.call (read_c s (by omega)) (fun w _ q hq => by cases hq) fun v G hR => ?_
  obtain ⟨rb, p, rfl, ok, hG⟩ := hR
  generalize readM s = st at href ok hG ⊢
  cases hl : loadS s with
  | error e =>
   obtain ⟨h1, h2⟩ := href.2 e hl
   refine wX ?_
   rw [h1]
   refine brd_ne (fun _ => ?_) (fun h => absurd h h2)
   refine wX ?_
   exact fin_v rfl
  | ok r =>
   obtain ⟨h1, h2, h3⟩ := href.1 r hl
   obtain ⟨g, ss⟩ := r
   have h3 : st.ss = ss := h3
   subst h3
   refine wX ?_
   rw [h1]
   refine wX ?_
   refine LdN.one (a := some ⟨rb, 0, none⟩) (q := 3) (.slice p.sa st.ss.length p.sc) rfl (fun w hw => (hG w hw.2.1).1) rfl ?_
   refine wX ?_
   exact fin_p (fun w => SlAt p.sa (st.ss.length * 1) (strC st.ss) w) ⟨_, rfl, p.sa, p.sc, rfl, ok.sa, fun w hw => hw⟩ (fun w hw => (hG w hw.2.1).2.2.2)
end Go.Proofs.YtgogonnnojcioaaGreatDoor
namespace Go.Marshal
open Go.Core
theorem load_tel {s : B} (hs : s.length ≤ 20000) : ((headM headB ⟨s, [], [], [], 0⟩).e ≠ 0 → loadS s = .error (headM headB ⟨s, [], [], [], 0⟩).e) ∧
  ((headM headB ⟨s, [], [], [], 0⟩).e = 0 → ∀ (v : Int) (st : PS), Tel (formD (s.length + 1) (toS (headM headB ⟨s, [], [], [], 0⟩))) v st →
   (st.e ≠ 0 → loadS s = .error st.e) ∧ (st.e = 0 → st.s ≠ [] → loadS s = .error 4) ∧ (st.e = 0 → st.s = [] → (ValidP st.g → loadS s = .ok (st.g, st.ss)) ∧ (¬ ValidP st.g → loadS s = .error 1))) := by
 have hh := head_ref headB ⟨s, [], [], [], 0⟩ rfl
 unfold loadS
 rw [if_neg (by omega)]
 cases hr : headF headB s with
 | error e1 =>
  obtain ⟨h1, h2⟩ := hh.2 e1 hr
  exact ⟨fun _ => by rw [h1], fun h => absurd (h1.symm.trans h) h2⟩
 | ok r =>
  have h1 := hh.1 r hr
  rw [h1]
  have hl : r.length ≤ s.length := by rw [head_ok _ _ _ hr, List.length_append]; omega
  refine ⟨fun h => absurd rfl h, fun _ v st tel => ?_⟩
  have hst : formF (r.length + 1) ⟨r, [], [], []⟩ = formF (s.length + 1) ⟨r, [], [], []⟩ := form_stab _ _ _ (Nat.lt_succ_self _) (by show r.length < _; omega)
  have tel : Tel (formF (s.length + 1) ⟨r, [], [], []⟩) v st := by rw [← formD_eq]; exact tel
  simp only
  rw [hst]
  refine ⟨fun h => ?_, fun h hn => ?_, fun h hn => ?_⟩
  ·rw [tel.dead h]
  ·rw [tel.live h]
   have : (toS st).s ≠ [] := hn
   simp only
   rw [if_pos this]
  ·rw [tel.live h]
   have : (toS st).s = [] := hn
   simp only
   rw [if_neg (fun h => h this)]
   refine ⟨fun hv => ?_, fun hv => ?_⟩
   ·rw [if_pos (show ValidP (toS st).g from hv)]
    rfl
   ·rw [if_neg (show ¬ ValidP (toS st).g from hv)]
theorem loadS_err {s : B} {e : Int} (h : loadS s = .error e) : e ≠ 0 := by
 by_cases hs : s.length ≤ 20000
 ·exact ((load_ref hs).2 e h).2
 ·unfold loadS at h
  rw [if_pos (by omega)] at h
  cases h
  decide
end Go.Marshal
namespace Go.Proofs.YtgogonnnojcioaaGreatDoor
open Go.AX Go.RowKit Go.Core Go.Marshal
set_option maxRecDepth 20000
def RdD (S : List UInt8) (v : Value) (G : World → Prop) : Prop := ∃ (rb : Nat) (st : PS) (p : RdP), v = .tuple #[.pointer (some ⟨rb, 0, none⟩), .int .i64 (errS (loadS S))] ∧ OkD st p ∧ (∀ q ∈ p.m, CellOk q) ∧ (∀ r, loadS S = .ok r → st.g = r.1 ∧ st.ss = r.2) ∧ ∀ w, G w → SlAt (some ⟨rb, 0, none⟩) 6 (ddC S st p) w ∧ SlAt p.ga (p.m.length * 5) (grC p.m) w ∧ (∀ q ∈ p.m, CellF q w) ∧ SlAt p.sa (st.ss.length * 1) (strC st.ss) w
theorem okd0 (S : List UInt8) : OkD ⟨S, [], [], [], 0⟩ P0 := ⟨rfl, fun _ => rfl, fun _ => rfl, fun _ => rfl, (fun t ht => by cases ht), .inl rfl⟩
theorem ddC0 (S : List UInt8) : ddC S ⟨S, [], [], [], 0⟩ P0 = [.string (bs S), .int .i64 0, .slice none 0 0, .slice none 0 0, .slice none 0 0, .int .i64 0] := by
 unfold ddC
 simp only [Nat.sub_self]
 rfl
set_option maxHeartbeats 4000000 in
theorem read_d (S : List UInt8) : SpecF Tryz.prog 61 [.string (bs S)] (fun w => ∀ q ∈ ([] : List CellP), CellF q w) (RdD S) := by
 refine specF_of ?_
 refine SpecH.pad [.app 87 5 [] none 0 0, .app 3 1 [] none 0 0, .app 9 1 [] none 0 0] rfl ?_
 refine spec_of_exec hm Tryz.func61 (by kernel_rfl) rfl rfl ?_
 have hsz := bs_size S
 refine wXB ?_
 refine BoxN.known [.string (bs S), .int .i64 0, .slice none 0 0, .slice none 0 0, .slice none 0 0, .int .i64 0] rfl fun rb => ?_
 rw [← ddC0 S]
 refine wXK ?_
 refine brd_dec (fun hlong => ?_) (fun hS => ?_)
 ·have hl : loadS S = .error 2 := by unfold loadS; rw [if_pos (by rw [hsz] at hlong; omega)]
  refine wXK ?_
  refine fin_p (fun w => SlAt (some ⟨rb, 0, none⟩) 6 (ddC S ((⟨S, [], [], [], 0⟩ : PS)) (P0)) w ∧ SlAt (P0).ga ((P0).m.length * 5) (grC (P0).m) w ∧ (∀ q ∈ (P0).m, CellF q w) ∧ SlAt (P0).sa (((⟨S, [], [], [], 0⟩ : PS)).ss.length * 1) (strC ((⟨S, [], [], [], 0⟩ : PS)).ss) w) ⟨rb, (⟨S, [], [], [], 0⟩ : PS), P0, ?_, okd0 S, ?_, ?_, fun w hw => hw⟩ (fun w hw => ⟨hw.2.2.2.2.1, hw.2.1, hw.1, hw.2.2.2.1⟩)
  ·rw [hl]; rfl
  ·intro q hq; cases hq
  ·intro r h; rw [hl] at h; cases h
 have hS : S.length ≤ 20000 := by rw [hsz] at hS; omega
 obtain ⟨S0, hS0⟩ : ∃ S0, headM headB ⟨S, [], [], [], 0⟩ = S0 := ⟨_, rfl⟩
 obtain ⟨t1, t2⟩ := load_tel hS
 rw [hS0] at t1 t2
 have bd0 : Bd ⟨S, [], [], [], 0⟩ := ⟨Nat.zero_le _, Nat.le_refl _, by show 0 + S.length ≤ _; omega⟩
 refine wXK ?_
 refine LoopN.intro (Nat × PS) (fun ⟨i, st⟩ => i ≤ 3 ∧ headM (headB.drop i) st = S0 ∧ OkD st P0 ∧ Left S st ∧ Le 0 ⟨S, [], [], [], 0⟩ st)
  (fun ⟨i, _⟩ => mkS Tryz.f61.ntmps 0 [(0, .c (.v (.string (bs S)))), (4, .c (.v (.pointer (some ⟨rb, 0, none⟩)))), (5, .c (.v (.string ⟨#[67, 77, 1]⟩))), (6, .c (.v (.int .i64 (i : Int))))])
  (fun ⟨_, st⟩ => [.fact fun w => ∀ q ∈ ([] : List CellP), CellF q w, .app 87 5 [] none 0 0, .app 3 1 (iC st.cells) none st.cells.length 0, .app 9 1 (strC st.ss) none st.ss.length 0, .app 109 6 (ddC S st P0) (some ⟨rb, 0, none⟩) 1 1]) (fun ⟨i, _⟩ => 3 - i) [] rfl
  (fun _ => rfl) (fun _ => rfl) (fun _ _ => okHB_eq rfl) ⟨(0, ⟨S, [], [], [], 0⟩), ⟨by omega, hS0, okd0 S, ⟨[], rfl⟩, Le.refl _⟩, ?_, ?_⟩ ?_
 ·exact wKK
 ·exact ⟨wkE_refl _, wkE_refl _, wkE_refl _, wkE_refl _, wkE_refl _, wkH_nil _⟩
 rintro ⟨i, st⟩ ⟨h1, h2, h3, hl, h4⟩
 have hd3 : ((⟨#[67, 77, 1]⟩ : ByteArray).size : Int) = 3 := rfl
 refine wXK ?_
 refine brd_dec (fun hi => ?_) (fun hi => ?_)
 ·obtain ⟨c, hc⟩ : ∃ c, headB[i]? = some c := ⟨_, List.getElem?_eq_getElem (by show i < 3; omega)⟩
  have hd : headB.drop i = c :: headB.drop (i + 1) := by
   obtain ⟨h5, h6⟩ := List.getElem?_eq_some_iff.1 hc
   rw [← h6, List.getElem_cons_drop]
  rw [hd] at h2
  have h2 : headM (headB.drop (i + 1)) (if (nextM st).1 ≠ c then failM (nextM st).2 4 else (nextM st).2) = S0 := h2
  have hcv : byteAt ⟨#[67, 77, 1]⟩ i = (c.toNat : Int) := by
   rcases i with _ | _ | _ | i
   ·cases hc; rfl
   ·cases hc; rfl
   ·cases hc; rfl
   ·cases hc
  have hnx := next_d rb S (by omega) st P0 [] hl
  have hln := h4.trans (next_le st)
  have okn := h3.same (next_keep st)
  have hll := hl.next
  generalize nextM st = r at h2 hnx hln okn hll
  obtain ⟨x, st2⟩ := r
  simp only at h2 hnx hln okn hll
  refine wXK ?_
  refine callG (hnx) [4, 1, 0, 2, 3] rfl ⟨rfl, rfl, rfl, rfl, rfl, trivial⟩ rfl fun _ _ => ?_
  refine wXK ?_
  refine LdN.one (a := some ⟨rb, 0, none⟩) (q := 5) (.int .i64 st2.e) rfl (fun w hw => hw.2.2.2.2.1) rfl ?_
  refine wXK ?_
  by_cases he : st2.e = 0
  ·rw [show (st2.e == 0) = true by rw [he]; rfl]
   refine wXK ?_
   rw [Int.toNat_natCast, hcv]
   refine brd_ne (fun h7 => ?_) (fun h7 => ?_)
   ·have hxc : x ≠ c := fun h => h7 (by rw [h])
    rw [if_pos hxc] at h2
    refine wXK ?_
    refine callG (fail_d rb S st2 P0 [] 4) [4, 1, 0, 2, 3] rfl ⟨rfl, rfl, rfl, rfl, rfl, trivial⟩ rfl fun _ _ => ?_
    refine wXK ?_
    refine ⟨(i + 1, failM st2 4), ⟨by omega, h2, okn.same (fail_ss st2 4), hll.fail 4, hln.trans (fail_le st2 4)⟩, by show 3 - (i + 1) < 3 - i; omega, ?_, wkE_refl _, wkE_refl _, wkE_refl _, wkE_refl _, wkE_refl _, wkH_nil _⟩
    exact wKK
   ·have hxc : x = c := UInt8.toNat_inj.1 (by omega)
    rw [if_neg (fun h => h hxc)] at h2
    refine wXK ?_
    refine ⟨(i + 1, st2), ⟨by omega, h2, okn, hll, hln⟩, by show 3 - (i + 1) < 3 - i; omega, ?_, wkE_refl _, wkE_refl _, wkE_refl _, wkE_refl _, wkE_refl _, wkH_nil _⟩
    exact wKK
  ·rw [show (st2.e == 0) = false by simpa using he]
   have h2 : headM (headB.drop (i + 1)) st2 = S0 := by
    rw [← h2]
    split
    ·rw [fail_dead he]
    ·rfl
   refine wXK ?_
   refine ⟨(i + 1, st2), ⟨by omega, h2, okn, hll, hln⟩, by show 3 - (i + 1) < 3 - i; omega, ?_, wkE_refl _, wkE_refl _, wkE_refl _, wkE_refl _, wkE_refl _, wkH_nil _⟩
   exact wKK
 ·obtain rfl : i = 3 := by rw [hd3] at hi; omega
  have h2 : st = S0 := h2
  subst h2
  have hs4 : st.s.length ≤ S.length := h4.s
  have bd4 := bd0.le h4
  refine wXK ?_
  refine LdN.one (a := some ⟨rb, 0, none⟩) (q := 5) (.int .i64 st.e) rfl (fun w hw => hw.2.2.2.2.1) rfl ?_
  refine wXK ?_
  by_cases he : st.e = 0
  ·rw [show (st.e == 0) = true by rw [he]; rfl]
   refine wXK ?_
   refine callG (form_d (S.length + 1) rb S st P0 [] hS h3 bd4 hl he (by omega)) [4, 1, 0, 2, 3] rfl ⟨rfl, rfl, rfl, rfl, rfl, trivial⟩ rfl fun d hd => ?_
   obtain ⟨dv, ds, dp, dn⟩ := d
   obtain ⟨ok8, hm8, hc8, hl8, le8, lt8, tel8⟩ := hd
   simp only at ok8 hm8 hc8 hl8 le8 lt8 tel8
   obtain ⟨u1, u2, u3⟩ := t2 he dv ds tel8
   have hdn : dp.m = dn := by rw [hm8]; rfl
   subst hdn
   have hll8 := left_len hl8
   refine wXK ?_
   refine LdN.one (a := some ⟨rb, 0, none⟩) (q := 5) (.int .i64 ds.e) rfl (fun w hw => hw.2.2.2.2.1) rfl ?_
   refine wXK ?_
   by_cases he8 : ds.e = 0
   ·rw [show (ds.e == 0) = true by rw [he8]; rfl]
    refine wXK ?_
    refine LdN.one (a := some ⟨rb, 0, none⟩) (q := 1) (.int .i64 ((S.length - ds.s.length : Nat) : Int)) rfl (fun w hw => hw.2.2.2.2.1) rfl ?_
    refine wXK ?_
    refine brd_dec (fun hat => ?_) (fun hat => ?_)
    ·have hne : ds.s ≠ [] := fun h => by rw [hsz, h, List.length_nil, Nat.sub_zero] at hat; exact absurd hat (Int.lt_irrefl _)
     have hl0 := u2 he8 hne
     have he4 : (failM ds 4).e = 4 := fail_e he8 4
     refine wXK ?_
     refine callG (fail_d rb S ds dp ([] ++ dp.m) 4) [4, 1, 0, 2, 3] rfl ⟨rfl, rfl, rfl, rfl, rfl, trivial⟩ rfl fun _ _ => ?_
     refine wXK ?_
     refine LdN.one (a := some ⟨rb, 0, none⟩) (q := 5) (.int .i64 (failM ds 4).e) rfl (fun w hw => hw.2.2.2.2.1) rfl ?_
     refine wXK ?_
     rw [show ((failM ds 4).e == 0) = false by rw [he4]; rfl]
     refine wXK ?_
     refine LdN.one (a := some ⟨rb, 0, none⟩) (q := 5) (.int .i64 (failM ds 4).e) rfl (fun w hw => hw.2.2.2.2.1) rfl ?_
     refine wXK ?_
     refine fin_p (fun w => SlAt (some ⟨rb, 0, none⟩) 6 (ddC S (failM ds 4) (dp)) w ∧ SlAt (dp).ga ((dp).m.length * 5) (grC (dp).m) w ∧ (∀ q ∈ (dp).m, CellF q w) ∧ SlAt (dp).sa ((failM ds 4).ss.length * 1) (strC (failM ds 4).ss) w) ⟨rb, failM ds 4, dp, ?_, ok8.same (fail_ss ds 4), ?_, ?_, fun w hw => hw⟩ (fun w hw => ⟨hw.2.2.2.2.1, hw.2.1, hw.1, hw.2.2.2.1⟩)
     ·rw [hl0, he4]; rfl
     ·exact hc8
     ·intro r h; rw [hl0] at h; cases h
    ·have hnil : ds.s = [] := List.eq_nil_of_length_eq_zero (by rw [hsz] at hat; omega)
     obtain ⟨v1, v2⟩ := u3 he8 hnil
     have hgb : dp.m.length ≤ 500 := by
      have := (bd4.le le8).g
      rw [← ok8.g, List.length_map] at this
      exact this
     obtain ⟨b, hb, hvc⟩ := Valid_b dp.ga dp.gc dp.m ok8.ga (by omega) hc8
     rw [ok8.g] at hb
     refine wXK ?_
     refine LdN.one (a := some ⟨rb, 0, none⟩) (q := 5) (.int .i64 ds.e) rfl (fun w hw => hw.2.2.2.2.1) rfl ?_
     refine wXK ?_
     rw [show (ds.e == 0) = true by rw [he8]; rfl]
     refine wXK ?_
     refine LdN.one (a := some ⟨rb, 0, none⟩) (q := 2) (.slice dp.ga dp.m.length dp.gc) rfl (fun w hw => hw.2.2.2.2.1) rfl ?_
     refine wXK ?_
     refine call1 (hvc _ (fun w hw => ⟨hw.2.1, hw.1⟩)) ?_
     cases b with
     | true =>
      have hl0 := v1 (hb.1 rfl)
      refine wXK ?_
      refine LdN.one (a := some ⟨rb, 0, none⟩) (q := 5) (.int .i64 ds.e) rfl (fun w hw => hw.2.2.2.2.1) rfl ?_
      refine wXK ?_
      refine fin_p (fun w => SlAt (some ⟨rb, 0, none⟩) 6 (ddC S (ds) (dp)) w ∧ SlAt (dp).ga ((dp).m.length * 5) (grC (dp).m) w ∧ (∀ q ∈ (dp).m, CellF q w) ∧ SlAt (dp).sa ((ds).ss.length * 1) (strC (ds).ss) w) ⟨rb, ds, dp, ?_, ok8, ?_, ?_, fun w hw => hw⟩ (fun w hw => ⟨hw.2.2.2.2.1, hw.2.1, hw.1, hw.2.2.2.1⟩)
      ·rw [hl0, he8]; rfl
      ·exact hc8
      ·intro r h; rw [hl0] at h; cases h; exact ⟨rfl, rfl⟩
     | false =>
      have hl0 := v2 (fun h => by have := hb.2 h; cases this)
      have he1 : (failM ds 1).e = 1 := fail_e he8 1
      refine wXK ?_
      refine callG (fail_d rb S ds dp ([] ++ dp.m) 1) [4, 1, 0, 2, 3] rfl ⟨rfl, rfl, rfl, rfl, rfl, trivial⟩ rfl fun _ _ => ?_
      refine wXK ?_
      refine LdN.one (a := some ⟨rb, 0, none⟩) (q := 5) (.int .i64 (failM ds 1).e) rfl (fun w hw => hw.2.2.2.2.1) rfl ?_
      refine wXK ?_
      refine fin_p (fun w => SlAt (some ⟨rb, 0, none⟩) 6 (ddC S (failM ds 1) (dp)) w ∧ SlAt (dp).ga ((dp).m.length * 5) (grC (dp).m) w ∧ (∀ q ∈ (dp).m, CellF q w) ∧ SlAt (dp).sa ((failM ds 1).ss.length * 1) (strC (failM ds 1).ss) w) ⟨rb, failM ds 1, dp, ?_, ok8.same (fail_ss ds 1), ?_, ?_, fun w hw => hw⟩ (fun w hw => ⟨hw.2.2.2.2.1, hw.2.1, hw.1, hw.2.2.2.1⟩)
      ·rw [hl0, he1]; rfl
      ·exact hc8
      ·intro r h; rw [hl0] at h; cases h
   ·rw [show (ds.e == 0) = false by simpa using he8]
    refine wXK ?_
    refine LdN.one (a := some ⟨rb, 0, none⟩) (q := 5) (.int .i64 ds.e) rfl (fun w hw => hw.2.2.2.2.1) rfl ?_
    refine wXK ?_
    rw [show (ds.e == 0) = false by simpa using he8]
    refine wXK ?_
    refine LdN.one (a := some ⟨rb, 0, none⟩) (q := 5) (.int .i64 ds.e) rfl (fun w hw => hw.2.2.2.2.1) rfl ?_
    refine wXK ?_
    have hl0 := u1 he8
    refine fin_p (fun w => SlAt (some ⟨rb, 0, none⟩) 6 (ddC S (ds) (dp)) w ∧ SlAt (dp).ga ((dp).m.length * 5) (grC (dp).m) w ∧ (∀ q ∈ (dp).m, CellF q w) ∧ SlAt (dp).sa ((ds).ss.length * 1) (strC (ds).ss) w) ⟨rb, ds, dp, ?_, ok8, ?_, ?_, fun w hw => hw⟩ (fun w hw => ⟨hw.2.2.2.2.1, hw.2.1, hw.1, hw.2.2.2.1⟩)
    ·rw [hl0]; rfl
    ·exact hc8
    ·intro r h; rw [hl0] at h; cases h
  ·rw [show (st.e == 0) = false by simpa using he]
   refine wXK ?_
   refine LdN.one (a := some ⟨rb, 0, none⟩) (q := 5) (.int .i64 st.e) rfl (fun w hw => hw.2.2.2.2.1) rfl ?_
   refine wXK ?_
   rw [show (st.e == 0) = false by simpa using he]
   refine wXK ?_
   refine LdN.one (a := some ⟨rb, 0, none⟩) (q := 5) (.int .i64 st.e) rfl (fun w hw => hw.2.2.2.2.1) rfl ?_
   refine wXK ?_
   rw [show (st.e == 0) = false by simpa using he]
   refine wXK ?_
   refine LdN.one (a := some ⟨rb, 0, none⟩) (q := 5) (.int .i64 st.e) rfl (fun w hw => hw.2.2.2.2.1) rfl ?_
   refine wXK ?_
   have hl0 := t1 he
   refine fin_p (fun w => SlAt (some ⟨rb, 0, none⟩) 6 (ddC S (st) (P0)) w ∧ SlAt (P0).ga ((P0).m.length * 5) (grC (P0).m) w ∧ (∀ q ∈ (P0).m, CellF q w) ∧ SlAt (P0).sa ((st).ss.length * 1) (strC (st).ss) w) ⟨rb, st, P0, ?_, h3, ?_, ?_, fun w hw => hw⟩ (fun w hw => ⟨hw.2.2.2.2.1, hw.2.1, hw.1, hw.2.2.2.1⟩)
   ·rw [hl0]; rfl
   ·intro q hq; cases hq
   ·intro r h; rw [hl0] at h; cases h
theorem RLoad_c (S : List UInt8) : SpecF Tryz.prog 37 [.string (bs S)] (fun _ => True) (LoadR (loadS S)) := by
 refine specF hm Tryz.func37 (by kernel_rfl) rfl rfl ?_
 ((conv => whnf); (repeat ((first | refine VrN.keep ?_ | refine BoxN.own ?_ | refine RwN.own ?_); (conv => whnf))))
 refine SpecF.call (read_d S) (fun w _ q hq => by cases hq) fun v G hR => ?_
 obtain ⟨rb, st, p, rfl, ok, hcl, hok, hG⟩ := hR
 cases hl : loadS S with
 | error e =>
  have he : e ≠ 0 := loadS_err hl
  refine wX ?_
  refine brd_ne (fun _ => ?_) (fun h => absurd h he)
  refine wX ?_
  exact fin_v rfl
 | ok r =>
  obtain ⟨g, ss⟩ := r
  obtain ⟨h1, h2⟩ := hok _ hl
  refine wX ?_
  refine LdN.one (a := some ⟨rb, 0, none⟩) (q := 2) (.slice p.ga p.m.length p.gc) rfl (fun w hw => (hG w hw.2.1).1) rfl ?_
  refine wX ?_
  exact fin_p (fun w => GrF p.ga p.m w) ⟨_, rfl, p.ga, p.gc, p.m, rfl, ok.g.trans h1, ok.ga, hcl, fun w hw => hw⟩ (fun w hw => ⟨(hG w hw.2.1).2.1, (hG w hw.2.1).2.2.1⟩)
theorem RSymbols_c (S : List UInt8) : SpecF Tryz.prog 39 [.string (bs S)] (fun _ => True) (SymsR (loadS S)) := by
 refine specF hm Tryz.func39 (by kernel_rfl) rfl rfl ?_
 ((conv => whnf); (repeat ((first | refine VrN.keep ?_ | refine BoxN.own ?_ | refine RwN.own ?_); (conv => whnf))))
 refine SpecF.call (read_d S) (fun w _ q hq => by cases hq) fun v G hR => ?_
 obtain ⟨rb, st, p, rfl, ok, hcl, hok, hG⟩ := hR
 cases hl : loadS S with
 | error e =>
  have he : e ≠ 0 := loadS_err hl
  refine wX ?_
  refine brd_ne (fun _ => ?_) (fun h => absurd h he)
  refine wX ?_
  exact fin_v rfl
 | ok r =>
  obtain ⟨g, ss⟩ := r
  obtain ⟨h1, h2⟩ := hok _ hl
  have h2 : st.ss = ss := h2
  subst h2
  refine wX ?_
  refine LdN.one (a := some ⟨rb, 0, none⟩) (q := 4) (.slice p.sa st.ss.length p.sc) rfl (fun w hw => (hG w hw.2.1).1) rfl ?_
  refine wX ?_
  exact fin_p (fun w => SlAt p.sa (st.ss.length * 1) (strC st.ss) w) ⟨_, rfl, p.sa, p.sc, rfl, ok.sa, fun w hw => hw⟩ (fun w hw => (hG w hw.2.1).2.2.2)
end Go.Proofs.YtgogonnnojcioaaGreatDoor
namespace Go.Proofs.YtgogonnnojcioaaGreatDoor
open Go.AX Go.RowKit Go.Core
set_option maxRecDepth 20000
end Go.Proofs.YtgogonnnojcioaaGreatDoor
namespace Go.AX
end Go.AX
namespace Go.Core
theorem set_same {α : Type} {l : List α} {k : Nat} {x : α} (h : l[k]? = some x) : l.set k x = l := by
 obtain ⟨hk, rfl⟩ := List.getElem?_eq_some_iff.1 h
 exact List.set_getElem_self hk
end Go.Core
namespace Go.Proofs.YtgogonnnojcioaaGreatDoor
open Go.AX Go.RowKit Go.Core
set_option maxRecDepth 20000
end Go.Proofs.YtgogonnnojcioaaGreatDoor
namespace Go.Proofs.YtgogonnnojcioaaGreatDoor
open Go.AX Go.RowKit Go.Core
set_option maxRecDepth 20000
end Go.Proofs.YtgogonnnojcioaaGreatDoor
namespace Go.Core
end Go.Core
namespace Go.Proofs.YtgogonnnojcioaaGreatDoor
open Go.AX Go.RowKit Go.Core
set_option maxRecDepth 20000
end Go.Proofs.YtgogonnnojcioaaGreatDoor
namespace Go.Core
def KnD (g : List Cell) (S : List Int) : Prop := S.length = g.length ∧ ∀ (j : Nat) (v : Int), S[j]? = some v → v = 0 ∨ (v = (dep g (j : Int) : Int) ∧ 0 < v)
theorem KnD.none (g : List Cell) : KnD g (List.replicate g.length 0) := ⟨by simp, fun j v h => by
 rw [List.getElem?_replicate] at h
 split at h
 ·exact .inl (Option.some.inj h).symm
 ·cases h⟩
theorem KnD.put {g : List Cell} {S : List Int} (h : KnD g S) {i : Nat} (hp : 0 < dep g (i : Int)) : KnD g (S.set i (dep g (i : Int) : Int)) := by
 refine ⟨by rw [List.length_set, h.1], fun j v hj => ?_⟩
 by_cases e : i = j
 ·subst e
  rw [List.getElem?_set] at hj
  simp only [if_true] at hj
  split at hj
  ·cases hj; exact .inr ⟨rfl, by omega⟩
  ·cases hj
 ·rw [List.getElem?_set_ne e] at hj
  exact h.2 j v hj
end Go.Core
namespace Go.Proofs.YtgogonnnojcioaaGreatDoor
open Go.AX Go.RowKit Go.Core
set_option maxRecDepth 20000
end Go.Proofs.YtgogonnnojcioaaGreatDoor
namespace Go.Proofs.YtgogonnnojcioaaGreatDoor
open Go.AX Go.RowKit Go.Core
set_option maxRecDepth 20000
theorem take_next {α : Type} {l m : List α} {i : Nat} {x y : α} (h : l.take i = m.take i) (hx : l[i]? = some x) (hy : m[i]? = some y) (e : x = y) : l.take (i + 1) = m.take (i + 1) := by
 rw [List.take_add_one, List.take_add_one, h, hx, hy, e]
end Go.Proofs.YtgogonnnojcioaaGreatDoor
namespace Go.Core
def cellE (x y : Cell) : Bool := x.kind == y.kind && x.num == y.num && x.text == y.text && decide (x.names = y.names) && decide (x.items = y.items)
theorem cellE_iff {x y : Cell} : cellE x y = true ↔ x = y := by
 unfold cellE
 simp only [Bool.and_eq_true, beq_iff_eq, decide_eq_true_eq]
 constructor
 ·intro ⟨⟨⟨⟨h1, h2⟩, h3⟩, h4⟩, h5⟩
  cases x; cases y
  simp only at h1 h2 h3 h4 h5
  subst h1 h2 h3 h4 h5
  rfl
 ·intro h
  subst h
  exact ⟨⟨⟨⟨rfl, rfl⟩, rfl⟩, rfl⟩, rfl⟩
end Go.Core
namespace Go.Proofs.YtgogonnnojcioaaGreatDoor
open Go.AX Go.RowKit Go.Core
set_option maxRecDepth 20000
theorem bool_no {r : Bool} {P : Prop} (hr : r = true ↔ P) (h : ¬ P) : false = r := by
 cases r with
 | false => rfl
 | true => exact absurd (hr.1 rfl) h
end Go.Proofs.YtgogonnnojcioaaGreatDoor
namespace Go.Core
end Go.Core
namespace Go.Core
open Go.Proofs.YtgogonnnojcioaaGreatDoor
end Go.Core
namespace Go.Proofs.YtgogonnnojcioaaGreatDoor
open Go.AX Go.RowKit Go.Core
set_option maxRecDepth 20000
end Go.Proofs.YtgogonnnojcioaaGreatDoor
