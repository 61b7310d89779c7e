/-
  Lemmas (G1 MD10 MD7 Ax60 MC14 MD11).
-/
import Derived.Test.YtgogonnnojcioaaGreatDoorMch8
set_option linter.unusedVariables false
set_option linter.unusedSimpArgs false
namespace Go.Proofs.YtgogonnnojcioaaGreatDoor
open Go.AX Go.RowKit Go.Core
set_option maxRecDepth 20000
structure GrwC (n : Nat) (p : CellP) : Prop where
 ok : CellOk p
 it : ∀ y ∈ p.c.items, 0 ≤ y
 il : p.c.items.length ≤ 4
 nl : p.c.names.length ≤ 2
 tl : p.c.text.length ≤ 2
theorem grw_plain (n : Nat) (k nu : Int) (t : List UInt8) (ht : t.length ≤ 2) : GrwC n ⟨⟨k, nu, t, [], []⟩, none, 0, none, 0⟩ :=
 ⟨⟨fun _ => rfl, fun _ => rfl, Nat.zero_le _, Nat.zero_le _, (fun s h => (by cases h)), (by show t.length ≤ _; omega), Nat.le_refl _, Nat.le_refl _⟩, (fun y h => (by cases h)), Nat.zero_le _, Nat.zero_le _, ht⟩
theorem grw_item (x : Int) (k d e n : Nat) (hx : 0 ≤ x ∧ x ≤ 2049638230412172402) (hk : k ≤ 3) (hd : 1 ≤ d) (he : e ≤ 10) : 0 ≤ (IntKind.i64.wrap (IntKind.u64.wrap (IntKind.u64.wrap (x.tdiv (d : Int)) + IntKind.u64.wrap (IntKind.u64.wrap (k : Int) * (e : Int))))).tmod (n : Int) := by
 have h1 : 0 ≤ x.tdiv (d : Int) ∧ x.tdiv (d : Int) ≤ x := by
  rw [Int.tdiv_eq_ediv_of_nonneg hx.1]
  exact ⟨Int.ediv_nonneg hx.1 (by omega), Int.ediv_le_self _ hx.1⟩
 have h2 : 0 ≤ (k : Int) * (e : Int) ∧ (k : Int) * (e : Int) ≤ 30 := by
  have := Nat.mul_le_mul hk he
  rw [← Int.natCast_mul]
  omega
 rw [wrap_u64 (x := x.tdiv (d : Int)) (by omega), wrap_u64 (x := (k : Int)) (by omega), wrap_u64 (x := (k : Int) * (e : Int)) (by omega), wrap_u64 (by omega), wrap_i64 (by omega)]
 exact Int.tmod_nonneg _ (by omega)
def setI (p : CellP) (its : List Int) (ia : Option Addr) (ic : Nat) : CellP := ⟨{ p.c with items := its }, p.na, p.nc, ia, ic⟩
theorem grC_set : ∀ {m : List CellP} {j : Nat} {p : CellP} (its : List Int) (ia : Option Addr) (ic : Nat), m[j]? = some p → (grC m).set (j * 5 + 4) (.slice ia its.length ic) = grC (m.set j (setI p its ia ic))
 | [], _, _, _, _, _, h => by cases h
 | q :: m, 0, p, its, ia, ic, h => by
  obtain rfl := Option.some.inj h
  rfl
 | q :: m, j + 1, p, its, ia, ic, h => by
  have ih := grC_set its ia ic (show m[j]? = some p from h)
  have e : ∀ q : CellP, grC (q :: m) = cellC q ++ grC m := fun q => by unfold grC; rw [List.flatMap_cons]
  rw [e, List.set_cons_succ, show (j + 1) * 5 + 4 = (j * 5 + 4) + 5 by omega]
  have e2 : grC (q :: m.set j (setI p its ia ic)) = cellC q ++ grC (m.set j (setI p its ia ic)) := by unfold grC; rw [List.flatMap_cons]
  rw [e2, ← ih]
  rfl
theorem SlAt.take {a : Option Addr} {k j : Nat} {xs : List Value} {w : World} (h : SlAt a k xs w) (hj : j ≤ k) : SlAt a j (xs.take j) w :=
 ⟨by rw [List.length_take, h.1]; omega, fun h0 => h.2.1 (by omega), fun i hi => by rw [h.2.2 i (by omega), List.getElem?_take_of_lt hi]⟩
theorem grw_set {n : Nat} {m : List CellP} (h : ∀ p ∈ m, GrwC n p) {j : Nat} {p : CellP} (hp : p ∈ m) {its : List Int} (b ic : Nat) (h0 : ∀ y ∈ its, 0 ≤ y) (hl : its.length ≤ 4) (hc : its.length ≤ ic) : ∀ q ∈ m.set j (setI p its (some ⟨b, 0, none⟩) ic), GrwC n q := fun q hq => by
 rcases List.mem_or_eq_of_mem_set hq with hq | rfl
 ·exact h q hq
 ·have g := h p hp
  exact ⟨⟨g.ok.na, (fun h => by cases h), g.ok.nl, (by show its.length ≤ _; omega), g.ok.nw, g.ok.tl, g.ok.nb, hc⟩, h0, hl, g.nl, g.tl⟩
theorem grw_small {n : Nat} {m : List CellP} (h : ∀ p ∈ m, GrwC n p) (hl : m.length ≤ 12) : Small m :=
 ⟨by omega, fun p hp => ⟨by have := (h p hp).nl; omega, by have := (h p hp).il; omega⟩⟩
theorem Valid_b (a : Option Addr) (ca : Nat) (l : List CellP) (ha : a = none → l = []) (hl : l.length ≤ 200000000000000) (hok : ∀ p ∈ l, CellOk p) :
  ∃ b : Bool, (b = true ↔ ValidP (l.map (·.c))) ∧ ∀ H, (∀ w, Facts H w → GrF a l w) → SpecH Tryz.prog 31 (pvs [.slice a l.length ca]) H (Ret (.bool b) H) := by
 obtain ⟨b, hb⟩ : ∃ b : Bool, b = true ↔ ValidP (l.map (·.c)) := by
  by_cases h : ValidP (l.map (·.c))
  ·exact ⟨true, fun _ => h, fun _ => rfl⟩
  ·exact ⟨false, (fun h => by cases h), fun h2 => absurd h2 h⟩
 refine ⟨b, hb, fun H hH => ?_⟩
 obtain ⟨b2, hb2, h⟩ := Valid_c a ca l ha hl hok H hH
 obtain rfl : b2 = b := by rw [Bool.eq_iff_iff, hb, hb2]
 exact h
theorem set_rows {m : List CellP} {j : Nat} {p : CellP} (hp : p ∈ m) {its : List Int} {ia : Option Addr} {ic : Nat} {w : World} (h : ∀ q ∈ m, CellF q w) (hi : SlAt ia (its.length * 1) (iC its) w) : ∀ q ∈ m.set j (setI p its ia ic), CellF q w := fun q hq => by
 rcases List.mem_or_eq_of_mem_set hq with hq | rfl
 ·exact h q hq
 ·exact ⟨(h p hp).1, hi⟩
theorem specFJ {P : Program} (hm : P.follows .mixedOrders = true) {f : FuncId} {fn : Func} {c : Code} (hf : P.funcs[f]? = some fn) (hn : (fn.name == "runtime.NumGoroutine") = false) (hb : fn.body = some c)
  {xs : List Value} (hl : Nat.ble (pvs xs).length fn.ntmps = true) {F : World → Prop} {R : Value → (World → Prop) → Prop} (h : initK fn.ntmps (pvs xs) fun s => execJ P c s [.fact F] (endK P fn.results.toList fun out H' => notPan out ∧ Fin R out H')) : SpecF P f xs F R :=
 specF_of (specJ_of_exec hm hf hn hb hl h)
def GrwR (v : Value) (G : World → Prop) : Prop := ∃ (oa : Option Addr) (oc : Nat) (m : List CellP), v = .slice oa m.length oc ∧ (oa = none → m = []) ∧ (∀ p ∈ m, CellOk p) ∧ Small m ∧ (m = [] ∨ ValidP (m.map (·.c))) ∧ (m.length ≤ 12 ∧ ∀ p ∈ m, p.c.items.length ≤ 4 ∧ p.c.names.length ≤ 2 ∧ p.c.text.length ≤ 2) ∧ ∀ w, G w → GrF oa m w
structure GSt where
 i : Nat
 ob : Option Nat
 oc : Nat
 m : List CellP
abbrev GIx := (Int × Int × List UInt8) ⊕ (List Int × BSt) ⊕ (List UInt8 × List (List UInt8) × BSt × List Int × BSt)
def gP : GIx → CellP
 | .inl (k, nu, t) => ⟨⟨k, nu, t, [], []⟩, none, 0, none, 0⟩
 | .inr (.inl (its, o)) => ⟨⟨6, 0, [], [], its⟩, none, 0, at0 o.ob, o.cap⟩
 | .inr (.inr (t, nms, o2, its, o)) => ⟨⟨8, 0, t, nms, its⟩, at0 o2.ob, o2.cap, at0 o.ob, o.cap⟩
def gT : GIx → List Ent
 | .inl _ => []
 | .inr (.inl (its, o)) => [.app 3 1 (iC its) (at0 o.ob) its.length o.cap]
 | .inr (.inr (t, nms, o2, its, o)) => [.dead, .app 9 1 (strC nms) (at0 o2.ob) nms.length o2.cap, .app 3 1 (iC its) (at0 o.ob) its.length o.cap]
set_option maxHeartbeats 4000000 in
theorem Grown_c (a : Option Addr) (ca : Nat) (L : List Int) (ha : a = none → L = []) (hl : L.length ≤ 200000000000000) : SpecF Tryz.prog 12 [.slice a L.length ca] (fun w => SlAt a (L.length * 1) (iC L) w) GrwR := by
 refine specFJ hm Tryz.func12 (by kernel_rfl) rfl rfl ?_
 refine wXS ?_
 obtain ⟨n, hn⟩ : ∃ n, n = min L.length 12 := ⟨_, rfl⟩
 refine LoopN.introS GSt (fun ⟨i, ob, oc, m⟩ => i ≤ n ∧ m.length = i ∧ (∀ p ∈ m, GrwC n p) ∧ (ob = none → m = []) ∧ m.length ≤ oc) (fun ⟨i, ob, oc, m⟩ => mkS Tryz.f12.ntmps 0 [(0, .c (.v (.slice a L.length ca))), (3, .c (.v (.int .i64 (n : Int)))), (4, .c (.v (.slice (at0 ob) m.length oc))), (5, .c (.v (.int .i64 (i : Int))))]) (fun ⟨i, ob, oc, m⟩ => [.fact (fun w => SlAt a (L.length * 1) (iC L) w), .app 57 5 (grC m) (at0 ob) m.length oc, .fact (fun w => ∀ p ∈ m, CellF p w)]) (fun ⟨i, _, _, _⟩ => n - i) [.app 57 5 [] none 0 0, .dead] rfl (fun _ => rfl) (fun _ => rfl) (fun _ _ => ⟨trivial, trivial, trivial, trivial⟩) ?_ ?_
 ·refine ⟨⟨0, none, 0, []⟩, ⟨Nat.zero_le _, rfl, (fun p h => by cases h), (fun _ => rfl), Nat.le_refl _⟩, ?_, [.fact (fun w => SlAt a (L.length * 1) (iC L) w), .app 57 5 [] none 0 0, .fact (fun w => ∀ p ∈ [], CellF p w)], turnS ⟨.inr (.inl rfl), .inr (.inl rfl), .inr (.inr ⟨_, rfl, fun w _ p hp => by cases hp⟩), trivial⟩, wkH_refl _⟩
  (repeat' (first | exact trivial | refine And.intro (by with_reducible rfl) ?_ | (with_reducible exact wkC_refl _) | (with_reducible exact wkCs_refl _) | refine And.intro ?_ ?_))
  all_goals first | rfl | exact av_int (by rw [hn]; unfold Go.AX.minI; split <;> omega)
 rintro ⟨i, ob, oc, m⟩ ⟨hi, hml, hmo, hoa, hoc⟩
 refine wXS ?_
 refine brd_dec (fun h1 => ?_) (fun h1 => ?_)
 ·obtain ⟨z, hz⟩ : ∃ z, L[i]? = some z := ⟨_, List.getElem?_eq_getElem (by omega)⟩
  have hsa : a.isSome = true := by
   cases a with
   | none => rw [ha rfl] at hz; cases hz
   | some b => rfl
  refine wXS ?_
  refine Nd.mk ⟨hsa, by omega, by omega⟩ ?_
  refine wXS ?_
  refine LdN.one (.int .i64 z) rfl (fun w hw => hw.1) (by rw [Int.toNat_natCast]; show (iC L)[i * 1]? = _; rw [Nat.mul_one]; exact iC_get hz) ?_
  refine wX ?_
  refine SeqN.plain ?_
  refine wX ?_
  refine SeqN.plain ?_
  refine wX ?_
  have hXb := wrap_u64_bd z
  generalize IntKind.u64.wrap z = X at *
  have hx0 : IntKind.u64.wrap (X.tdiv 9) = X / 9 := by rw [Int.tdiv_eq_ediv_of_nonneg (by omega)]; exact wrap_u64 (by omega)
  have hk0 : IntKind.i64.wrap (X.tmod 9) = X % 9 := by rw [Int.tmod_eq_emod_of_nonneg (by omega)]; exact wrap_i64 (by omega)
  rw [hx0, hk0]
  obtain ⟨x, hx⟩ : ∃ x, x = X / 9 := ⟨_, rfl⟩
  obtain ⟨kd, hkd⟩ : ∃ kd, kd = X % 9 := ⟨_, rfl⟩
  rw [← hx, ← hkd]
  have hxb : 0 ≤ x ∧ x ≤ 2049638230412172402 := by omega
  have hkb : 0 ≤ kd ∧ kd ≤ 8 := by omega
  clear hx0 hk0
  refine SeqN.join GIx (fun i => GrwC n (gP i)) (fun _ => mkS Tryz.f12.ntmps 0 [(0, .c (.v (.slice a L.length ca))), (3, .c (.v (.int .i64 (n : Int)))), (4, .c (.v (.slice (at0 ob) m.length oc))), (5, .c (.v (.int .i64 (i : Int)))), (7, .c (.lp 3 0))])
   (fun i => .fact (fun w => SlAt a (L.length * 1) (iC L) w) :: .app 57 5 (grC m) (at0 ob) m.length oc :: .fact (fun w => ∀ p ∈ m, CellF p w) :: .blk 57 (vs (cellC (gP i))) :: gT i)
   (by rintro (_ | _ | _) _ <;> exact Nat.le_of_ble_eq_true rfl) (by rintro (_ | _ | _) _ <;> rfl) (by rintro (_ | _ | _) _ <;> exact okHB_eq rfl) ?_ ?_
  rotate_left
  ·rintro (⟨k, nu, t⟩ | ⟨its, ob0, ocap⟩ | ⟨t, nms, ⟨nb0, ncap⟩, its, ob0, ocap⟩) hgp
   ·-- the cell is put behind the graph; ⟨⟨k, nu, t, [], []⟩, none, 0, none, 0⟩: the cell, , .dead, .dead: what else is over, ⟨SlAt.nil, SlAt.nil⟩: its rows
    refine wXS ?_
    try refine Nd.mk ⟨Nat.le_refl 1, rfl, rfl⟩ ?_
    (conv => whnf)
    refine AppN.grow 1 (grC m) (cellC (⟨⟨k, nu, t, [], []⟩, none, 0, none, 0⟩ : CellP)) rfl rfl ⟨Nat.le_refl 1, ⟨by show (m.length + 1) * 80 ≤ _; omega, by omega⟩, by decide⟩ fun ob2 oc2 hoc2 _ => ?_
    refine wXS ?_
    have hm2 : m.length + 1 = (m ++ [(⟨⟨k, nu, t, [], []⟩, none, 0, none, 0⟩ : CellP)]).length := by simp
    have hg2 := grC_snoc m ⟨⟨k, nu, t, [], []⟩, none, 0, none, 0⟩
    refine ⟨⟨i + 1, some ob2, oc2, m ++ [⟨⟨k, nu, t, [], []⟩, none, 0, none, 0⟩]⟩, ⟨by omega, by rw [← hm2, hml], ?_, (fun h => by cases h), by rw [← hm2]; exact hoc2⟩, by show n - (i + 1) < n - i; omega, ?_, [.fact (fun w => SlAt a (L.length * 1) (iC L) w), .app 57 5 (grC m ++ cellC ⟨⟨k, nu, t, [], []⟩, none, 0, none, 0⟩) (some ⟨ob2, 0, none⟩) (m.length + 1) oc2, .fact (fun w => ∀ q ∈ m ++ [(⟨⟨k, nu, t, [], []⟩, none, 0, none, 0⟩ : CellP)], CellF q w), .dead, .dead], turnS ⟨.inr (.inl rfl), .inr (.inl rfl), .inr (.inr ⟨_, rfl, fun w hw q hq => ?_⟩), by repeat (first | exact trivial | refine ⟨.inl rfl, ?_⟩)⟩, ?_⟩
    ·intro q hq
     rcases List.mem_append.1 hq with hq | hq
     ·exact hmo q hq
     ·rw [List.mem_singleton.1 hq]
      exact hgp
    ·(repeat' (first | exact trivial | refine And.intro (by with_reducible rfl) ?_ | (with_reducible exact wkC_refl _) | (with_reducible exact wkCs_refl _) | refine And.intro ?_ ?_))
     all_goals first | rfl | exact av_int (by rw [wrap_i64 (by omega)]; omega) | (rw [hm2]; rfl)
    ·rcases List.mem_append.1 hq with hq | hq
     ·exact hw.2.1 q hq
     ·rw [List.mem_singleton.1 hq]
      exact ⟨SlAt.nil, SlAt.nil⟩
    ·show wkH _ [Ent.fact _, .app 57 5 (grC (m ++ [_])) _ (m ++ [_]).length _, _]
     rw [← hm2, hg2]
     exact ⟨wkE_refl _, wkE_refl _, wkE_refl _, trivial⟩
   ·-- the cell is put behind the graph; ⟨⟨6, 0, [], [], its⟩, none, 0, at0 ob0, ocap⟩: the cell, , .dead, .dead, .dead: what else is over, ⟨SlAt.nil, hw.2.2.1⟩: its rows
    refine wXS ?_
    try refine Nd.mk ⟨Nat.le_refl 1, rfl, rfl⟩ ?_
    (conv => whnf)
    refine AppN.grow 1 (grC m) (cellC (⟨⟨6, 0, [], [], its⟩, none, 0, at0 ob0, ocap⟩ : CellP)) rfl rfl ⟨Nat.le_refl 1, ⟨by show (m.length + 1) * 80 ≤ _; omega, by omega⟩, by decide⟩ fun ob2 oc2 hoc2 _ => ?_
    refine wXS ?_
    have hm2 : m.length + 1 = (m ++ [(⟨⟨6, 0, [], [], its⟩, none, 0, at0 ob0, ocap⟩ : CellP)]).length := by simp
    have hg2 := grC_snoc m ⟨⟨6, 0, [], [], its⟩, none, 0, at0 ob0, ocap⟩
    refine ⟨⟨i + 1, some ob2, oc2, m ++ [⟨⟨6, 0, [], [], its⟩, none, 0, at0 ob0, ocap⟩]⟩, ⟨by omega, by rw [← hm2, hml], ?_, (fun h => by cases h), by rw [← hm2]; exact hoc2⟩, by show n - (i + 1) < n - i; omega, ?_, [.fact (fun w => SlAt a (L.length * 1) (iC L) w), .app 57 5 (grC m ++ cellC ⟨⟨6, 0, [], [], its⟩, none, 0, at0 ob0, ocap⟩) (some ⟨ob2, 0, none⟩) (m.length + 1) oc2, .fact (fun w => ∀ q ∈ m ++ [(⟨⟨6, 0, [], [], its⟩, none, 0, at0 ob0, ocap⟩ : CellP)], CellF q w), .dead, .dead, .dead], turnS ⟨.inr (.inl rfl), .inr (.inl rfl), .inr (.inr ⟨_, rfl, fun w hw q hq => ?_⟩), by repeat (first | exact trivial | refine ⟨.inl rfl, ?_⟩)⟩, ?_⟩
    ·intro q hq
     rcases List.mem_append.1 hq with hq | hq
     ·exact hmo q hq
     ·rw [List.mem_singleton.1 hq]
      exact hgp
    ·(repeat' (first | exact trivial | refine And.intro (by with_reducible rfl) ?_ | (with_reducible exact wkC_refl _) | (with_reducible exact wkCs_refl _) | refine And.intro ?_ ?_))
     all_goals first | rfl | exact av_int (by rw [wrap_i64 (by omega)]; omega) | (rw [hm2]; rfl)
    ·rcases List.mem_append.1 hq with hq | hq
     ·exact hw.2.1 q hq
     ·rw [List.mem_singleton.1 hq]
      exact ⟨SlAt.nil, hw.2.2.1⟩
    ·show wkH _ [Ent.fact _, .app 57 5 (grC (m ++ [_])) _ (m ++ [_]).length _, _]
     rw [← hm2, hg2]
     exact ⟨wkE_refl _, wkE_refl _, wkE_refl _, trivial⟩
   ·-- the cell is put behind the graph; ⟨⟨8, 0, t, nms, its⟩, at0 nb0, ncap, at0 ob0, ocap⟩: the cell, , .dead, .dead, .dead, .dead, .dead: what else is over, ⟨hw.2.2.1, hw.2.2.2.1⟩: its rows
    refine wXS ?_
    try refine Nd.mk ⟨Nat.le_refl 1, rfl, rfl⟩ ?_
    (conv => whnf)
    refine AppN.grow 1 (grC m) (cellC (⟨⟨8, 0, t, nms, its⟩, at0 nb0, ncap, at0 ob0, ocap⟩ : CellP)) rfl rfl ⟨Nat.le_refl 1, ⟨by show (m.length + 1) * 80 ≤ _; omega, by omega⟩, by decide⟩ fun ob2 oc2 hoc2 _ => ?_
    refine wXS ?_
    have hm2 : m.length + 1 = (m ++ [(⟨⟨8, 0, t, nms, its⟩, at0 nb0, ncap, at0 ob0, ocap⟩ : CellP)]).length := by simp
    have hg2 := grC_snoc m ⟨⟨8, 0, t, nms, its⟩, at0 nb0, ncap, at0 ob0, ocap⟩
    refine ⟨⟨i + 1, some ob2, oc2, m ++ [⟨⟨8, 0, t, nms, its⟩, at0 nb0, ncap, at0 ob0, ocap⟩]⟩, ⟨by omega, by rw [← hm2, hml], ?_, (fun h => by cases h), by rw [← hm2]; exact hoc2⟩, by show n - (i + 1) < n - i; omega, ?_, [.fact (fun w => SlAt a (L.length * 1) (iC L) w), .app 57 5 (grC m ++ cellC ⟨⟨8, 0, t, nms, its⟩, at0 nb0, ncap, at0 ob0, ocap⟩) (some ⟨ob2, 0, none⟩) (m.length + 1) oc2, .fact (fun w => ∀ q ∈ m ++ [(⟨⟨8, 0, t, nms, its⟩, at0 nb0, ncap, at0 ob0, ocap⟩ : CellP)], CellF q w), .dead, .dead, .dead, .dead, .dead], turnS ⟨.inr (.inl rfl), .inr (.inl rfl), .inr (.inr ⟨_, rfl, fun w hw q hq => ?_⟩), by repeat (first | exact trivial | refine ⟨.inl rfl, ?_⟩)⟩, ?_⟩
    ·intro q hq
     rcases List.mem_append.1 hq with hq | hq
     ·exact hmo q hq
     ·rw [List.mem_singleton.1 hq]
      exact hgp
    ·(repeat' (first | exact trivial | refine And.intro (by with_reducible rfl) ?_ | (with_reducible exact wkC_refl _) | (with_reducible exact wkCs_refl _) | refine And.intro ?_ ?_))
     all_goals first | rfl | exact av_int (by rw [wrap_i64 (by omega)]; omega) | (rw [hm2]; rfl)
    ·rcases List.mem_append.1 hq with hq | hq
     ·exact hw.2.1 q hq
     ·rw [List.mem_singleton.1 hq]
      exact ⟨hw.2.2.1, hw.2.2.2.1⟩
    ·show wkH _ [Ent.fact _, .app 57 5 (grC (m ++ [_])) _ (m ++ [_]).length _, _]
     rw [← hm2, hg2]
     exact ⟨wkE_refl _, wkE_refl _, wkE_refl _, trivial⟩
  have hkk : kd = 0 ∨ kd = 1 ∨ kd = 2 ∨ kd = 3 ∨ kd = 4 ∨ kd = 5 ∨ kd = 6 ∨ kd = 7 ∨ kd = 8 := by omega
  clear hkd hkb hXb
  rcases hkk with rfl | rfl | rfl | rfl | rfl | rfl | rfl | rfl | rfl
  ·refine wXS ?_
   refine ⟨.inl (0, 0, []), grw_plain n _ _ _ (by decide), ?_, wkE_refl _, wkE_refl _, wkE_refl _, wkE_refl _, trivial⟩
   exact wKK
  ·refine wXS ?_
   refine ⟨.inl (1, 0, []), grw_plain n _ _ _ (by decide), ?_, wkE_refl _, wkE_refl _, wkE_refl _, wkE_refl _, trivial⟩
   exact wKK
  ·refine wXS ?_
   refine ⟨.inl (2, 0, []), grw_plain n _ _ _ (by decide), ?_, wkE_refl _, wkE_refl _, wkE_refl _, wkE_refl _, trivial⟩
   exact wKK
  ·refine wXS ?_
   generalize IntKind.i64.wrap (IntKind.i64.wrap (x.tmod 5) - 2) = nu at *
   refine wXS ?_
   refine ⟨.inl (3, nu, []), grw_plain n _ _ _ (by decide), ?_, wkE_refl _, wkE_refl _, wkE_refl _, wkE_refl _, trivial⟩
   exact wKK
  ·refine wXS ?_
   rw [show x.tmod 4 = x % 4 by rw [Int.tmod_eq_emod_of_nonneg (by omega)]]
   have hj : x % 4 = 0 ∨ x % 4 = 1 ∨ x % 4 = 2 ∨ x % 4 = 3 := by omega
   rcases hj with e | e | e | e <;> rw [e]
   ·refine wXS ?_
    refine ⟨.inl (4, 0, [97]), grw_plain n _ _ _ (by decide), ?_, wkE_refl _, wkE_refl _, wkE_refl _, wkE_refl _, trivial⟩
    exact wKK
   ·refine wXS ?_
    refine ⟨.inl (4, 0, [98]), grw_plain n _ _ _ (by decide), ?_, wkE_refl _, wkE_refl _, wkE_refl _, wkE_refl _, trivial⟩
    exact wKK
   ·refine wXS ?_
    refine ⟨.inl (4, 0, [35]), grw_plain n _ _ _ (by decide), ?_, wkE_refl _, wkE_refl _, wkE_refl _, wkE_refl _, trivial⟩
    exact wKK
   ·refine wXS ?_
    refine ⟨.inl (4, 0, [97, 97]), grw_plain n _ _ _ (by decide), ?_, wkE_refl _, wkE_refl _, wkE_refl _, wkE_refl _, trivial⟩
    exact wKK
  ·refine wXS ?_
   rw [show x.tmod 4 = x % 4 by rw [Int.tmod_eq_emod_of_nonneg (by omega)]]
   have hj : x % 4 = 0 ∨ x % 4 = 1 ∨ x % 4 = 2 ∨ x % 4 = 3 := by omega
   rcases hj with e | e | e | e <;> rw [e]
   ·refine wXS ?_
    refine ⟨.inl (5, 0, [97]), grw_plain n _ _ _ (by decide), ?_, wkE_refl _, wkE_refl _, wkE_refl _, wkE_refl _, trivial⟩
    exact wKK
   ·refine wXS ?_
    refine ⟨.inl (5, 0, [98]), grw_plain n _ _ _ (by decide), ?_, wkE_refl _, wkE_refl _, wkE_refl _, wkE_refl _, trivial⟩
    exact wKK
   ·refine wXS ?_
    refine ⟨.inl (5, 0, [35]), grw_plain n _ _ _ (by decide), ?_, wkE_refl _, wkE_refl _, wkE_refl _, wkE_refl _, trivial⟩
    exact wKK
   ·refine wXS ?_
    refine ⟨.inl (5, 0, [97, 97]), grw_plain n _ _ _ (by decide), ?_, wkE_refl _, wkE_refl _, wkE_refl _, wkE_refl _, trivial⟩
    exact wKK
  ·refine wXS ?_
   have hc4 : IntKind.i64.wrap (x.tmod 4) = x % 4 := by rw [Int.tmod_eq_emod_of_nonneg (by omega)]; exact wrap_i64 (by omega)
   refine LoopN.intro (Nat × List Int × BSt) (fun ⟨k, its, o⟩ => k ≤ 3 ∧ its.length = k ∧ (∀ y ∈ its, 0 ≤ y) ∧ o.ok its.length)
    (fun ⟨k, its, o⟩ => mkS Tryz.f12.ntmps 0 [(0, .c (.v (.slice a L.length ca))), (3, .c (.v (.int .i64 (n : Int)))), (4, .c (.v (.slice (at0 ob) m.length oc))), (5, .c (.v (.int .i64 (i : Int)))), (6, .c (.v (.int .u64 x))), (7, .c (.lp 3 0)), (8, .c (.v (.int .i64 (k : Int))))])
    (fun ⟨k, its, o⟩ => [.fact (fun w => SlAt a (L.length * 1) (iC L) w), .app 57 5 (grC m) (at0 ob) m.length oc, .fact (fun w => ∀ p ∈ m, CellF p w), .blk 57 (vs (cellC ⟨⟨6, 0, [], [], its⟩, none, 0, at0 o.ob, o.cap⟩)), .app 3 1 (iC its) (at0 o.ob) its.length o.cap]) (fun ⟨k, _, _⟩ => 4 - k) [.app 3 1 [] none 0 0] rfl (fun ⟨_, _, _⟩ => rfl) (fun ⟨_, _, _⟩ => rfl) (fun ⟨_, _, _⟩ _ => okHB_eq rfl) ?_ ?_
   ·refine ⟨(0, [], ⟨none, 0⟩), ⟨Nat.zero_le _, rfl, (fun y h => by cases h), fun _ => ⟨rfl, rfl⟩, Nat.le_refl _, fun _ => rfl⟩, ?_, wkE_refl _, wkE_refl _, wkE_refl _, wkE_refl _, wkE_refl _, trivial⟩
    exact wKK
   rintro ⟨k, its, ⟨ob0, ocap⟩⟩ ⟨hk, hil, hip, ho⟩
   refine wXS ?_
   refine brd_dec (fun h2 => ?_) (fun h2 => ?_)
   ·rw [hc4] at h2
    ((conv => whnf); (repeat ((first | refine VrN.keep ?_ | refine BoxN.own ?_ | refine RwN.own ?_); (conv => whnf))))
    refine SeqN.plain ?_
    ((conv => whnf); (repeat ((first | refine VrN.keep ?_ | refine BoxN.own ?_ | refine RwN.own ?_); (conv => whnf))))
    refine DrawN.plan [0, 2, 4, 9] [(1, 1), (3, 1), (5, 1), (6, 1), (7, 1), (8, 1), (10, 1), (11, 0)] [(12, 0), (13, 0), (14, 0)] (by decide +kernel) ?_
    refine wXS ?_
    have hit := grw_item x k 4 7 n hxb (by omega) (by decide) (by decide)
    simp only [Int.cast_ofNat_Int] at hit
    generalize (IntKind.i64.wrap (IntKind.u64.wrap (IntKind.u64.wrap (x.tdiv 4) + IntKind.u64.wrap (IntKind.u64.wrap (k : Int) * 7)))).tmod (n : Int) = it at *
    refine Nd.mk ⟨Nat.le_refl 1, rfl, rfl⟩ ?_
    (conv => whnf)
    refine AppN.grow 4 (iC its) [.int .i64 it] rfl rfl ⟨Nat.le_refl 1, ⟨by show (its.length + 1) * 8 ≤ _; omega, by show its.length + 1 < _; omega⟩, Nat.one_ne_zero⟩ fun wb wc hwc _ => ?_
    have hcl : iC its ++ [.int .i64 it] = iC (its ++ [it]) := by simp [iC]
    have hll : its.length + 1 = (its ++ [it]).length := by simp
    rw [hcl, hll]
    rw [hll] at hwc
    refine wXS ?_
    refine ⟨(k + 1, its ++ [it], ⟨some wb, wc⟩), ⟨by omega, by rw [← hll, hil], ?_, (fun h => by cases h), hwc, fun h => by have : wc = 0 := h; omega⟩, by show 4 - (k + 1) < 4 - k; omega, ?_, wkE_refl _, wkE_refl _, wkE_refl _, wkE_refl _, wkE_refl _, trivial⟩
    ·intro y hy
     rcases List.mem_append.1 hy with hy | hy
     ·exact hip y hy
     ·rw [List.mem_singleton.1 hy]; exact hit
    exact wKK
   ·clear hc4
    have hna : at0 ob0 = none → its = [] := fun h => by
     cases ob0 with
     | none => exact List.eq_nil_of_length_eq_zero (ho.1 rfl).1
     | some b => cases h
    have hoc2' : its.length ≤ ocap := ho.2.1
    refine wXS ?_
    refine ⟨.inr (.inl (its, ⟨ob0, ocap⟩)), ⟨⟨fun _ => rfl, hna, Nat.zero_le _, by show its.length ≤ _; omega, (fun s h => (by cases h)), Nat.zero_le _, Nat.le_refl _, hoc2'⟩, hip, by show its.length ≤ 4; omega, Nat.zero_le _, Nat.zero_le _⟩, ?_, wkE_refl _, wkE_refl _, wkE_refl _, wkE_refl _, wkE_refl _, trivial⟩
    exact wKK
  ·refine wXS ?_
   refine ⟨.inl (7, 0, []), grw_plain n _ _ _ (by decide), ?_, wkE_refl _, wkE_refl _, wkE_refl _, wkE_refl _, trivial⟩
   exact wKK
  ·refine wXS ?_
   have hq2 : IntKind.u64.wrap (x.tdiv 2) = x / 2 := by rw [Int.tdiv_eq_ediv_of_nonneg (by omega)]; exact wrap_u64 (by omega)
   have hc3 : IntKind.i64.wrap ((IntKind.u64.wrap (x.tdiv 2)).tmod 3) = x / 2 % 3 := by rw [hq2, Int.tmod_eq_emod_of_nonneg (by omega)]; exact wrap_i64 (by omega)
   rw [show x.tmod 2 = x % 2 by rw [Int.tmod_eq_emod_of_nonneg (by omega)]]
   have hj : x % 2 = 0 ∨ x % 2 = 1 := by omega
   rcases hj with e | e <;> rw [e]
   ·refine wXS ?_
    refine LoopN.intro (Nat × List (List UInt8) × BSt × List Int × BSt) (fun ⟨k, nms, o2, its, o⟩ => k ≤ 2 ∧ nms.length = k ∧ its.length = k ∧ (∀ y ∈ its, 0 ≤ y) ∧ (∀ s ∈ nms, s.length ≤ 2) ∧ o2.ok nms.length ∧ o.ok its.length)
     (fun ⟨k, nms, o2, its, o⟩ => mkS Tryz.f12.ntmps 0 [(0, .c (.v (.slice a L.length ca))), (3, .c (.v (.int .i64 (n : Int)))), (4, .c (.v (.slice (at0 ob) m.length oc))), (5, .c (.v (.int .i64 (i : Int)))), (6, .c (.v (.int .u64 x))), (7, .c (.lp 3 0)), (9, .c (.v (.int .i64 (k : Int))))])
     (fun ⟨k, nms, o2, its, o⟩ => [.fact (fun w => SlAt a (L.length * 1) (iC L) w), .app 57 5 (grC m) (at0 ob) m.length oc, .fact (fun w => ∀ p ∈ m, CellF p w), .blk 57 (vs (cellC ⟨⟨8, 0, [67], nms, its⟩, at0 o2.ob, o2.cap, at0 o.ob, o.cap⟩)), .dead, .app 9 1 (strC nms) (at0 o2.ob) nms.length o2.cap, .app 3 1 (iC its) (at0 o.ob) its.length o.cap]) (fun ⟨k, _, _, _, _⟩ => 3 - k) [.app 9 1 [] none 0 0, .app 3 1 [] none 0 0] rfl (fun ⟨_, _, _, _, _⟩ => rfl) (fun ⟨_, _, _, _, _⟩ => rfl) (fun ⟨_, _, _, _, _⟩ _ => okHB_eq rfl) ?_ ?_
    ·refine ⟨(0, [], ⟨none, 0⟩, [], ⟨none, 0⟩), ⟨Nat.zero_le _, rfl, rfl, (fun y h => by cases h), (fun y h => by cases h), ⟨fun _ => ⟨rfl, rfl⟩, Nat.le_refl _, fun _ => rfl⟩, fun _ => ⟨rfl, rfl⟩, Nat.le_refl _, fun _ => rfl⟩, ?_, wkE_refl _, wkE_refl _, wkE_refl _, wkE_refl _, trivial, wkE_refl _, wkE_refl _, trivial⟩
     exact wKK
    rintro ⟨k, nms, ⟨nb0, ncap⟩, its, ⟨ob0, ocap⟩⟩ ⟨hk, hnl, hil, hip, hnw, ho2, ho⟩
    refine wXS ?_
    refine brd_dec (fun h2 => ?_) (fun h2 => ?_)
    ·rw [hc3] at h2
     have hk01 : k = 0 ∨ k = 1 := by omega
     rcases hk01 with rfl | rfl
     ·-- a name and an item are put behind; [64, 97]: the name, 0: the round
      ((conv => whnf); (repeat ((first | refine VrN.keep ?_ | refine BoxN.own ?_ | refine RwN.own ?_); (conv => whnf))))
      refine SeqN.plain ?_
      ((conv => whnf); (repeat ((first | refine VrN.keep ?_ | refine BoxN.own ?_ | refine RwN.own ?_); (conv => whnf))))
      refine SeqN.plain ?_
      ((conv => whnf); (repeat ((first | refine VrN.keep ?_ | refine BoxN.own ?_ | refine RwN.own ?_); (conv => whnf))))
      refine DrawN.plan [0, 3] [(1, 1), (2, 0), (4, 1), (5, 1), (6, 0)] [(7, 0), (8, 0), (9, 0)] (by decide +kernel) ?_
      refine wXS ?_
      refine AppN.grow 5 (strC nms) [.string (bs [64, 97])] rfl rfl ⟨Nat.le_refl 1, ⟨by show (nms.length + 1) * 16 ≤ _; omega, by show nms.length + 1 < _; omega⟩, Nat.one_ne_zero⟩ fun xb xc hxc _ => ?_
      have hcn : strC nms ++ [.string (bs [64, 97])] = strC (nms ++ [[64, 97]]) := by simp [strC]
      have hln : nms.length + 1 = (nms ++ [([64, 97] : List UInt8)]).length := by simp
      rw [hcn, hln]
      rw [hln] at hxc
      refine wXS ?_
      refine DrawN.plan [0, 2, 4, 9] [(1, 1), (3, 1), (5, 1), (6, 1), (7, 1), (8, 1), (10, 1), (11, 0)] [(12, 0), (13, 0), (14, 0)] (by decide +kernel) ?_
      refine wXS ?_
      have hit := grw_item x 0 6 5 n hxb (by omega) (by decide) (by decide)
      simp only [Int.cast_ofNat_Int] at hit
      generalize hgi : (IntKind.i64.wrap (IntKind.u64.wrap (IntKind.u64.wrap (x.tdiv 6) + IntKind.u64.wrap (IntKind.u64.wrap (((0 : Nat) : Int)) * 5)))).tmod (n : Int) = it at *
      refine Nd.mk ⟨Nat.le_refl 1, rfl, rfl⟩ ?_
      (conv => whnf)
      refine AppN.grow 6 (iC its) [.int .i64 it] rfl rfl ⟨Nat.le_refl 1, ⟨by show (its.length + 1) * 8 ≤ _; omega, by show its.length + 1 < _; omega⟩, Nat.one_ne_zero⟩ fun wb wc hwc _ => ?_
      have hcl : iC its ++ [.int .i64 it] = iC (its ++ [it]) := by simp [iC]
      have hll : its.length + 1 = (its ++ [it]).length := by simp
      rw [hcl, hll]
      rw [hll] at hwc
      refine wXS ?_
      refine ⟨(0 + 1, nms ++ [([64, 97] : List UInt8)], ⟨some xb, xc⟩, its ++ [it], ⟨some wb, wc⟩), ⟨by omega, by rw [← hln, hnl], by rw [← hll, hil], ?_, ?_, ⟨(fun h => by cases h), hxc, fun h => by have : xc = 0 := h; omega⟩, (fun h => by cases h), hwc, fun h => by have : wc = 0 := h; omega⟩, by show 3 - (0 + 1) < 3 - 0; omega, ?_, wkE_refl _, wkE_refl _, wkE_refl _, wkE_refl _, trivial, wkE_refl _, wkE_refl _, trivial⟩
      ·intro y hy
       rcases List.mem_append.1 hy with hy | hy
       ·exact hip y hy
       ·rw [List.mem_singleton.1 hy]; exact hit
      ·intro y hy
       rcases List.mem_append.1 hy with hy | hy
       ·exact hnw y hy
       ·rw [List.mem_singleton.1 hy]; decide
      exact wKK
     ·-- a name and an item are put behind; [64, 98]: the name, 1: the round
      ((conv => whnf); (repeat ((first | refine VrN.keep ?_ | refine BoxN.own ?_ | refine RwN.own ?_); (conv => whnf))))
      refine SeqN.plain ?_
      ((conv => whnf); (repeat ((first | refine VrN.keep ?_ | refine BoxN.own ?_ | refine RwN.own ?_); (conv => whnf))))
      refine SeqN.plain ?_
      ((conv => whnf); (repeat ((first | refine VrN.keep ?_ | refine BoxN.own ?_ | refine RwN.own ?_); (conv => whnf))))
      refine DrawN.plan [0, 3] [(1, 1), (2, 0), (4, 1), (5, 1), (6, 0)] [(7, 0), (8, 0), (9, 0)] (by decide +kernel) ?_
      refine wXS ?_
      refine AppN.grow 5 (strC nms) [.string (bs [64, 98])] rfl rfl ⟨Nat.le_refl 1, ⟨by show (nms.length + 1) * 16 ≤ _; omega, by show nms.length + 1 < _; omega⟩, Nat.one_ne_zero⟩ fun xb xc hxc _ => ?_
      have hcn : strC nms ++ [.string (bs [64, 98])] = strC (nms ++ [[64, 98]]) := by simp [strC]
      have hln : nms.length + 1 = (nms ++ [([64, 98] : List UInt8)]).length := by simp
      rw [hcn, hln]
      rw [hln] at hxc
      refine wXS ?_
      refine DrawN.plan [0, 2, 4, 9] [(1, 1), (3, 1), (5, 1), (6, 1), (7, 1), (8, 1), (10, 1), (11, 0)] [(12, 0), (13, 0), (14, 0)] (by decide +kernel) ?_
      refine wXS ?_
      have hit := grw_item x 1 6 5 n hxb (by omega) (by decide) (by decide)
      simp only [Int.cast_ofNat_Int] at hit
      generalize hgi : (IntKind.i64.wrap (IntKind.u64.wrap (IntKind.u64.wrap (x.tdiv 6) + IntKind.u64.wrap (IntKind.u64.wrap (((1 : Nat) : Int)) * 5)))).tmod (n : Int) = it at *
      refine Nd.mk ⟨Nat.le_refl 1, rfl, rfl⟩ ?_
      (conv => whnf)
      refine AppN.grow 6 (iC its) [.int .i64 it] rfl rfl ⟨Nat.le_refl 1, ⟨by show (its.length + 1) * 8 ≤ _; omega, by show its.length + 1 < _; omega⟩, Nat.one_ne_zero⟩ fun wb wc hwc _ => ?_
      have hcl : iC its ++ [.int .i64 it] = iC (its ++ [it]) := by simp [iC]
      have hll : its.length + 1 = (its ++ [it]).length := by simp
      rw [hcl, hll]
      rw [hll] at hwc
      refine wXS ?_
      refine ⟨(1 + 1, nms ++ [([64, 98] : List UInt8)], ⟨some xb, xc⟩, its ++ [it], ⟨some wb, wc⟩), ⟨by omega, by rw [← hln, hnl], by rw [← hll, hil], ?_, ?_, ⟨(fun h => by cases h), hxc, fun h => by have : xc = 0 := h; omega⟩, (fun h => by cases h), hwc, fun h => by have : wc = 0 := h; omega⟩, by show 3 - (1 + 1) < 3 - 1; omega, ?_, wkE_refl _, wkE_refl _, wkE_refl _, wkE_refl _, trivial, wkE_refl _, wkE_refl _, trivial⟩
      ·intro y hy
       rcases List.mem_append.1 hy with hy | hy
       ·exact hip y hy
       ·rw [List.mem_singleton.1 hy]; exact hit
      ·intro y hy
       rcases List.mem_append.1 hy with hy | hy
       ·exact hnw y hy
       ·rw [List.mem_singleton.1 hy]; decide
      exact wKK
    ·clear hc3
     have hna : at0 ob0 = none → its = [] := fun h => by
      cases ob0 with
      | none => exact List.eq_nil_of_length_eq_zero (ho.1 rfl).1
      | some b => cases h
     have hnn : at0 nb0 = none → nms = [] := fun h => by
      cases nb0 with
      | none => exact List.eq_nil_of_length_eq_zero (ho2.1 rfl).1
      | some b => cases h
     have hoc2' : its.length ≤ ocap := ho.2.1
     have hnc2' : nms.length ≤ ncap := ho2.2.1
     refine wXS ?_
     refine ⟨.inr (.inr ([67], nms, ⟨nb0, ncap⟩, its, ⟨ob0, ocap⟩)), ⟨⟨hnn, hna, by show nms.length ≤ _; omega, by show its.length ≤ _; omega, (fun s h => Nat.le_trans (hnw s h) (by decide)), Nat.le_of_ble_eq_true rfl, hnc2', hoc2'⟩, hip, by show its.length ≤ 4; omega, by show nms.length ≤ 2; omega, Nat.le_of_ble_eq_true rfl⟩, ?_, wkE_refl _, wkE_refl _, wkE_refl _, wkE_refl _, trivial, wkE_refl _, wkE_refl _, trivial⟩
     exact wKK
   ·refine wXS ?_
    refine LoopN.intro (Nat × List (List UInt8) × BSt × List Int × BSt) (fun ⟨k, nms, o2, its, o⟩ => k ≤ 2 ∧ nms.length = k ∧ its.length = k ∧ (∀ y ∈ its, 0 ≤ y) ∧ (∀ s ∈ nms, s.length ≤ 2) ∧ o2.ok nms.length ∧ o.ok its.length)
     (fun ⟨k, nms, o2, its, o⟩ => mkS Tryz.f12.ntmps 0 [(0, .c (.v (.slice a L.length ca))), (3, .c (.v (.int .i64 (n : Int)))), (4, .c (.v (.slice (at0 ob) m.length oc))), (5, .c (.v (.int .i64 (i : Int)))), (6, .c (.v (.int .u64 x))), (7, .c (.lp 3 0)), (9, .c (.v (.int .i64 (k : Int))))])
     (fun ⟨k, nms, o2, its, o⟩ => [.fact (fun w => SlAt a (L.length * 1) (iC L) w), .app 57 5 (grC m) (at0 ob) m.length oc, .fact (fun w => ∀ p ∈ m, CellF p w), .blk 57 (vs (cellC ⟨⟨8, 0, [68], nms, its⟩, at0 o2.ob, o2.cap, at0 o.ob, o.cap⟩)), .dead, .app 9 1 (strC nms) (at0 o2.ob) nms.length o2.cap, .app 3 1 (iC its) (at0 o.ob) its.length o.cap]) (fun ⟨k, _, _, _, _⟩ => 3 - k) [.app 9 1 [] none 0 0, .app 3 1 [] none 0 0] rfl (fun ⟨_, _, _, _, _⟩ => rfl) (fun ⟨_, _, _, _, _⟩ => rfl) (fun ⟨_, _, _, _, _⟩ _ => okHB_eq rfl) ?_ ?_
    ·refine ⟨(0, [], ⟨none, 0⟩, [], ⟨none, 0⟩), ⟨Nat.zero_le _, rfl, rfl, (fun y h => by cases h), (fun y h => by cases h), ⟨fun _ => ⟨rfl, rfl⟩, Nat.le_refl _, fun _ => rfl⟩, fun _ => ⟨rfl, rfl⟩, Nat.le_refl _, fun _ => rfl⟩, ?_, wkE_refl _, wkE_refl _, wkE_refl _, wkE_refl _, trivial, wkE_refl _, wkE_refl _, trivial⟩
     exact wKK
    rintro ⟨k, nms, ⟨nb0, ncap⟩, its, ⟨ob0, ocap⟩⟩ ⟨hk, hnl, hil, hip, hnw, ho2, ho⟩
    refine wXS ?_
    refine brd_dec (fun h2 => ?_) (fun h2 => ?_)
    ·rw [hc3] at h2
     have hk01 : k = 0 ∨ k = 1 := by omega
     rcases hk01 with rfl | rfl
     ·-- a name and an item are put behind; [64, 97]: the name, 0: the round
      ((conv => whnf); (repeat ((first | refine VrN.keep ?_ | refine BoxN.own ?_ | refine RwN.own ?_); (conv => whnf))))
      refine SeqN.plain ?_
      ((conv => whnf); (repeat ((first | refine VrN.keep ?_ | refine BoxN.own ?_ | refine RwN.own ?_); (conv => whnf))))
      refine SeqN.plain ?_
      ((conv => whnf); (repeat ((first | refine VrN.keep ?_ | refine BoxN.own ?_ | refine RwN.own ?_); (conv => whnf))))
      refine DrawN.plan [0, 3] [(1, 1), (2, 0), (4, 1), (5, 1), (6, 0)] [(7, 0), (8, 0), (9, 0)] (by decide +kernel) ?_
      refine wXS ?_
      refine AppN.grow 5 (strC nms) [.string (bs [64, 97])] rfl rfl ⟨Nat.le_refl 1, ⟨by show (nms.length + 1) * 16 ≤ _; omega, by show nms.length + 1 < _; omega⟩, Nat.one_ne_zero⟩ fun xb xc hxc _ => ?_
      have hcn : strC nms ++ [.string (bs [64, 97])] = strC (nms ++ [[64, 97]]) := by simp [strC]
      have hln : nms.length + 1 = (nms ++ [([64, 97] : List UInt8)]).length := by simp
      rw [hcn, hln]
      rw [hln] at hxc
      refine wXS ?_
      refine DrawN.plan [0, 2, 4, 9] [(1, 1), (3, 1), (5, 1), (6, 1), (7, 1), (8, 1), (10, 1), (11, 0)] [(12, 0), (13, 0), (14, 0)] (by decide +kernel) ?_
      refine wXS ?_
      have hit := grw_item x 0 6 5 n hxb (by omega) (by decide) (by decide)
      simp only [Int.cast_ofNat_Int] at hit
      generalize hgi : (IntKind.i64.wrap (IntKind.u64.wrap (IntKind.u64.wrap (x.tdiv 6) + IntKind.u64.wrap (IntKind.u64.wrap (((0 : Nat) : Int)) * 5)))).tmod (n : Int) = it at *
      refine Nd.mk ⟨Nat.le_refl 1, rfl, rfl⟩ ?_
      (conv => whnf)
      refine AppN.grow 6 (iC its) [.int .i64 it] rfl rfl ⟨Nat.le_refl 1, ⟨by show (its.length + 1) * 8 ≤ _; omega, by show its.length + 1 < _; omega⟩, Nat.one_ne_zero⟩ fun wb wc hwc _ => ?_
      have hcl : iC its ++ [.int .i64 it] = iC (its ++ [it]) := by simp [iC]
      have hll : its.length + 1 = (its ++ [it]).length := by simp
      rw [hcl, hll]
      rw [hll] at hwc
      refine wXS ?_
      refine ⟨(0 + 1, nms ++ [([64, 97] : List UInt8)], ⟨some xb, xc⟩, its ++ [it], ⟨some wb, wc⟩), ⟨by omega, by rw [← hln, hnl], by rw [← hll, hil], ?_, ?_, ⟨(fun h => by cases h), hxc, fun h => by have : xc = 0 := h; omega⟩, (fun h => by cases h), hwc, fun h => by have : wc = 0 := h; omega⟩, by show 3 - (0 + 1) < 3 - 0; omega, ?_, wkE_refl _, wkE_refl _, wkE_refl _, wkE_refl _, trivial, wkE_refl _, wkE_refl _, trivial⟩
      ·intro y hy
       rcases List.mem_append.1 hy with hy | hy
       ·exact hip y hy
       ·rw [List.mem_singleton.1 hy]; exact hit
      ·intro y hy
       rcases List.mem_append.1 hy with hy | hy
       ·exact hnw y hy
       ·rw [List.mem_singleton.1 hy]; decide
      exact wKK
     ·-- a name and an item are put behind; [64, 98]: the name, 1: the round
      ((conv => whnf); (repeat ((first | refine VrN.keep ?_ | refine BoxN.own ?_ | refine RwN.own ?_); (conv => whnf))))
      refine SeqN.plain ?_
      ((conv => whnf); (repeat ((first | refine VrN.keep ?_ | refine BoxN.own ?_ | refine RwN.own ?_); (conv => whnf))))
      refine SeqN.plain ?_
      ((conv => whnf); (repeat ((first | refine VrN.keep ?_ | refine BoxN.own ?_ | refine RwN.own ?_); (conv => whnf))))
      refine DrawN.plan [0, 3] [(1, 1), (2, 0), (4, 1), (5, 1), (6, 0)] [(7, 0), (8, 0), (9, 0)] (by decide +kernel) ?_
      refine wXS ?_
      refine AppN.grow 5 (strC nms) [.string (bs [64, 98])] rfl rfl ⟨Nat.le_refl 1, ⟨by show (nms.length + 1) * 16 ≤ _; omega, by show nms.length + 1 < _; omega⟩, Nat.one_ne_zero⟩ fun xb xc hxc _ => ?_
      have hcn : strC nms ++ [.string (bs [64, 98])] = strC (nms ++ [[64, 98]]) := by simp [strC]
      have hln : nms.length + 1 = (nms ++ [([64, 98] : List UInt8)]).length := by simp
      rw [hcn, hln]
      rw [hln] at hxc
      refine wXS ?_
      refine DrawN.plan [0, 2, 4, 9] [(1, 1), (3, 1), (5, 1), (6, 1), (7, 1), (8, 1), (10, 1), (11, 0)] [(12, 0), (13, 0), (14, 0)] (by decide +kernel) ?_
      refine wXS ?_
      have hit := grw_item x 1 6 5 n hxb (by omega) (by decide) (by decide)
      simp only [Int.cast_ofNat_Int] at hit
      generalize hgi : (IntKind.i64.wrap (IntKind.u64.wrap (IntKind.u64.wrap (x.tdiv 6) + IntKind.u64.wrap (IntKind.u64.wrap (((1 : Nat) : Int)) * 5)))).tmod (n : Int) = it at *
      refine Nd.mk ⟨Nat.le_refl 1, rfl, rfl⟩ ?_
      (conv => whnf)
      refine AppN.grow 6 (iC its) [.int .i64 it] rfl rfl ⟨Nat.le_refl 1, ⟨by show (its.length + 1) * 8 ≤ _; omega, by show its.length + 1 < _; omega⟩, Nat.one_ne_zero⟩ fun wb wc hwc _ => ?_
      have hcl : iC its ++ [.int .i64 it] = iC (its ++ [it]) := by simp [iC]
      have hll : its.length + 1 = (its ++ [it]).length := by simp
      rw [hcl, hll]
      rw [hll] at hwc
      refine wXS ?_
      refine ⟨(1 + 1, nms ++ [([64, 98] : List UInt8)], ⟨some xb, xc⟩, its ++ [it], ⟨some wb, wc⟩), ⟨by omega, by rw [← hln, hnl], by rw [← hll, hil], ?_, ?_, ⟨(fun h => by cases h), hxc, fun h => by have : xc = 0 := h; omega⟩, (fun h => by cases h), hwc, fun h => by have : wc = 0 := h; omega⟩, by show 3 - (1 + 1) < 3 - 1; omega, ?_, wkE_refl _, wkE_refl _, wkE_refl _, wkE_refl _, trivial, wkE_refl _, wkE_refl _, trivial⟩
      ·intro y hy
       rcases List.mem_append.1 hy with hy | hy
       ·exact hip y hy
       ·rw [List.mem_singleton.1 hy]; exact hit
      ·intro y hy
       rcases List.mem_append.1 hy with hy | hy
       ·exact hnw y hy
       ·rw [List.mem_singleton.1 hy]; decide
      exact wKK
    ·clear hc3
     have hna : at0 ob0 = none → its = [] := fun h => by
      cases ob0 with
      | none => exact List.eq_nil_of_length_eq_zero (ho.1 rfl).1
      | some b => cases h
     have hnn : at0 nb0 = none → nms = [] := fun h => by
      cases nb0 with
      | none => exact List.eq_nil_of_length_eq_zero (ho2.1 rfl).1
      | some b => cases h
     have hoc2' : its.length ≤ ocap := ho.2.1
     have hnc2' : nms.length ≤ ncap := ho2.2.1
     refine wXS ?_
     refine ⟨.inr (.inr ([68], nms, ⟨nb0, ncap⟩, its, ⟨ob0, ocap⟩)), ⟨⟨hnn, hna, by show nms.length ≤ _; omega, by show its.length ≤ _; omega, (fun s h => Nat.le_trans (hnw s h) (by decide)), Nat.le_of_ble_eq_true rfl, hnc2', hoc2'⟩, hip, by show its.length ≤ 4; omega, by show nms.length ≤ 2; omega, Nat.le_of_ble_eq_true rfl⟩, ?_, wkE_refl _, wkE_refl _, wkE_refl _, wkE_refl _, trivial, wkE_refl _, wkE_refl _, trivial⟩
     exact wKK
 ·have hin : i = n := by omega
  subst hin
  refine wXS ?_
  refine LoopN.introS (Nat × List CellP) (fun ⟨j, m⟩ => j ≤ i ∧ m.length = i ∧ (∀ p ∈ m, GrwC i p)) (fun ⟨j, m⟩ => mkS Tryz.f12.ntmps 0 [(0, .c (.v (.slice a L.length ca))), (3, .c (.v (.int .i64 (i : Int)))), (4, .c (.v (.slice (at0 ob) i oc))), (10, .c (.v (.int .i64 (j : Int))))]) (fun ⟨j, m⟩ => [.fact (fun w => SlAt a (L.length * 1) (iC L) w), .app 57 5 (grC m) (at0 ob) i oc, .fact (fun w => ∀ p ∈ m, CellF p w)]) (fun ⟨j, _⟩ => i - j) [] rfl (fun _ => rfl) (fun _ => rfl) (fun _ _ => ⟨trivial, trivial, trivial, trivial⟩) ?_ ?_
  ·refine ⟨(0, m), ⟨Nat.zero_le _, hml, hmo⟩, ?_, _, turn_refl _, wkE_refl _, ?_, wkE_refl _, trivial⟩
   ·(repeat' (first | exact trivial | refine And.intro (by with_reducible rfl) ?_ | (with_reducible exact wkC_refl _) | (with_reducible exact wkCs_refl _) | refine And.intro ?_ ?_))
    all_goals first | rfl | rw [hml]
   ·rw [← hml]; exact wkE_refl _
  rintro ⟨j, m2⟩ ⟨hj, hm2l, hm2o⟩
  refine wXS ?_
  refine brd_dec (fun h2 => ?_) (fun h2 => ?_)
  ·obtain ⟨p, hp⟩ : ∃ p, m2[j]? = some p := ⟨_, List.getElem?_eq_getElem (by omega)⟩
   obtain ⟨gb, rfl⟩ : ∃ gb, ob = some gb := by
    cases ob with
    | none => have := hoa rfl; subst this; simp only [List.length_nil] at hml; omega
    | some gb => exact ⟨gb, rfl⟩
   obtain ⟨z, hz⟩ : ∃ z, L[j]? = some z := ⟨_, List.getElem?_eq_getElem (by omega)⟩
   have hsa : a.isSome = true := by
    cases a with
    | none => rw [ha rfl] at hz; cases hz
    | some b => rfl
   refine wXS ?_
   refine Nd.mk ⟨rfl, by omega, by omega⟩ ?_
   refine wXS ?_
   refine LdN.fld (.int .i64 p.c.kind) rfl (fun w hw => hw.2.1) (by rw [Int.toNat_natCast]; exact grC_get m2 j 0 (by decide) hp) ?_
   refine wXS ?_
   refine brd_eq (fun h7 => ?_) (fun h7 => ?_)
   rotate_left
   ·refine wXS ?_
    refine ⟨(j + 1, m2), ⟨by omega, hm2l, hm2o⟩, by show i - (j + 1) < i - j; omega, ?_, _, turn_refl _, wkE_refl _, wkE_refl _, wkE_refl _, trivial⟩
    exact wKK
   refine wXS ?_
   refine Nd.mk ⟨hsa, by omega, by omega⟩ ?_
   refine wXS ?_
   refine LdN.one (.int .i64 z) rfl (fun w hw => hw.1) (by rw [Int.toNat_natCast]; show (iC L)[j * 1]? = _; rw [Nat.mul_one]; exact iC_get hz) ?_
   refine wXR ?_
   have hXb := wrap_u64_bd z
   generalize IntKind.u64.wrap z = X at *
   have hx0 : IntKind.u64.wrap (X.tdiv 9) = X / 9 := by rw [Int.tdiv_eq_ediv_of_nonneg (by omega)]; exact wrap_u64 (by omega)
   rw [hx0]
   obtain ⟨x, hx⟩ : ∃ x, x = X / 9 := ⟨_, rfl⟩
   rw [← hx]
   have hxb : 0 ≤ x ∧ x ≤ 2049638230412172402 := by omega
   clear hx0 hXb
   refine SeqN.plain ?_
   refine wXR ?_
   refine DrawN.plan [0, 1, 2, 4, 6, 9] [(3, 1), (5, 1), (7, 1), (8, 1), (10, 1), (11, 0), (12, 1), (13, 1)] [(14, 0)] (by decide +kernel) ?_
   refine wXR ?_
   obtain ⟨v1, hv1⟩ : ∃ v, v = (IntKind.i64.wrap x).tmod (i : Int) := ⟨_, rfl⟩
   obtain ⟨v2, hv2⟩ : ∃ v, v = (IntKind.i64.wrap (IntKind.u64.wrap (x.tdiv 3))).tmod (i : Int) := ⟨_, rfl⟩
   rw [← hv1, ← hv2]
   refine RwN.known [.int .i64 v1, .int .i64 v2] rfl fun ib => ?_
   refine wXR ?_
   refine Nd.mk ⟨rfl, by omega, by omega⟩ ?_
   refine wXR ?_
   have hgl2 : (grC m2).length = i * 5 := by rw [grC_len, hm2l]
   refine EffW.appTo (i := 1) (q := j * 5 + 4) (ys := [.slice (some ⟨ib, 0, none⟩) 2 2]) (grC (m2.set j (setI p [v1, v2] (some ⟨ib, 0, none⟩) 2))) 5 rfl (by rw [Int.toNat_natCast]; show AV.c (CV.v (Value.pointer (some (((⟨gb, 0, none⟩ : Addr).add (j * 5)).add 4)))) = _; rw [add_lit0, add_lit]) rfl rfl rfl rfl rfl (by show _ + 1 ≤ _ * 5; omega) (by rw [put_set _ (by omega)]; exact grC_set [v1, v2] _ 2 hp) rfl ?_
   have hpm := List.mem_of_getElem? hp
   have hq1 : 0 ≤ v1 := by rw [hv1, wrap_i64 (by omega)]; exact Int.tmod_nonneg _ (by omega)
   have hq2 : 0 ≤ v2 := by
    have : 0 ≤ x.tdiv 3 ∧ x.tdiv 3 ≤ x := by rw [Int.tdiv_eq_ediv_of_nonneg hxb.1]; omega
    rw [hv2, wrap_u64 (by omega), wrap_i64 (by omega)]
    exact Int.tmod_nonneg _ (by omega)
   clear hv1 hv2
   have hi12 : i ≤ 12 := by omega
   refine wX ?_
   refine SeqN.join (List Int × Nat × Nat) (fun ⟨its, b, c⟩ => (∀ y ∈ its, 0 ≤ y) ∧ 2 ≤ its.length ∧ its.length ≤ 4 ∧ its.take 2 = [v1, v2] ∧ its.length ≤ c) (fun _ => mkS Tryz.f12.ntmps 0 [(0, .c (.v (.slice a L.length ca))), (3, .c (.v (.int .i64 (i : Int)))), (4, .c (.v (.slice (at0 (some gb)) i oc))), (10, .c (.v (.int .i64 (j : Int))))])
    (fun ⟨its, b, c⟩ => [.fact (fun w => SlAt a (L.length * 1) (iC L) w), .app 57 5 (grC (m2.set j (setI p its (some ⟨b, 0, none⟩) c))) (some ⟨gb, 0, none⟩) i oc, .fact (fun w => ∀ p ∈ m2, CellF p w), .app 3 1 (iC its) (some ⟨b, 0, none⟩) its.length c])
    (fun _ _ => Nat.le_of_ble_eq_true rfl) (fun _ _ => rfl) (fun _ _ => okHB_eq rfl) ?_ ?_
   rotate_left
   ·rintro ⟨its, b, c⟩ ⟨hi0, hi2, hi4, htk, hic⟩
    have htk2 : (iC its).take 2 = iC [v1, v2] := by unfold iC; rw [← List.map_take, htk]
    refine wXS ?_
    have hG : ∀ q ∈ m2.set j (setI p its (some ⟨b, 0, none⟩) c), GrwC i q := grw_set hm2o hpm b c hi0 hi4 hic
    have hlen : (m2.set j (setI p its (some ⟨b, 0, none⟩) c)).length = i := by rw [List.length_set, hm2l]
    have has := as_o (at0 (some gb)) oc (m2.set j (setI p its (some ⟨b, 0, none⟩) c)) (fun h => by cases h) (grw_small hG (by omega)) (fun q hq => (hG q hq).ok)
    rw [hlen] at has
    refine factG (fun _ => rfl) has ?_ fun st hst => ?_
    ·exact fun w hw => ⟨by rw [hlen]; exact hw.2.1, set_rows hpm hw.2.2.1 hw.2.2.2.1⟩
    obtain ⟨t, ht1, ht2⟩ := Valid_b st.oa st.oc st.m hst.oa (by have := congrArg List.length hst.c; simp only [List.length_map] at this; omega) hst.ok
    refine wXS ?_
    refine call1 (ht2 _ (fun w hw => hst.gr hw.2.2.2.2.1 hw.2.2.2.2.2.1)) ?_
    cases t with
    | true =>
     refine wXS ?_
     refine ⟨(j + 1, m2.set j (setI p its (some ⟨b, 0, none⟩) c)), ⟨by omega, hlen, hG⟩, by show i - (j + 1) < i - j; omega, ?_, [.fact (fun w => SlAt a (L.length * 1) (iC L) w), .app 57 5 (grC (m2.set j (setI p its (some ⟨b, 0, none⟩) c))) (some ⟨gb, 0, none⟩) i oc, .fact (fun w => ∀ q ∈ m2.set j (setI p its (some ⟨b, 0, none⟩) c), CellF q w), .dead, .dead, .dead], turnS ⟨.inr (.inl rfl), .inr (.inl rfl), .inr (.inr ⟨_, rfl, fun w hw => set_rows hpm hw.2.1 hw.2.2.1⟩), by repeat (first | exact trivial | refine ⟨.inl rfl, ?_⟩)⟩, wkE_refl _, wkE_refl _, wkE_refl _, trivial⟩
     exact wKK
    | false =>
     have hp2 : (m2.set j (setI p its (some ⟨b, 0, none⟩) c))[j]? = some (setI p its (some ⟨b, 0, none⟩) c) := by rw [List.getElem?_set_self (by omega)]
     have hG2 : ∀ q ∈ m2.set j (setI p [v1, v2] (some ⟨b, 0, none⟩) c), GrwC i q := grw_set hm2o hpm b c (by simp [hq1, hq2]) (Nat.le_of_ble_eq_true rfl) (by show 2 ≤ _; omega)
     have hlen2 : (m2.set j (setI p [v1, v2] (some ⟨b, 0, none⟩) c)).length = i := by rw [List.length_set, hm2l]
     have hgl3 : (grC (m2.set j (setI p its (some ⟨b, 0, none⟩) c))).length = i * 5 := by rw [grC_len, hlen]
     refine wXS ?_
     refine Nd.mk ⟨rfl, by omega, by omega⟩ ?_
     refine wXS ?_
     refine LdN.fld (.slice (some ⟨b, 0, none⟩) (List.length its) c) rfl (fun w hw => hw.2.1) (by rw [Int.toNat_natCast]; exact grC_get _ j 4 (by decide) hp2) ?_
     refine wXS ?_
     refine ReadW.slc_h (ob := some b) rfl (by kernel_rfl) rfl rfl ⟨by decide, by first | decide | omega⟩ ?_
     refine wXS ?_
     refine Nd.mk ⟨rfl, by omega, by omega⟩ ?_
     refine wXS ?_
     refine EffW.appTo (i := 1) (q := j * 5 + 4) (ys := [.slice (some ⟨b, 0, none⟩) 2 c]) (grC (m2.set j (setI p [v1, v2] (some ⟨b, 0, none⟩) c))) 5 rfl (by rw [Int.toNat_natCast]; show AV.c (CV.v (Value.pointer (some (((⟨gb, 0, none⟩ : Addr).add (j * 5)).add 4)))) = _; rw [add_lit0, add_lit]) rfl rfl rfl rfl rfl (by show _ + 1 ≤ _ * 5; omega) (by rw [put_set _ (by omega)]; have := grC_set [v1, v2] (some ⟨b, 0, none⟩) c hp2; rw [List.set_set] at this; exact this) rfl ?_
     refine wXS ?_
     refine ⟨(j + 1, m2.set j (setI p [v1, v2] (some ⟨b, 0, none⟩) c)), ⟨by omega, hlen2, hG2⟩, by show i - (j + 1) < i - j; omega, ?_, [.fact (fun w => SlAt a (L.length * 1) (iC L) w), .app 57 5 (grC (m2.set j (setI p [v1, v2] (some ⟨b, 0, none⟩) c))) (some ⟨gb, 0, none⟩) i oc, .fact (fun w => ∀ q ∈ m2.set j (setI p [v1, v2] (some ⟨b, 0, none⟩) c), CellF q w), .dead, .dead, .dead], turnS ⟨.inr (.inl rfl), .inr (.inl rfl), .inr (.inr ⟨_, rfl, fun w hw => set_rows hpm hw.2.1 (by have h := SlAt.take (j := 2) hw.2.2.1 (show 2 ≤ its.length * 1 by omega); rw [htk2] at h; exact h)⟩), by repeat (first | exact trivial | refine ⟨.inl rfl, ?_⟩)⟩, wkE_refl _, wkE_refl _, wkE_refl _, trivial⟩
     exact wKK
   refine wXS ?_
   refine brd_dec (fun h3 => ?_) (fun h3 => ?_)
   rotate_left
   ·refine wXS ?_
    refine ⟨([v1, v2], ib, 2), ⟨by simp [hq1, hq2], Nat.le_refl 2, Nat.le_of_ble_eq_true rfl, rfl, Nat.le_refl 2⟩, ?_, wkE_refl _, wkE_refl _, wkE_refl _, wkE_refl _, trivial⟩
    exact wKK
   refine wXS ?_
   refine brd_eq (fun h4 => ?_) (fun h4 => ?_)
   rotate_left
   ·refine wXS ?_
    refine ⟨([v1, v2], ib, 2), ⟨by simp [hq1, hq2], Nat.le_refl 2, Nat.le_of_ble_eq_true rfl, rfl, Nat.le_refl 2⟩, ?_, wkE_refl _, wkE_refl _, wkE_refl _, wkE_refl _, trivial⟩
    exact wKK
   have hp1 : (m2.set j (setI p [v1, v2] (some ⟨ib, 0, none⟩) 2))[j]? = some (setI p [v1, v2] (some ⟨ib, 0, none⟩) 2) := by rw [List.getElem?_set_self (by omega)]
   have hgl4 : (grC (m2.set j (setI p [v1, v2] (some ⟨ib, 0, none⟩) 2))).length = i * 5 := by rw [grC_len, List.length_set, hm2l]
   refine wXS ?_
   refine DrawN.plan [0, 1, 2, 3, 7, 10, 12, 15] [(4, 1), (5, 1), (6, 1), (8, 1), (9, 1), (11, 1), (13, 1), (14, 1), (16, 1), (17, 0)] [(18, 0), (19, 0), (20, 0), (21, 0)] (by decide +kernel) ?_
   refine wXS ?_
   refine Nd.mk ⟨rfl, by omega, by omega⟩ ?_
   refine wXS ?_
   refine LdN.fld (.slice (some ⟨ib, 0, none⟩) 2 2) rfl (fun w hw => hw.2.1) (by rw [Int.toNat_natCast]; exact grC_get _ j 4 (by decide) hp1) ?_
   refine wXS ?_
   obtain ⟨w1, hw1⟩ : ∃ v, v = (IntKind.i64.wrap (IntKind.u64.wrap (x.tdiv 5))).tmod (i : Int) := ⟨_, rfl⟩
   obtain ⟨w2, hw2⟩ : ∃ v, v = (IntKind.i64.wrap (IntKind.u64.wrap (x.tdiv 7))).tmod (i : Int) := ⟨_, rfl⟩
   rw [← hw1, ← hw2]
   have hq3 : 0 ≤ w1 := by
    have : 0 ≤ x.tdiv 5 ∧ x.tdiv 5 ≤ x := by rw [Int.tdiv_eq_ediv_of_nonneg hxb.1]; omega
    rw [hw1, wrap_u64 (by omega), wrap_i64 (by omega)]
    exact Int.tmod_nonneg _ (by omega)
   have hq4 : 0 ≤ w2 := by
    have : 0 ≤ x.tdiv 7 ∧ x.tdiv 7 ≤ x := by rw [Int.tdiv_eq_ediv_of_nonneg hxb.1]; omega
    rw [hw2, wrap_u64 (by omega), wrap_i64 (by omega)]
    exact Int.tmod_nonneg _ (by omega)
   clear hw1 hw2
   refine Nd.mk ⟨Nat.le_of_ble_eq_true rfl, rfl, rfl⟩ ?_
   (conv => whnf)
   refine AppN.grow 3 [.int .i64 v1, .int .i64 v2] [.int .i64 w1, .int .i64 w2] rfl rfl ⟨Nat.le_of_ble_eq_true rfl, ⟨by decide, by decide⟩, Nat.one_ne_zero⟩ fun wb wc hwc _ => ?_
   refine wXS ?_
   refine Nd.mk ⟨rfl, by omega, by omega⟩ ?_
   refine wXS ?_
   refine EffW.appTo (i := 1) (q := j * 5 + 4) (ys := [.slice (some ⟨wb, 0, none⟩) 4 wc]) (grC (m2.set j (setI p [v1, v2, w1, w2] (some ⟨wb, 0, none⟩) wc))) 5 rfl (by rw [Int.toNat_natCast]; show AV.c (CV.v (Value.pointer (some (((⟨gb, 0, none⟩ : Addr).add (j * 5)).add 4)))) = _; rw [add_lit0, add_lit]) rfl rfl rfl rfl rfl (by show _ + 1 ≤ _ * 5; omega) (by rw [put_set _ (by omega)]; have := grC_set [v1, v2, w1, w2] (some ⟨wb, 0, none⟩) wc hp1; rw [List.set_set] at this; exact this) rfl ?_
   refine wXS ?_
   refine ⟨([v1, v2, w1, w2], wb, wc), ⟨by simp [hq1, hq2, hq3, hq4], Nat.le_of_ble_eq_true rfl, Nat.le_refl 4, rfl, hwc⟩, ?_, wkE_refl _, wkE_refl _, wkE_refl _, wkE_refl _, trivial⟩
   exact wKK
  ·have hjn : j = i := by omega
   subst hjn
   have hob : at0 ob = none → m2 = [] := fun h => by
    cases ob with
    | none =>
     have := hoa rfl
     subst this
     simp only [List.length_nil] at hml
     exact List.eq_nil_of_length_eq_zero (by omega)
    | some b => cases h
   have hs2 := grw_small hm2o (by omega)
   refine wXS ?_
   refine loopS Nat (fun k => k ≤ j) (fun k => mkS Tryz.f12.ntmps 0 [(3, .c (.v (.int .i64 (j : Int)))), (4, .c (.v (.slice (at0 ob) j oc))), (12, .c (.v (.int .i64 (k : Int))))]) (fun k => j - k) rfl (fun _ => rfl) 0 (Nat.zero_le _) ?_ ?_
   ·exact wKK
   intro k hk
   refine wXS ?_
   refine brd_dec (fun h3 => ?_) (fun h3 => ?_)
   ·obtain ⟨p, hp⟩ : ∃ p, m2[k]? = some p := ⟨_, List.getElem?_eq_getElem (by omega)⟩
    have hpm := List.mem_of_getElem? hp
    have hpo := hm2o p hpm
    have hpl := hpo.il
    have hsg : (at0 ob).isSome = true := by
     cases hq : at0 ob with
     | none => rw [hob hq] at hp; cases hp
     | some b => rfl
    refine wXS ?_
    refine loopS Nat (fun e => e ≤ p.c.items.length) (fun e => mkS Tryz.f12.ntmps 0 [(3, .c (.v (.int .i64 (j : Int)))), (4, .c (.v (.slice (at0 ob) j oc))), (12, .c (.v (.int .i64 (k : Int)))), (13, .c (.v (.int .i64 (e : Int))))]) (fun e => p.c.items.length - e) rfl (fun _ => rfl) 0 (Nat.zero_le _) ?_ ?_
    ·exact wKK
    intro e he
    refine wXS ?_
    refine Nd.mk ⟨hsg, by omega, by omega⟩ ?_
    refine wXS ?_
    refine LdN.fld (.slice p.ia p.c.items.length p.ic) rfl (fun w hw => hw.2.1) (by rw [Int.toNat_natCast]; exact grC_get m2 k 4 (by decide) hp) ?_
    refine wXS ?_
    refine brd_dec (fun h4 => ?_) (fun h4 => ?_)
    ·obtain ⟨y, hy⟩ : ∃ z, p.c.items[e]? = some z := ⟨_, List.getElem?_eq_getElem (by omega)⟩
     have hya : p.ia.isSome = true := by
      cases hq : p.ia with
      | none => rw [hpo.ok.ia hq] at hy; cases hy
      | some b => rfl
     refine wXS ?_
     refine Nd.mk ⟨hsg, by omega, by omega⟩ ?_
     refine wXS ?_
     refine LdN.fld (.slice p.ia p.c.items.length p.ic) rfl (fun w hw => hw.2.1) (by rw [Int.toNat_natCast]; exact grC_get m2 k 4 (by decide) hp) ?_
     refine wXS ?_
     refine Nd.mk ⟨hya, by omega, by omega⟩ ?_
     refine wXS ?_
     refine LdN.one (.int .i64 y) rfl (fun w hw => (hw.2.2.1 p hpm).2) (by rw [Int.toNat_natCast]; show (iC p.c.items)[e * 1]? = _; rw [Nat.mul_one]; exact iC_get hy) ?_
     refine wXS ?_
     refine brd_dec (fun h5 => absurd h5 (by have := hpo.it y (List.mem_of_getElem? hy); omega)) (fun h5 => ?_)
     refine wXS ?_
     refine ⟨e + 1, by omega, by omega, ?_, wHH⟩
     exact wKK
    ·refine wXS ?_
     refine ⟨k + 1, by omega, by omega, ?_, wHH⟩
     exact wKK
   ·refine wXS ?_
    have has := as_o (at0 ob) oc m2 hob hs2 (fun q hq => (hm2o q hq).ok)
    rw [hm2l] at has
    refine factG (fun _ => rfl) has ?_ fun st hst => ?_
    ·exact fun w hw => ⟨by rw [hm2l]; exact hw.2.1, hw.2.2.1⟩
    obtain ⟨t, ht1, ht2⟩ := Valid_b st.oa st.oc st.m hst.oa (by have := congrArg List.length hst.c; simp only [List.length_map] at this; omega) hst.ok
    refine wXS ?_
    refine call1 (ht2 _ (fun w hw => hst.gr hw.2.2.2.1 hw.2.2.2.2.1)) ?_
    cases t with
    | false =>
     refine wXS ?_
     exact fin_p (fun _ => True) ⟨none, 0, [], rfl, fun _ => rfl, (fun p h => by cases h), ⟨Nat.zero_le _, fun p h => by cases h⟩, .inl rfl, ⟨Nat.zero_le _, fun p h => by cases h⟩, fun w _ => ⟨SlAt.nil, fun p h => by cases h⟩⟩ fun w hw => trivial
    | true =>
     refine wXS ?_
     exact fin_p (GrF (at0 ob) m2) ⟨at0 ob, oc, m2, by rw [hm2l], hob, (fun p hp => (hm2o p hp).ok), hs2, .inr (by rw [← hst.c]; exact ht1.1 rfl), ⟨by omega, fun p hp => ⟨(hm2o p hp).il, (hm2o p hp).nl, (hm2o p hp).tl⟩⟩, fun w hw => hw⟩ fun w hw => ⟨by rw [hm2l]; exact hw.2.1, hw.2.2.1⟩
end Go.Proofs.YtgogonnnojcioaaGreatDoor
namespace Go.Proofs.YtgogonnnojcioaaGreatDoor
open Go.AX Go.RowKit Go.Core Go.Marshal
set_option maxRecDepth 20000
structure DR where
 v : Int
 st : PS
 p : RdP
 nm : List CellP
structure DPost (R : Except Int (Int × St)) (S : List UInt8) (st : PS) (p : RdP) (i : DR) : Prop where
 ok : OkD i.st i.p
 m : i.p.m = p.m ++ i.nm
 cell : ∀ q ∈ i.nm, CellOk q
 left : Left S i.st
 le : Le 0 st i.st
 lt : i.st.e = 0 → i.st.s.length < st.s.length
 tel : Tel R i.v i.st
def FormC (n : Nat) : Prop := ∀ (rb : Nat) (S : List UInt8) (st : PS) (p : RdP) (nm : List CellP), S.length ≤ 20000 → OkD st p → Bd st → Left S st → st.e = 0 → st.s.length < n → SpecH Tryz.prog 86 [.c (.v (.pointer (some ⟨rb, 0, none⟩)))] (dE rb S st p nm) (RetG (ι := DR) (DPost (formD n (toS st)) S st p) (fun i => .int .i64 i.v) (fun i => dE rb S i.st i.p (nm ++ i.nm)))
def itP (kind : Int) (l : List Int) (a : Option Addr) (cap : Nat) : CellP := ⟨⟨kind, 0, [], [], l⟩, none, 0, a, cap⟩
structure ItD where
 l : List Int
 st : PS
 p : RdP
 nm : List CellP
 a : Option Addr
 cap : Nat
structure ItInv (S : List UInt8) (st : PS) (pre : List CellP) (kind : Int) (i : ItD) : Prop where
 ok : OkD i.st i.p
 m : i.p.m = pre ++ itP kind i.l i.a i.cap :: i.nm
 cell : ∀ q ∈ i.nm, CellOk q
 left : Left S i.st
 le : Le 0 st i.st
 ll : i.l.length + i.st.s.length + liv i.st ≤ 30001
 la : i.a = none → i.l = []
 lc : i.l.length ≤ i.cap
def Rest (f : St → Except Int (Int × St)) (k : Nat) (R : Except Int (Unit × St)) (m : Nat) (st : PS) : Prop := (st.e = 0 → itemsD f k m (toS st) = R) ∧ (st.e ≠ 0 → R = .error st.e)
theorem Rest.tel {f : St → Except Int (Int × St)} {k : Nat} {R : Except Int (Unit × St)} {m : Nat} {st : PS} (h : Rest f k R m st) (hm : st.e = 0 → m = 0) : Tel R () st := by
 by_cases h0 : st.e = 0
 ·have h1 := h.1 h0
  rw [hm h0] at h1
  rw [← h1]
  exact Tel.ok h0
 ·rw [h.2 h0]
  exact ⟨rfl, h0⟩
def cellsP (st : PS) (x : Int) : PS := { st with cells := st.cells ++ [x] }
def putG (k : Nat) (c : Cell) (st : PS) : PS := { st with g := st.g.set k c }
theorem map_get {m : List CellP} {g : List Cell} (h : m.map (·.c) = g) {k : Nat} {q : CellP} (hk : m[k]? = some q) : g.getD k nilC = q.c := by
 rw [← h, List.getD_eq_getElem?_getD, List.getElem?_map, hk]
 rfl
theorem pre_get (pre nm : List CellP) (q : CellP) : (pre ++ q :: nm)[pre.length]? = some q := by rw [List.getElem?_append_right (Nat.le_refl _), Nat.sub_self]; rfl
theorem pre_set (pre nm : List CellP) (q r : CellP) : (pre ++ q :: nm).set pre.length r = pre ++ r :: nm := by rw [List.set_append_right _ _ (Nat.le_refl _), Nat.sub_self]; rfl
theorem OkD.put {st : PS} {p : RdP} (ok : OkD st p) (k : Nat) (q : CellP) (hk : k < p.m.length) : OkD (putG k q.c st) { p with m := p.m.set k q } :=
 ⟨by show (p.m.set k q).map (·.c) = st.g.set k q.c; rw [List.map_set, ok.g], (fun h => by have := ok.ga h; rw [this] at hk; exact absurd hk (Nat.not_lt_zero _)), ok.ca, ok.sa, ok.sw, ok.gx⟩
theorem put_le (k : Nat) (c : Cell) (st : PS) : Le 0 st (putG k c st) := ⟨by show st.ss.length + st.s.length ≤ _; omega, Nat.le_refl _, by show _ ≤ (st.g.set k c).length; simp, fun h => by show (st.g.set k c).length ≤ _; simpa using h, by show st.cells.length + _ ≤ _ + (st.g.set k c).length; simp⟩
theorem it_step {S : List UInt8} {st : PS} {pre : List CellP} {kind : Int} {it : ItD} (hi : ItInv S st pre kind it) {ds : PS} {dp : RdP} {dn : List CellP} (dv : Int) (ok : OkD ds dp) (hm : dp.m = it.p.m ++ dn) (hc : ∀ q ∈ dn, CellOk q) (hl : Left S ds) (le : Le 0 it.st ds) (lt : ds.e = 0 → ds.s.length < it.st.s.length) (he : it.st.e = 0) (b cap : Nat) (hcap : it.l.length + 1 ≤ cap) :
  ItInv S st pre kind ⟨it.l ++ [dv], putG pre.length (itP kind (it.l ++ [dv]) (some ⟨b, 0, none⟩) cap).c ds, { dp with m := dp.m.set pre.length (itP kind (it.l ++ [dv]) (some ⟨b, 0, none⟩) cap) }, it.nm ++ dn, some ⟨b, 0, none⟩, cap⟩ := by
 have hm2 : dp.m = pre ++ itP kind it.l it.a it.cap :: (it.nm ++ dn) := by rw [hm, hi.m, List.append_assoc, List.cons_append]
 refine ⟨ok.put _ _ (by rw [hm2]; simp), ?_, fun q hq => (List.mem_append.1 hq).elim (hi.cell q) (hc q), hl, (hi.le.trans le).trans (put_le _ _ _), ?_, (fun h => by cases h), by show (it.l ++ [dv]).length ≤ cap; simpa using hcap⟩
 ·show dp.m.set pre.length _ = _
  rw [hm2, pre_set]
 ·show (it.l ++ [dv]).length + ds.s.length + liv (putG _ _ ds) ≤ _
  have h1 := hi.ll
  have h2 := le.s
  rw [List.length_append, List.length_singleton]
  unfold liv at h1 ⊢
  rw [if_pos he] at h1
  show _ + (if ds.e = 0 then _ else _) ≤ _
  split
  ·rename_i h
   have := lt h
   omega
  ·omega
theorem rest_step {f : St → Except Int (Int × St)} {pre nm : List CellP} {kind : Int} {l : List Int} {a : Option Addr} {cap : Nat} {R : Except Int (Unit × St)} {r : Nat} {st ds : PS} {dp : RdP} {dv : Int} (hr : Rest f pre.length R (r + 1) st) (he : st.e = 0) (tel : Tel (f (toS st)) dv ds) (ok : OkD ds dp) (hm : dp.m = pre ++ itP kind l a cap :: nm) (a2 : Option Addr) (cap2 : Nat) :
  Rest f pre.length R r (putG pre.length (itP kind (l ++ [dv]) a2 cap2).c ds) := by
 have h1 := hr.1 he
 unfold itemsD at h1
 refine ⟨fun h => ?_, fun h => ?_⟩
 ·have h0 : ds.e = 0 := h
  rw [tel.live h0] at h1
  have h1 : itemsD f pre.length r (putI pre.length dv (toS ds)) = R := h1
  rw [← h1]
  congr 1
  have hg := map_get ok.g (k := pre.length) (q := itP kind l a cap) (by rw [hm]; exact pre_get _ _ _)
  unfold putI toS putG
  simp only [hg]
  rfl
 ·have h0 : ds.e ≠ 0 := h
  rw [tel.dead h0] at h1
  exact h1.symm
theorem fact_assoc (a b c : List CellP) : wkE (.fact fun w => ∀ q ∈ a ++ b ++ c, CellF q w) (.fact fun w => ∀ q ∈ a ++ (b ++ c), CellF q w) := by
 rw [List.append_assoc]
 exact wkE_refl _
theorem ptr_fld {a : AV} {b n q : Nat} (h : a = .c (.v (.pointer (some ((elemAddr (some ⟨b, 0, none⟩) n).add q))))) : a = .c (.v (.pointer (some (elemAddr (some ⟨b, 0, none⟩) (n + q))))) := by
 rw [h]
 unfold elemAddr
 rw [show (some (⟨b, 0, none⟩ : Addr)).getD default = ⟨b, 0, none⟩ from rfl, add_lit0, add_lit, add_lit0]
theorem items_d (n : Nat) (hc : FormC n) (rb : Nat) (S : List UInt8) (hS : S.length ≤ 20000) (st : PS) (p : RdP) (pre : List CellP) (kind : Int) (each : Nat) (he1 : 1 ≤ each) (he2 : each ≤ 2) (ok : OkD st p) (hm2 : p.m = pre ++ [itP kind [] none 0]) (bd : Bd (cellsP st (pre.length : Int))) (hl : Left S st) (h0 : st.e = 0) (hn : st.s.length < n) (nm0 : List CellP) :
  SpecH Tryz.prog 101 [.c (.v (.pointer (some ⟨rb, 0, none⟩))), .c (.v (.int .i64 (pre.length : Int))), .c (.v (.int .i64 (each : Int)))] (dE rb S st p nm0 ++ [ownI [] none 0])
   (RetG (ι := ItD) (fun i => ItInv S (cellsP st (pre.length : Int)) pre kind i ∧ Tel (Marshal.bnd (numS maxN (toS (cellsP st (pre.length : Int)))) fun m s => itemsD (formD n) pre.length (m * each) s) () i.st) (fun _ => .tuple #[]) (fun i => dE rb S i.st i.p (nm0 ++ i.nm) ++ [ownI i.l i.a i.cap])) := by
 refine ownC hm Tryz.func101 (by kernel_rfl) rfl rfl (fun _ _ => okHB_eq rfl) (fun _ _ => Nat.le_of_ble_eq_true rfl) ?_
 have hpl : p.m.length = pre.length + 1 := by rw [hm2]; simp
 have hbg := bd.g
 have hbc := bd.cl
 have hbc2 : st.cells.length + 1 ≤ st.g.length := by simpa [cellsP] using hbc
 have hbg2 : st.g.length ≤ 500 := hbg
 refine wX ?_
 refine LdN.one (a := some ⟨rb, 0, none⟩) (q := 3) (.slice p.ca st.cells.length p.cc) rfl (fun w hw => hw.1) rfl ?_
 refine wX ?_
 refine Nd.mk ⟨Nat.le_refl 1, rfl, rfl⟩ ?_
 (conv => whnf)
 refine AppN.grow 3 (iC st.cells) [.int .i64 (pre.length : Int)] rfl rfl ⟨Nat.le_refl 1, ⟨by show (st.cells.length + 1) * 8 ≤ _; omega, by omega⟩, by decide⟩ fun cb cc' g1 g2 => ?_
 refine wX ?_
 have e1 : iC st.cells ++ [.int .i64 (pre.length : Int)] = iC (st.cells ++ [(pre.length : Int)]) := by simp [iC]
 have e2 : st.cells.length + 1 = (st.cells ++ [(pre.length : Int)]).length := by simp
 rw [e1, e2]
 refine EffW.appTo (i := 0) (q := 3) (ys := [_]) (ddC S (cellsP st (pre.length : Int)) { p with ca := some ⟨cb, 0, none⟩, cc := cc' }) 6 rfl rfl rfl rfl rfl rfl rfl (Nat.le_of_ble_eq_true rfl) rfl rfl ?_
 have ok1 : OkD (cellsP st (pre.length : Int)) { p with ca := some ⟨cb, 0, none⟩, cc := cc' } := ⟨ok.g, ok.ga, (fun h => by cases h), ok.sa, ok.sw, ok.gx⟩
 have hl1 : Left S (cellsP st (pre.length : Int)) := hl
 have h01 : (cellsP st (pre.length : Int)).e = 0 := h0
 have hn1 : (cellsP st (pre.length : Int)).s.length < n := hn
 have hm3 : ({ p with ca := some ⟨cb, 0, none⟩, cc := cc' } : RdP).m = pre ++ [itP kind [] none 0] := hm2
 have hnum := number_d rb S (by omega) (cellsP st (pre.length : Int)) ({ p with ca := some ⟨cb, 0, none⟩, cc := cc' } : RdP) nm0 hl1 maxN
 have hgm : (({ p with ca := some ⟨cb, 0, none⟩, cc := cc' } : RdP)).m.length = ((cellsP st (pre.length : Int))).g.length := by show p.m.length = st.g.length; rw [← ok.g, List.length_map]
 obtain ⟨R, hR⟩ : ∃ R, (Marshal.bnd (numS maxN (toS (cellsP st (pre.length : Int)))) fun m s => itemsD (formD n) pre.length (m * each) s) = R := ⟨_, rfl⟩
 rw [hR]
 have htel := (Ref.num maxN).tel h01
 have ok2 := ok1.same (num_keep maxN (cellsP st (pre.length : Int)))
 have le2 := num_le maxN (cellsP st (pre.length : Int))
 have hl2 := hl1.num maxN
 have hm4 := num_most maxN (cellsP st (pre.length : Int))
 generalize numM maxN (cellsP st (pre.length : Int)) = q at hnum htel ok2 le2 hl2 hm4
 obtain ⟨m, st2⟩ := q
 simp only at hnum htel ok2 le2 hl2 hm4
 have hm5 : m ≤ 1000000000000000 := hm4
 have hrest : Rest (formD n) pre.length R (m * each) st2 := by
  refine ⟨fun h => ?_, fun h => ?_⟩
  ·rw [← hR, htel.live h]
   rfl
  ·rw [← hR, htel.dead h]
   rfl
 refine wX ?_
 refine callG (hnum) [0, 1, 2, 3, 4] rfl ⟨rfl, rfl, rfl, rfl, rfl, trivial⟩ rfl fun _ _ => ?_
 refine wX ?_
 refine LoopN.intro (Nat × ItD) (fun ⟨i, it⟩ => i ≤ m ∧ ItInv S (cellsP st (pre.length : Int)) pre kind it ∧ Rest (formD n) pre.length R ((m - i) * each) it.st)
  (fun ⟨i, _⟩ => mkS Tryz.f101.ntmps 0 [(0, .c (.v (.pointer (some ⟨rb, 0, none⟩)))), (1, .c (.v (.int .i64 (pre.length : Int)))), (2, .c (.v (.int .i64 (each : Int)))), (6, .c (.v (.int .i64 (m : Int)))), (7, .c (.v (.int .i64 (i : Int))))])
  (fun ⟨_, it⟩ => dE rb S it.st it.p (nm0 ++ it.nm) ++ [ownI it.l it.a it.cap, .dead]) (fun ⟨i, _⟩ => m - i) [] rfl
  (fun _ => rfl) (fun _ => rfl) (fun _ _ => okHB_eq rfl) ⟨(0, ⟨[], st2, ({ p with ca := some ⟨cb, 0, none⟩, cc := cc' } : RdP), [], none, 0⟩), ⟨Nat.zero_le _, ⟨ok2, hm3, (fun q hq => by cases hq), hl2, le2, ?_, fun _ => rfl, Nat.le_refl _⟩, hrest⟩, ?_, ?_⟩ ?_
 ·have := bd.pot
  have := le2.s
  unfold liv
  show 0 + st2.s.length + _ ≤ _
  have h9 : ((cellsP st (pre.length : Int))).s.length ≤ 30000 := by have := bd.pot; omega
  split <;> omega
 ·exact wKK
 ·refine ⟨wkE_refl _, wkE_refl _, ?_, wkE_refl _, wkE_refl _, wkE_refl _, wHH⟩
  show wkE (.fact _) (.fact fun w => ∀ q ∈ nm0 ++ [], CellF q w)
  rw [List.append_nil]
  exact wkE_refl _
 rintro ⟨i, it⟩ ⟨h1, hi, hr⟩
 refine wX ?_
 by_cases hlt : i < m
 ·rw [show decide ((i : Int) < (m : Int)) = true by simpa using hlt]
  refine wX ?_
  refine LdN.one (a := some ⟨rb, 0, none⟩) (q := 5) (.int .i64 it.st.e) rfl (fun w hw => hw.1) rfl ?_
  refine wX ?_
  by_cases he : it.st.e = 0
  ·rw [show (it.st.e == 0) = true by rw [he]; rfl]
   refine wX ?_
   refine LoopN.intro (Nat × ItD) (fun ⟨k, it⟩ => k ≤ each ∧ ItInv S (cellsP st (pre.length : Int)) pre kind it ∧ Rest (formD n) pre.length R ((m - i) * each - k) it.st)
    (fun ⟨k, _⟩ => mkS Tryz.f101.ntmps 0 [(0, .c (.v (.pointer (some ⟨rb, 0, none⟩)))), (1, .c (.v (.int .i64 (pre.length : Int)))), (2, .c (.v (.int .i64 (each : Int)))), (6, .c (.v (.int .i64 (m : Int)))), (7, .c (.v (.int .i64 (i : Int)))), (8, .c (.v (.int .i64 (k : Int))))])
    (fun ⟨_, it⟩ => dE rb S it.st it.p (nm0 ++ it.nm) ++ [ownI it.l it.a it.cap, .dead]) (fun ⟨k, _⟩ => each - k) [] rfl
    (fun _ => rfl) (fun _ => rfl) (fun _ _ => okHB_eq rfl) ⟨(0, it), ⟨Nat.zero_le _, hi, hr⟩, ?_, ?_⟩ ?_
   ·exact wKK
   ·exact wkH_refl _
   rintro ⟨k, it⟩ ⟨k1, hi, hr⟩
   refine wX ?_
   by_cases hk : k < each
   ·rw [show decide ((k : Int) < (each : Int)) = true by simpa using hk]
    refine wX ?_
    refine LdN.one (a := some ⟨rb, 0, none⟩) (q := 5) (.int .i64 it.st.e) rfl (fun w hw => hw.1) rfl ?_
    refine wX ?_
    by_cases he : it.st.e = 0
    ·rw [show (it.st.e == 0) = true by rw [he]; rfl]
     have hb := bd.le hi.le
     have hs4 := hi.le.s
     have hform := hc rb S it.st it.p (nm0 ++ it.nm) hS hi.ok hb hi.left he (by omega)
     refine wX ?_
     refine callG hform [0, 1, 2, 3, 4] rfl ⟨rfl, rfl, rfl, rfl, rfl, trivial⟩ rfl fun d hd => ?_
     refine wX ?_
     have hll : it.l.length ≤ 30001 := by have := hi.ll; omega
     obtain ⟨dv, ds, dp, dn⟩ := d
     obtain ⟨ok4, hm6, hc6, hl6, le6, lt6, tel6⟩ := hd
     simp only at ok4 hm6 hc6 hl6 le6 lt6 tel6
     obtain ⟨dm, dga, dgc, dca, dcc, dsa, dsc⟩ := dp
     simp only at hm6
     have hml : dm.length = pre.length + 1 + it.nm.length + dn.length := by rw [hm6, hi.m]; simp; omega
     have hgk : dm[pre.length]? = some (itP kind it.l it.a it.cap) := by
      rw [hm6, hi.m, List.append_assoc, List.cons_append]
      exact pre_get _ _ _
     obtain ⟨gb, rfl⟩ : ∃ b : Nat, dga = some ⟨b, 0, none⟩ := ok4.gx.resolve_left fun h => by
      have h9 : dm = [] := ok4.ga h
      rw [h9, List.length_nil] at hml
      omega
     have hgb : dm.length ≤ 500 := by
      have := (hb.le le6).g
      rw [← ok4.g, List.length_map] at this
      exact this
     refine wX ?_
     refine DrawN.planC (fun w => SlAt (some ⟨rb, 0, none⟩) 6 (ddC S ds ⟨dm, some ⟨gb, 0, none⟩, dgc, dca, dcc, dsa, dsc⟩) w ∧ SlAt (some ⟨gb, 0, none⟩) (dm.length * 5) (grC dm) w) [0, 4, 5, 9, 13] [(1, 1), (2, 2), (3, 1), (6, 1), (7, 2), (8, 1), (10, 1), (11, 2), (12, 1), (14, 0), (15, 0)] [(16, 0), (17, 0), (18, 0)] (by decide +kernel) (fun w hw => ⟨hw.1, hw.2.1⟩) ?_
     refine wXO ?_
     refine ReadC.one (a := some ⟨rb, 0, none⟩) (q := 2) (.slice (some ⟨gb, 0, none⟩) dm.length dgc) rfl rfl rfl (fun w hw => hw.1) rfl ?_
     refine wXO ?_
     refine ReadC.one (a := some ⟨rb, 0, none⟩) (q := 2) (.slice (some ⟨gb, 0, none⟩) dm.length dgc) rfl rfl rfl (fun w hw => hw.1) rfl ?_
     refine wXO ?_
     refine ReadC.idxA (e := 87) (sz := 5) pre.length rfl Tryz.underlying36 rfl rfl rfl rfl rfl (by omega) ?_
     refine wXO ?_
     refine ReadC.one (a := some ⟨gb, 0, none⟩) (q := pre.length * 5 + 4) (.slice it.a it.l.length it.cap) rfl (ptr_fld rfl) rfl (fun w hw => hw.2) (grC_get _ _ 4 (by omega) hgk) ?_
     (conv => whnf)
     refine RwN.own ?_
     (conv => whnf)
     refine Nd.mk (fun w hw => ⟨hw.1, hw.2.1⟩) ?_
     (conv => whnf)
     refine Nd.mk ⟨Nat.le_refl 1, rfl, rfl⟩ ?_
     (conv => whnf)
     refine AppN.grow 5 (iC it.l) [.int .i64 dv] rfl rfl ⟨Nat.le_refl 1, ⟨by show (it.l.length + 1) * 8 ≤ _; omega, by omega⟩, by decide⟩ fun b' cap' g3 g4 => ?_
     (conv => whnf)
     refine Nd.mk (fun w hw => ⟨hw.1, hw.2.1⟩) ?_
     (conv => whnf)
     refine Nd.mk ⟨rfl, by omega, by omega⟩ ?_
     (conv => whnf)
     have e1 : iC it.l ++ [.int .i64 dv] = iC (it.l ++ [dv]) := by simp [iC]
     have e2 : it.l.length + 1 = (it.l ++ [dv]).length := by simp
     rw [e1, e2]
     have hq4 : pre.length * 5 + 4 < (grC dm).length := by rw [grC_len]; omega
     have hsi : setI (itP kind it.l it.a it.cap) (it.l ++ [dv]) (some ⟨b', 0, none⟩) cap' = itP kind (it.l ++ [dv]) (some ⟨b', 0, none⟩) cap' := rfl
     refine EffW.appTo (i := 1) (q := pre.length * 5 + 4) (ys := [.slice (some ⟨b', 0, none⟩) (it.l ++ [dv]).length cap']) (grC (dm.set pre.length (itP kind (it.l ++ [dv]) (some ⟨b', 0, none⟩) cap'))) 5 rfl (by rw [Int.toNat_natCast]; show AV.c (CV.v (Value.pointer (some (((⟨gb, 0, none⟩ : Addr).add (pre.length * 5)).add 4)))) = _; rw [add_lit0, add_lit]) rfl rfl rfl rfl rfl (by show pre.length * 5 + 4 + 1 ≤ dm.length * 5; omega) ((put_set _ hq4).trans (by rw [← hsi]; exact grC_set (it.l ++ [dv]) _ cap' hgk)) rfl ?_
     refine wX ?_
     have hr2 : ∃ r, (m - i) * each - k = r + 1 ∧ (m - i) * each - (k + 1) = r := ⟨(m - i) * each - (k + 1), by
      have h5 : 1 * each ≤ (m - i) * each := Nat.mul_le_mul_right _ (by omega)
      omega, rfl⟩
     obtain ⟨r, hr3, hr4⟩ := hr2
     rw [hr3] at hr
     refine ⟨(k + 1, ⟨it.l ++ [dv], putG pre.length (itP kind (it.l ++ [dv]) (some ⟨b', 0, none⟩) cap').c ds, ⟨dm.set pre.length (itP kind (it.l ++ [dv]) (some ⟨b', 0, none⟩) cap'), some ⟨gb, 0, none⟩, dgc, dca, dcc, dsa, dsc⟩, it.nm ++ dn, some ⟨b', 0, none⟩, cap'⟩), ⟨by omega, it_step hi dv ok4 hm6 hc6 hl6 le6 lt6 he b' cap' g3, ?_⟩, by show each - (k + 1) < each - k; omega, ?_, ?_⟩
     ·rw [hr4]
      exact rest_step hr he tel6 ok4 (by show dm = _; rw [hm6, hi.m, List.append_assoc, List.cons_append]) _ _
     ·exact wKK
     ·have hrc : ddC S (putG pre.length (itP kind (it.l ++ [dv]) (some ⟨b', 0, none⟩) cap').c ds) ⟨dm.set pre.length (itP kind (it.l ++ [dv]) (some ⟨b', 0, none⟩) cap'), some ⟨gb, 0, none⟩, dgc, dca, dcc, dsa, dsc⟩ = ddC S ds ⟨dm, some ⟨gb, 0, none⟩, dgc, dca, dcc, dsa, dsc⟩ := by simp [ddC, putG]
      refine ⟨?_, ?_, fact_assoc _ _ _, wkE_refl _, wkE_refl _, wkE_refl _, wHH⟩
      ·show wkE (.app 109 6 (ddC S ds ⟨dm, some ⟨gb, 0, none⟩, dgc, dca, dcc, dsa, dsc⟩) _ 1 1) (.app 109 6 (ddC S (putG _ _ ds) _) _ 1 1)
       rw [hrc]
       exact wkE_refl _
      show wkE (.app 87 5 _ _ dm.length _) (.app 87 5 _ _ (dm.set _ _).length _)
      rw [List.length_set]
      exact wkE_refl _
    ·rw [show (it.st.e == 0) = false by simpa using he]
     refine wX ?_
     refine ⟨(i + 1, it), ⟨by omega, hi, fun h => absurd h he, hr.2⟩, by show m - (i + 1) < m - i; omega, ?_, wkH_refl _⟩
     exact wKK
   ·rw [show decide ((k : Int) < (each : Int)) = false by simpa using hk]
    refine wX ?_
    have hrr : (m - i) * each - k = (m - (i + 1)) * each := by
     rw [show m - i = (m - (i + 1)) + 1 by omega, Nat.succ_mul]
     omega
    rw [hrr] at hr
    refine ⟨(i + 1, it), ⟨by omega, hi, hr⟩, by show m - (i + 1) < m - i; omega, ?_, wkH_refl _⟩
    exact wKK
  ·rw [show (it.st.e == 0) = false by simpa using he]
   refine wX ?_
   exact ⟨it, ⟨hi, hr.tel fun h => absurd h he⟩, rfl, wkE_refl _, wkE_refl _, wkE_refl _, wkE_refl _, wkE_refl _, wkE_refl _, wHH⟩
 ·rw [show decide ((i : Int) < (m : Int)) = false by simpa using hlt]
  refine wX ?_
  exact ⟨it, ⟨hi, hr.tel fun h => by rw [show m - i = 0 by omega, Nat.zero_mul]⟩, rfl, wkE_refl _, wkE_refl _, wkE_refl _, wkE_refl _, wkE_refl _, wkE_refl _, wHH⟩
end Go.Proofs.YtgogonnnojcioaaGreatDoor
namespace Go.Scan
set_option maxRecDepth 20000
def pk (s : List UInt8) (i : Nat) : UInt8 := (s[i]?).getD 0
def wordS (s : List UInt8) (i : Nat) : List UInt8 := (s.drop i).takeWhile wrd
theorem tw_take {c : UInt8} {s : List UInt8} {i j : Nat} (h : ((s.drop i).take j).all wrd = true) (hc : s[i + j]? = some c) : (wrd c = true → ((s.drop i).take (j + 1)).all wrd = true) ∧ (wrd c = false → wordS s i = (s.drop i).take j) := by
 have hg : (s.drop i)[j]? = some c := by rw [List.getElem?_drop]; exact hc
 refine ⟨fun hw => ?_, fun hw => ?_⟩
 ·rw [List.take_add_one, hg, List.all_append, h]
  simp [hw]
 ·have e : s.drop i = (s.drop i).take j ++ (c :: (s.drop i).drop (j + 1)) := by
   obtain ⟨hlt, hx⟩ := List.getElem?_eq_some_iff.1 hg
   conv => lhs; rw [← List.take_append_drop j (s.drop i), List.drop_eq_getElem_cons hlt, hx]
  unfold wordS
  conv => lhs; rw [e]
  rw [List.takeWhile_append_of_pos (fun x hx => List.all_eq_true.1 h x hx)]
  simp [hw]
theorem tw_end {s : List UInt8} {i j : Nat} (h : ((s.drop i).take j).all wrd = true) (hj : i + j = s.length) : wordS s i = (s.drop i).take j := by
 have e : (s.drop i).take j = s.drop i := List.take_of_length_le (by rw [List.length_drop]; omega)
 rw [e] at h ⊢
 unfold wordS
 have := List.takeWhile_append_of_pos (l₂ := []) (fun x hx => List.all_eq_true.1 h x hx)
 simpa using this
def wordAtS (s : List UInt8) (p : Nat) : List UInt8 := if ltr (pk s p) then wordS s p else []
def rcB (s : List UInt8) : Bool := !s.isEmpty && decide (s.length ≤ 40) && grt (hd s) && wordAtS s 0 == s
def riB (s : List UInt8) : Bool := decide (1 < s.length) && decide (s.length ≤ 40) && hd s == 64 && sml (pk s 1) && wordAtS s 1 == s.tail
theorem tw_self {s : List UInt8} : s.takeWhile wrd = s ↔ s.all wrd = true := by
 induction s with
 | nil => simp
 | cons c r ih =>
  rw [List.takeWhile_cons, List.all_cons]
  cases h : wrd c with
  | true => simpa using ih
  | false => simp
theorem wordS_0 (s : List UInt8) : wordS s 0 = s.takeWhile wrd := by simp [wordS]
theorem pk_0 (c : UInt8) (r : List UInt8) : pk (c :: r) 0 = c := rfl
theorem icB_eq (s : List UInt8) : icB s = rcB s := by
 refine Bool.eq_iff_iff.2 ?_
 cases s with
 | nil => simp [icB, rcB, iwB]
 | cons c r =>
  have h1 := grt_iff c
  simp only [icB, rcB, iwB, hd, List.headD_cons, wordAtS, pk_0, wordS_0, Bool.and_eq_true, Bool.not_eq_true', decide_eq_true_eq, beq_iff_eq, List.isEmpty_cons]
  constructor
  ·rintro ⟨⟨⟨⟨ha, _⟩, hl⟩, hd⟩, hs⟩
   have hw : wrd c = true := by rw [List.all_cons, Bool.and_eq_true] at ha; exact ha.1
   have hg := h1.1 ⟨hw, hd, hs⟩
   exact ⟨⟨⟨by simp, hl⟩, hg⟩, by rw [if_pos (grt_ltr hg)]; exact tw_self.2 ha⟩
  ·rintro ⟨⟨⟨_, hl⟩, hg⟩, he⟩
   rw [if_pos (grt_ltr hg)] at he
   obtain ⟨_, h3, h4⟩ := h1.2 hg
   exact ⟨⟨⟨⟨tw_self.1 he, by simp⟩, hl⟩, h3⟩, h4⟩
theorem iiB_eq (s : List UInt8) : iiB s = riB s := by
 refine Bool.eq_iff_iff.2 ?_
 match s with
 | [] => simp [iiB, riB]
 | [c] => simp [iiB, riB]
 | c :: d :: r =>
  have hp : pk (c :: d :: r) 1 = d := rfl
  have hw : wordS (c :: d :: r) 1 = (d :: r).takeWhile wrd := rfl
  simp only [iiB, riB, iwB, hd, List.headD_cons, List.tail_cons, wordAtS, hp, hw, Bool.and_eq_true, Bool.not_eq_true', decide_eq_true_eq, beq_iff_eq, List.isEmpty_cons]
  constructor
  ·rintro ⟨⟨⟨⟨h1, h2⟩, ⟨⟨ha, _⟩, _⟩, _⟩, hs⟩, hl⟩
   exact ⟨⟨⟨⟨h1, hl⟩, h2⟩, hs⟩, by rw [if_pos (sml_wrd hs).2.1]; exact tw_self.2 ha⟩
  ·rintro ⟨⟨⟨⟨h1, hl⟩, h2⟩, hs⟩, he⟩
   rw [if_pos (sml_wrd hs).2.1] at he
   exact ⟨⟨⟨⟨h1, h2⟩, ⟨⟨tw_self.1 he, by simp⟩, by simp at hl ⊢; omega⟩, (sml_wrd hs).2.2.1⟩, hs⟩, hl⟩
end Go.Scan
namespace Go.Proofs.YtgogonnnojcioaaGreatDoor
open Go.AX Go.RowKit Go.Scan
set_option maxRecDepth 20000
theorem sml_r (c : UInt8) : ∀ H, SpecH Tryz.prog 149 (pvs [.int .u8 (c.toNat : Int)]) H (Ret (.bool (sml c)) H) := by
 refine pureC hm Tryz.func149 (by kernel_rfl) rfl rfl ?_
 refine wX ?_
 (repeat' (first | (refine brd_dec (fun _ => ?_) (fun _ => ?_)) | (refine brd_eq (fun _ => ?_) (fun _ => ?_))))
 all_goals (first | refine wX ?_ | exact wZ)
 (repeat' (first | (refine brd_dec (fun _ => ?_) (fun _ => ?_)) | (refine brd_eq (fun _ => ?_) (fun _ => ?_))))
 all_goals (first | refine wX ?_ | exact wZ)
 (repeat' (first | (refine brd_dec (fun _ => ?_) (fun _ => ?_)) | (refine brd_eq (fun _ => ?_) (fun _ => ?_))))
 all_goals (first | refine wX ?_ | exact wZ)
 all_goals
  refine ret_b ?_
  simp [sml]
  try omega
theorem grt_r (c : UInt8) : ∀ H, SpecH Tryz.prog 147 (pvs [.int .u8 (c.toNat : Int)]) H (Ret (.bool (grt c)) H) := by
 refine pureC hm Tryz.func147 (by kernel_rfl) rfl rfl ?_
 refine wX ?_
 (repeat' (first | (refine brd_dec (fun _ => ?_) (fun _ => ?_)) | (refine brd_eq (fun _ => ?_) (fun _ => ?_))))
 all_goals (first | refine wX ?_ | exact wZ)
 (repeat' (first | (refine brd_dec (fun _ => ?_) (fun _ => ?_)) | (refine brd_eq (fun _ => ?_) (fun _ => ?_))))
 all_goals (first | refine wX ?_ | exact wZ)
 (repeat' (first | (refine brd_dec (fun _ => ?_) (fun _ => ?_)) | (refine brd_eq (fun _ => ?_) (fun _ => ?_))))
 all_goals (first | refine wX ?_ | exact wZ)
 all_goals
  refine ret_b ?_
  simp [grt]
  try omega
theorem dig_r (c : UInt8) : ∀ H, SpecH Tryz.prog 174 (pvs [.int .u8 (c.toNat : Int)]) H (Ret (.bool (dig c)) H) := by
 refine pureC hm Tryz.func174 (by kernel_rfl) rfl rfl ?_
 refine wX ?_
 (repeat' (first | (refine brd_dec (fun _ => ?_) (fun _ => ?_)) | (refine brd_eq (fun _ => ?_) (fun _ => ?_))))
 all_goals (first | refine wX ?_ | exact wZ)
 (repeat' (first | (refine brd_dec (fun _ => ?_) (fun _ => ?_)) | (refine brd_eq (fun _ => ?_) (fun _ => ?_))))
 all_goals (first | refine wX ?_ | exact wZ)
 (repeat' (first | (refine brd_dec (fun _ => ?_) (fun _ => ?_)) | (refine brd_eq (fun _ => ?_) (fun _ => ?_))))
 all_goals (first | refine wX ?_ | exact wZ)
 all_goals
  refine ret_b ?_
  simp [dig]
  try omega
theorem wordAt_r (s : List UInt8) (p : Nat) (hs : s.length ≤ 200000000000000) (hp : p ≤ 200000000000000) : ∀ H, SpecH Tryz.prog 148 (pvs [.string (bs s), .int .i64 (p : Int)]) H (Ret (.string (bs (wordAtS s p))) H) := by
 refine pureC hm Tryz.func148 (by kernel_rfl) rfl rfl ?_
 have hz := bs_size s
 refine wX ?_
 rw [hz]
 refine brd_dec (fun h1 => ?_) (fun h1 => ?_)
 ·have hpk : pk s p = 0 := by unfold pk; rw [List.getElem?_eq_none (by omega)]; rfl
  have hw : wordAtS s p = [] := by unfold wordAtS; rw [hpk]; rfl
  rw [hw]
  refine wX ?_
  rfl
 ·obtain ⟨c, hc⟩ : ∃ c, s[p]? = some c := ⟨_, List.getElem?_eq_getElem (by omega)⟩
  have hpk : pk s p = c := by unfold pk; rw [hc]; rfl
  refine wX ?_
  try refine Nd.mk ⟨by omega, by omega⟩ ?_
  refine wX ?_
  try rw [Int.toNat_natCast]
  rw [byteAt_get hc]
  refine call1 (sml_r c _) ?_
  have key : ltr c = true → wordAtS s p = wordS s p := fun h => by unfold wordAtS; rw [hpk, if_pos h]
  ·cases hsm : sml c with
   | true =>
    rw [key (by simp [ltr, hsm])]
    refine wX ?_
    refine loopS Nat (fun j => p + j ≤ s.length ∧ ((s.drop p).take j).all wrd = true) (fun j => mkS Tryz.f148.ntmps 0 [(0, .c (.v (.string (bs s)))), (1, .c (.v (.int .i64 (p : Int)))), (5, .c (.v (.int .i64 ((p + j : Nat) : Int))))]) (fun j => s.length - j) rfl (fun _ => rfl) 0 ⟨by omega, by simp⟩ ?_ ?_
    ·exact wKK
    rintro j ⟨hj, hall⟩
    refine wX ?_
    rw [hz]
    refine brd_dec (fun h2 => ?_) (fun h2 => ?_)
    ·obtain ⟨d, hd⟩ : ∃ d, s[p + j]? = some d := ⟨_, List.getElem?_eq_getElem (by omega)⟩
     obtain ⟨ht1, ht2⟩ := tw_take hall hd
     refine wX ?_
     try refine Nd.mk ⟨by omega, by omega⟩ ?_
     refine wX ?_
     try rw [Int.toNat_natCast]
     rw [byteAt_get hd]
     refine call1 (sml_r d _) ?_
     cases hs3 : sml d with
     | true =>
      have hwd : wrd d = true := by simp [wrd, ltr, hs3]
      refine wX ?_
      refine ⟨j + 1, ⟨by omega, ht1 hwd⟩, by omega, ?_, wHH⟩
      exact wKK
     | false =>
      refine wX ?_
      try refine Nd.mk ⟨by omega, by omega⟩ ?_
      refine wX ?_
      try rw [Int.toNat_natCast]
      rw [byteAt_get hd]
      refine call1 (grt_r d _) ?_
      cases hg3 : grt d with
      | true =>
       have hwd : wrd d = true := by simp [wrd, ltr, hg3]
       refine wX ?_
       refine ⟨j + 1, ⟨by omega, ht1 hwd⟩, by omega, ?_, wHH⟩
       exact wKK
      | false =>
       refine wX ?_
       try refine Nd.mk ⟨by omega, by omega⟩ ?_
       refine wX ?_
       try rw [Int.toNat_natCast]
       rw [byteAt_get hd]
       refine call1 (dig_r d _) ?_
       cases hd3 : dig d with
       | true =>
        have hwd : wrd d = true := by simp [wrd, hd3]
        refine wX ?_
        refine ⟨j + 1, ⟨by omega, ht1 hwd⟩, by omega, ?_, wHH⟩
        exact wKK
       | false =>
        have hwd := ht2 (by simp [wrd, ltr, hs3, hg3, hd3])
        refine wX ?_
        refine ReadW.sl_lh p (p + j) rfl Tryz.underlying9 rfl rfl rfl ⟨rfl, rfl, by omega, by omega⟩ ?_
        refine wX ?_
        rw [hwd, List.take_drop]
    ·have hwd := tw_end hall (by omega)
     refine wX ?_
     refine ReadW.sl_lh p (p + j) rfl Tryz.underlying9 rfl rfl rfl ⟨rfl, rfl, by omega, by omega⟩ ?_
     refine wX ?_
     rw [hwd, List.take_drop]
   | false =>
    refine wX ?_
    try refine Nd.mk ⟨by omega, by omega⟩ ?_
    refine wX ?_
    try rw [Int.toNat_natCast]
    rw [byteAt_get hc]
    refine call1 (grt_r c _) ?_
    cases hg : grt c with
    | true =>
     rw [key (by simp [ltr, hg])]
     refine wX ?_
     refine loopS Nat (fun j => p + j ≤ s.length ∧ ((s.drop p).take j).all wrd = true) (fun j => mkS Tryz.f148.ntmps 0 [(0, .c (.v (.string (bs s)))), (1, .c (.v (.int .i64 (p : Int)))), (5, .c (.v (.int .i64 ((p + j : Nat) : Int))))]) (fun j => s.length - j) rfl (fun _ => rfl) 0 ⟨by omega, by simp⟩ ?_ ?_
     ·exact wKK
     rintro j ⟨hj, hall⟩
     refine wX ?_
     rw [hz]
     refine brd_dec (fun h2 => ?_) (fun h2 => ?_)
     ·obtain ⟨d, hd⟩ : ∃ d, s[p + j]? = some d := ⟨_, List.getElem?_eq_getElem (by omega)⟩
      obtain ⟨ht1, ht2⟩ := tw_take hall hd
      refine wX ?_
      try refine Nd.mk ⟨by omega, by omega⟩ ?_
      refine wX ?_
      try rw [Int.toNat_natCast]
      rw [byteAt_get hd]
      refine call1 (sml_r d _) ?_
      cases hs3 : sml d with
      | true =>
       have hwd : wrd d = true := by simp [wrd, ltr, hs3]
       refine wX ?_
       refine ⟨j + 1, ⟨by omega, ht1 hwd⟩, by omega, ?_, wHH⟩
       exact wKK
      | false =>
       refine wX ?_
       try refine Nd.mk ⟨by omega, by omega⟩ ?_
       refine wX ?_
       try rw [Int.toNat_natCast]
       rw [byteAt_get hd]
       refine call1 (grt_r d _) ?_
       cases hg3 : grt d with
       | true =>
        have hwd : wrd d = true := by simp [wrd, ltr, hg3]
        refine wX ?_
        refine ⟨j + 1, ⟨by omega, ht1 hwd⟩, by omega, ?_, wHH⟩
        exact wKK
       | false =>
        refine wX ?_
        try refine Nd.mk ⟨by omega, by omega⟩ ?_
        refine wX ?_
        try rw [Int.toNat_natCast]
        rw [byteAt_get hd]
        refine call1 (dig_r d _) ?_
        cases hd3 : dig d with
        | true =>
         have hwd : wrd d = true := by simp [wrd, hd3]
         refine wX ?_
         refine ⟨j + 1, ⟨by omega, ht1 hwd⟩, by omega, ?_, wHH⟩
         exact wKK
        | false =>
         have hwd := ht2 (by simp [wrd, ltr, hs3, hg3, hd3])
         refine wX ?_
         refine ReadW.sl_lh p (p + j) rfl Tryz.underlying9 rfl rfl rfl ⟨rfl, rfl, by omega, by omega⟩ ?_
         refine wX ?_
         rw [hwd, List.take_drop]
     ·have hwd := tw_end hall (by omega)
      refine wX ?_
      refine ReadW.sl_lh p (p + j) rfl Tryz.underlying9 rfl rfl rfl ⟨rfl, rfl, by omega, by omega⟩ ?_
      refine wX ?_
      rw [hwd, List.take_drop]
    | false =>
     have hw : wordAtS s p = [] := by unfold wordAtS; rw [hpk, if_neg (by simp [ltr, hsm, hg])]
     rw [hw]
     refine wX ?_
     rfl
theorem RIsConst_r (s : List UInt8) (hs : s.length ≤ 200000000000000) : ∀ H, SpecH Tryz.prog 124 (pvs [.string (bs s)]) H (Ret (.bool (icB s)) H) := by
 refine pureC hm Tryz.func124 (by kernel_rfl) rfl rfl ?_
 rw [icB_eq]
 have hz := bs_size s
 cases s with
 | nil =>
  refine wX ?_
  try exact ret_b (by simp [rcB])
 | cons x r =>
  refine wX ?_
  rw [hz]
  refine brd_dec (fun h1 => ?_) (fun h1 => ?_)
  ·have hdec : decide ((x :: r).length ≤ 40) = true := decide_eq_true (by omega)
   refine wX ?_
   try refine Nd.mk ⟨by omega, by rw [hz]; show (0 : Int) < ((r.length + 1 : Nat) : Int); omega⟩ ?_
   refine wX ?_
   rw [show byteAt (bs (x :: r)) (Int.toNat 0) = (x.toNat : Int) from byteAt_get (l := x :: r) (i := 0) rfl]
   refine call1 (grt_r x _) ?_
   cases hg : grt x with
   | false =>
    refine wX ?_
    exact ret_b (by simp [rcB, hd, hg])
   | true =>
    refine wX ?_
    refine call1 (wordAt_r (x :: r) 0 hs (by omega) _) ?_
    refine wX ?_
    refine ret_b ?_
    simp only [rcB, hdec, hd, List.headD_cons, hg]
    exact Iff.rfl
  ·have hdec : decide ((x :: r).length ≤ 40) = false := decide_eq_false (by omega)
   refine wX ?_
   exact ret_b (by simp only [rcB, hdec]; simp)
theorem RIsIvar_r (s : List UInt8) (hs : s.length ≤ 200000000000000) : ∀ H, SpecH Tryz.prog 125 (pvs [.string (bs s)]) H (Ret (.bool (iiB s)) H) := by
 refine pureC hm Tryz.func125 (by kernel_rfl) rfl rfl ?_
 rw [iiB_eq]
 have hz := bs_size s
 refine wX ?_
 rw [hz]
 refine brd_dec (fun h1 => ?_) (fun h1 => ?_)
 ·match s, hs, hz, h1 with
  | [], _, _, h1 => exact absurd h1 (by decide)
  | [_], _, _, h1 => exact absurd h1 (by simp)
  | c :: d :: r, hs, hz, h1 =>
   have h64 : ((c.toNat : Int) == 64) = (c == 64) := u8_eq (n := 64) (by decide)
   have hl : (c :: d :: r).length = r.length + 2 := rfl
   have hd1 : decide (1 < (c :: d :: r).length) = true := by simp
   refine wX ?_
   rw [hz]
   refine brd_dec (fun h2 => ?_) (fun h2 => ?_)
   ·have hdec : decide ((c :: d :: r).length ≤ 40) = true := decide_eq_true (by omega)
    refine wX ?_
    try refine Nd.mk ⟨by omega, by rw [hz]; omega⟩ ?_
    refine wX ?_
    rw [show byteAt (bs (c :: d :: r)) (Int.toNat 0) = (c.toNat : Int) from byteAt_get (l := c :: d :: r) (i := 0) rfl, h64]
    cases e64 : c == 64 with
    | false =>
     refine wX ?_
     exact ret_b (by simp only [riB, hd, List.headD_cons, e64]; simp)
    | true =>
     refine wX ?_
     try refine Nd.mk ⟨by omega, by rw [hz]; omega⟩ ?_
     refine wX ?_
     rw [show byteAt (bs (c :: d :: r)) (Int.toNat 1) = (d.toNat : Int) from byteAt_get (l := c :: d :: r) (i := 1) rfl]
     refine callQ (sml_r d _) ?_
     have hp1 : pk (c :: d :: r) 1 = d := rfl
     cases hs2 : sml d with
     | false =>
      refine wX ?_
      exact ret_b (by simp only [riB, hp1, hs2]; simp)
     | true =>
      refine wX ?_
      refine callQ (wordAt_r (c :: d :: r) 1 hs (by omega) _) ?_
      refine wX ?_
      refine ReadW.sl_l 1 rfl Tryz.underlying9 rfl rfl ⟨rfl, by omega⟩ ?_
      refine wX ?_
      refine ret_b ?_
      simp only [riB, hd1, hdec, hd, List.headD_cons, e64, hp1, hs2]
      exact Iff.rfl
   ·have hdec : decide ((c :: d :: r).length ≤ 40) = false := decide_eq_false (by omega)
    refine wX ?_
    exact ret_b (by simp only [riB, hdec]; simp)
 ·have hdec : decide (1 < s.length) = false := decide_eq_false (by omega)
  refine wX ?_
  exact ret_b (by simp only [riB, hdec]; simp)
end Go.Proofs.YtgogonnnojcioaaGreatDoor
namespace Go.AX
theorem ownCJ {P : Program} (hm : P.follows .mixedOrders = true) {f : FuncId} {fn : Func} {c : Code} (hf : P.funcs[f]? = some fn) (hn : (fn.name == "runtime.NumGoroutine") = false) (hb : fn.body = some c)
  {args : List AV} {H : List Ent} (hl : Nat.ble args.length fn.ntmps = true) {ι : Type} {inv : ι → Prop} {val : ι → Value} {G : ι → List Ent} (hok : ∀ i, inv i → okH (G i).length (G i)) (hl2 : ∀ i, inv i → H.length ≤ (G i).length)
  (h : initK fn.ntmps args fun s => execJ P c s H (endK P fn.results.toList fun out H' => ∃ i, inv i ∧ out = .val (.c (.v (val i))) ∧ wkH H' (G i))) : SpecH P f args H (RetG inv val G) :=
 SpecH.wkG hok hl2 (specJ_of_exec hm hf hn hb hl h)
end Go.AX
namespace Go.Proofs.YtgogonnnojcioaaGreatDoor
open Go.AX Go.RowKit Go.Core Go.Marshal
set_option maxRecDepth 20000
def ownS (l : List (List UInt8)) (a : Option Addr) (cap : Nat) : Ent := .app 9 1 (strC l) a l.length cap
theorem class_dead {st : PS} (h : st.e ≠ 0) : (classM st).2 = st := by
 unfold classM
 simp only
 rw [next_dead h]
 have h1 : (symM 0 st).2 = st := sym_dead h
 rw [h1, if_neg (by simp [h])]
theorem name_dead {ns : List (List UInt8)} {st : PS} (h : st.e ≠ 0) : (nameM ns st).2 = st := by
 unfold nameM
 simp only
 rw [next_dead h]
 have h1 : (symM 0 st).2 = st := sym_dead h
 rw [h1, if_neg (by simp [h])]
theorem fuel_keep {n : Nat} {a b : PS} (h : a.s.length < n ∨ a.e ≠ 0) (hl : Le 0 a b) (hd : a.e ≠ 0 → b = a) : b.s.length < n ∨ b.e ≠ 0 := by
 rcases h with h | h
 ·exact .inl (Nat.lt_of_le_of_lt hl.s h)
 ·rw [hd h]; exact .inr h
theorem cell_dead_e {n : Nat} {st : PS} (h : st.e ≠ 0) : (cellM n st).2.e ≠ 0 := by
 cases n with
 | zero => show (failM st 99).e ≠ 0; rw [fail_dead h]; exact h
 | succ n => rw [cell_dead n h]; exact h
structure ObP where
 p : RdP
 na : Option Addr
 nc : Nat
 ia : Option Addr
 ic : Nat
theorem check1 (q : CellP) (cb : Nat) (hq : CellOk q) (hn : q.c.names.length ≤ 2000 ∧ q.c.items.length ≤ 2000) (b : Bool) (hb : b = true ↔ ValidP [q.c]) :
  ∀ H, (∀ w, Facts H w → SlAt (some ⟨cb, 0, none⟩) 5 (cellC q) w ∧ CellF q w) → SpecH Tryz.prog 65 (pvs [.slice (some ⟨cb, 0, none⟩) 1 1]) H (Ret (errI b) H) := by
 intro H hH
 obtain ⟨b2, hb2, h⟩ := Check_c (some ⟨cb, 0, none⟩) 1 [q] (fun h => by cases h) ⟨by simp, fun p hp => by obtain rfl := List.mem_singleton.1 hp; exact hn⟩ (fun p hp => by obtain rfl := List.mem_singleton.1 hp; exact hq) H (fun w hw => ⟨by have := (hH w hw).1; simpa [grC] using this, fun p hp => by obtain rfl := List.mem_singleton.1 hp; exact (hH w hw).2⟩)
 have e : b2 = b := by
  rw [Bool.eq_iff_iff, hb, hb2]
  rfl
 rw [← e]
 exact h
theorem slAt_nil (w : World) : SlAt none 0 [] w := ⟨rfl, fun h => absurd h (Nat.lt_irrefl 0), fun j h => absurd h (Nat.not_lt_zero j)⟩
set_option maxHeartbeats 4000000 in
theorem object_rd (n : Nat) (hc : CellC n) (rb : Nat) (st : PS) (p : RdP) (ok : RdOk st p) (bd : Bd st) (hn : st.s.length < n ∨ st.e ≠ 0) : SpecH Tryz.prog 107 [.c (.v (.pointer (some ⟨rb, 0, none⟩)))] (rdE rb st p ++ [.app 9 1 [] none 0 0, .app 3 1 [] none 0 0]) (RetG (ι := ObP) (fun i => RdOk (objM (cellM n) st).2 i.p ∧ CellOk ⟨(objM (cellM n) st).1, i.na, i.nc, i.ia, i.ic⟩) (fun i => cellV ⟨(objM (cellM n) st).1, i.na, i.nc, i.ia, i.ic⟩) fun i => rdE rb (objM (cellM n) st).2 i.p ++ [ownS (objM (cellM n) st).1.names i.na i.nc, ownI (objM (cellM n) st).1.items i.ia i.ic]) := by
 refine ownCJ hm Tryz.func107 (by kernel_rfl) rfl rfl (fun _ _ => okHB_eq rfl) (fun _ _ => Nat.le_of_ble_eq_true rfl) ?_
 have htk := cell_takes n
 have hA : ∀ k ns l st', attrsM (cellM n) (k + 1) ns l st' = if st'.e = 0 then attrsM (cellM n) k (ns ++ [(nameM ns st').1]) (l ++ [(cellM n (nameM ns st').2).1]) (cellM n (nameM ns st').2).2 else ((ns, l), st') := fun k ns l st' => by conv => lhs; unfold attrsM
 have b1 := bd.le (next_le st)
 have ok1 := ok.same (next_keep st)
 have bn := bd.le (class_le st)
 have hnc := fuel_keep hn (class_le st) class_dead
 obtain ⟨R, hR⟩ : ∃ R, objM (cellM n) st = R := ⟨_, rfl⟩
 rw [hR]
 unfold objM at hR
 obtain ⟨R2, hR2⟩ : ∃ R2, attrsM (cellM n) (numM maxN (classM st).2).1 [] [] (numM maxN (classM st).2).2 = R2 := ⟨_, rfl⟩
 rw [hR2] at hR
 have hcl : classM st = ((symM (nextM st).1 (nextM st).2).1, if (symM (nextM st).1 (nextM st).2).2.e = 0 ∧ Go.Scan.icB (symM (nextM st).1 (nextM st).2).1 = false then failM (symM (nextM st).1 (nextM st).2).2 4 else (symM (nextM st).1 (nextM st).2).2) := rfl
 have hb2 := bd.le (nextsym_le st)
 have hsym := symbol_rd rb (nextM st).1 (nextM st).2 p ok1 (by have := b1.pot; omega)
 have oks := fun i hi => ok1.sym (by have := b1.pot; omega) (nextM st).1 (i := i) hi
 have tl := symM_len (nextM st).1 (nextM st).2 (by have := b1.pot; omega) ok1.sw
 have hnx := next_m rb st p
 generalize classM st = cs at hcl bn hnc hR hR2 ⊢
 generalize nextM st = qx at hcl hb2 hsym oks tl hnx ⊢
 obtain ⟨x, s1⟩ := qx
 simp only at hcl hb2 hsym oks tl hnx
 refine SeqN.plain ?_
 refine wXK ?_
 refine BoxN.own ?_
 refine wXK ?_
 refine SeqN.plain ?_
 refine wXK ?_
 refine callG (hnx) [0, 1, 2, 3, 4] rfl ⟨rfl, rfl, rfl, rfl, rfl, trivial⟩ rfl fun _ _ => ?_
 refine wXR ?_
 refine callG hsym [0, 1, 2, 3, 4] rfl ⟨rfl, rfl, rfl, rfl, rfl, trivial⟩ rfl fun i2 hi2 => ?_
 have ok2 := oks i2 hi2
 generalize symM x s1 = qs at hcl hb2 ok2 tl ⊢
 obtain ⟨t, s2⟩ := qs
 simp only at hcl hb2 ok2 tl
 obtain ⟨p2, hp2⟩ : ∃ p2 : RdP, p2 = { p with sa := i2.1, sc := i2.2 } := ⟨_, rfl⟩
 rw [← hp2] at ok2 ⊢
 obtain ⟨t0, s3⟩ := cs
 simp only at hR hR2 bn hnc
 obtain ⟨rfl, h3⟩ : t0 = t ∧ s3 = if s2.e = 0 ∧ Go.Scan.icB t = false then failM s2 4 else s2 := ⟨congrArg Prod.fst hcl, congrArg Prod.snd hcl⟩
 clear hcl
 have ok3 : RdOk s3 p2 := by
  rw [h3]
  split
  ·exact ok2.same (fail_ss s2 4)
  ·exact ok2
 refine wXK ?_
 refine BoxN.known (cellC ⟨⟨0, 0, [], [], []⟩, none, 0, none, 0⟩) rfl fun kb => ?_
 refine wXK ?_
 refine EffW.appTo (i := 8) (q := 0) (ys := cellC ⟨⟨8, 0, t0, [], []⟩, none, 0, none, 0⟩) (cellC ⟨⟨8, 0, t0, [], []⟩, none, 0, none, 0⟩) 5 rfl rfl rfl rfl rfl rfl rfl (Nat.le_of_ble_eq_true rfl) rfl rfl ?_
 refine wXR ?_
 refine SeqN.join Unit (fun _ => True) (fun _ => mkS Tryz.f107.ntmps 0 [(0, .c (.v (.pointer (some ⟨rb, 0, none⟩)))), (2, .c (.lp 7 0)), (3, .c (.v (.pointer (some ⟨kb, 0, none⟩))))])
  (fun _ => rdE rb s3 p2 ++ [ownS [] none 0, ownI [] none 0, .blk 57 [.v (.int .i64 0), .v (.int .i64 0), .v (.string ⟨#[]⟩), .v (.slice none 0 0), .v (.slice none 0 0)], .app 57 5 (cellC ⟨⟨8, 0, t0, [], []⟩, none, 0, none, 0⟩) (some ⟨kb, 0, none⟩) 1 1]) (fun _ _ => Nat.le_of_ble_eq_true rfl) (fun _ _ => rfl) (fun _ _ => okHB_eq rfl) ?_ ?_
 ·refine SeqN.plain ?_
  refine wXR ?_
  refine LdN.one (a := some ⟨rb, 0, none⟩) (q := 4) (.int .i64 s2.e) rfl (fun w hw => hw.1) rfl ?_
  refine wXR ?_
  by_cases he : s2.e = 0
  ·rw [show (s2.e == 0) = true by rw [he]; rfl]
   refine wXR ?_
   refine LdN.agg (a := some ⟨kb, 0, none⟩) (q := 0) (cellC ⟨⟨8, 0, t0, [], []⟩, none, 0, none, 0⟩) rfl (fun w hw => hw.2.2.2.2.2.2.2.1) rfl (fun j _ => by rw [Nat.zero_add]) ?_
   refine wXR ?_
   refine RwN.known (cellC ⟨⟨8, 0, t0, [], []⟩, none, 0, none, 0⟩) rfl fun cb => ?_
   refine wXR ?_
   have hF := fun (w : World) (h : SlAt (some ⟨cb, 0, none⟩) 5 (cellC ⟨⟨8, 0, t0, [], []⟩, none, 0, none, 0⟩) w) => (show SlAt (some ⟨cb, 0, none⟩) 5 (cellC ⟨⟨8, 0, t0, [], []⟩, none, 0, none, 0⟩) w ∧ CellF ⟨⟨8, 0, t0, [], []⟩, none, 0, none, 0⟩ w from ⟨h, slAt_nil w, slAt_nil w⟩)
   have hck := check1 ⟨⟨8, 0, t0, [], []⟩, none, 0, none, 0⟩ cb ⟨fun _ => rfl, fun _ => rfl, Nat.zero_le _, Nat.zero_le _, (fun s hs => by cases hs), by show t0.length ≤ _; omega, Nat.le_refl _, Nat.le_refl _⟩ ⟨Nat.zero_le _, Nat.zero_le _⟩ (Go.Scan.icB t0) (valid_class t0).symm
   cases hic : Go.Scan.icB t0 with
   | true =>
    rw [hic] at hck h3
    rw [if_neg (fun h => by cases h.2)] at h3
    subst h3
    refine call1 (hck _ (fun w hw => hF w hw.2.2.2.2.2.2.2.2.1)) ?_
    refine wXR ?_
    exact ⟨(), trivial, by (repeat' (first | exact trivial | refine And.intro (by with_reducible rfl) ?_ | (with_reducible exact wkC_refl _) | (with_reducible exact wkCs_refl _) | refine And.intro ?_ ?_)), wHH⟩
   | false =>
    rw [hic] at hck h3
    rw [if_pos ⟨he, rfl⟩] at h3
    subst h3
    refine call1 (hck _ (fun w hw => hF w hw.2.2.2.2.2.2.2.2.1)) ?_
    refine wXR ?_
    refine callG (fail_m rb s2 p2 4) [0, 1, 2, 3, 4] rfl ⟨rfl, rfl, rfl, rfl, rfl, trivial⟩ rfl fun _ _ => ?_
    refine wXR ?_
    exact ⟨(), trivial, by (repeat' (first | exact trivial | refine And.intro (by with_reducible rfl) ?_ | (with_reducible exact wkC_refl _) | (with_reducible exact wkCs_refl _) | refine And.intro ?_ ?_)), wHH⟩
  ·rw [show (s2.e == 0) = false by simpa using he]
   rw [if_neg (fun h => he h.1)] at h3
   subst h3
   refine wXR ?_
   exact ⟨(), trivial, by (repeat' (first | exact trivial | refine And.intro (by with_reducible rfl) ?_ | (with_reducible exact wkC_refl _) | (with_reducible exact wkCs_refl _) | refine And.intro ?_ ?_)), wHH⟩
 rintro ⟨⟩ -
 refine SeqN.plain ?_
 refine wXR ?_
 refine callG (number_m rb s3 p2 maxN (by decide)) [0, 1, 2, 3, 4] rfl ⟨rfl, rfl, rfl, rfl, rfl, trivial⟩ rfl fun _ _ => ?_
 have bn4 := bn.le (num_le maxN s3)
 have ok4 := ok3.same (num_keep maxN s3)
 have hm4 := num_most maxN s3
 have hn4 := fuel_keep hnc (num_le maxN s3) (fun h => by rw [num_dead h])
 generalize numM maxN s3 = qn at hR2 bn4 ok4 hm4 hn4 ⊢
 obtain ⟨m, s4⟩ := qn
 simp only at hR2 bn4 ok4 hm4 hn4
 have hm5 : m ≤ 1000000000000000 := hm4
 refine wXR ?_
 refine SeqN.plain ?_
 refine SeqN.plain ?_
 refine wXR ?_
 refine LoopN.intro (Nat × List (List UInt8) × List Int × PS × ObP) (fun ⟨i, ns, l, st, q⟩ => attrsM (cellM n) (m - i) ns l st = R2 ∧ i ≤ m ∧ RdOk st q.p ∧ Bd st ∧ (st.s.length < n ∨ st.e ≠ 0) ∧ l.length + st.s.length + liv st ≤ 30001 ∧ ns.length = l.length ∧ (q.na = none → ns = []) ∧ (q.ia = none → l = []) ∧ ns.length ≤ q.nc ∧ l.length ≤ q.ic ∧ ∀ s ∈ ns, s.length ≤ 30000)
  (fun ⟨i, _, _, _, _⟩ => mkS Tryz.f107.ntmps 0 [(0, .c (.v (.pointer (some ⟨rb, 0, none⟩)))), (2, .c (.lp 7 0)), (3, .c (.v (.pointer (some ⟨kb, 0, none⟩)))), (4, .c (.v (.int .i64 (m : Int)))), (5, .c (.v (.int .i64 (i : Int))))])
  (fun ⟨_, ns, l, st, ⟨p, na, nc, ia, ic⟩⟩ => rdE rb st p ++ [ownS ns na nc, ownI l ia ic, .blk 57 [.v (.int .i64 0), .v (.int .i64 0), .v (.string ⟨#[]⟩), .v (.slice none 0 0), .v (.slice none 0 0)], .app 57 5 (cellC ⟨⟨8, 0, t0, ns, l⟩, na, nc, ia, ic⟩) (some ⟨kb, 0, none⟩) 1 1]) (fun ⟨_, _, _, st, _⟩ => if st.e = 0 then st.s.length + 1 else 0) [] rfl
  (fun _ => rfl) (fun _ => rfl) (fun _ _ => okHB_eq rfl) ⟨(0, [], [], s4, ⟨p2, none, 0, none, 0⟩), ⟨hR2, Nat.zero_le _, ok4, bn4, hn4, ?_, rfl, fun _ => rfl, fun _ => rfl, Nat.le_refl _, Nat.le_refl _, fun s hs => by cases hs⟩, ?_, ?_⟩ ?_
 ·have := bn4.pot
  unfold liv
  show 0 + s4.s.length + _ ≤ _
  split <;> omega
 ·exact wKK
 ·exact ⟨wkE_refl _, wkE_refl _, wkE_refl _, wkE_refl _, wkE_refl _, wkE_refl _, wkE_refl _, wkE_refl _, wkE_refl _, wHH⟩
 rintro ⟨i, ns, l, st5, ⟨p5, na, nc, ia, ic⟩⟩ ⟨h1, h2, h3, h4, h5, h6, h7, h8, h9, h10, h11, h12⟩
 simp only at h8 h9 h10 h11 h3
 refine SeqN.plain ?_
 refine SeqN.plain ?_
 refine wXR ?_
 by_cases hi : i < m
 ·rw [show decide ((i : Int) < (m : Int)) = true by simpa using hi]
  obtain ⟨k, hk⟩ : ∃ k, m - i = k + 1 := ⟨m - i - 1, by omega⟩
  rw [hk, hA] at h1
  refine wXR ?_
  refine LdN.one (a := some ⟨rb, 0, none⟩) (q := 4) (.int .i64 st5.e) rfl (fun w hw => hw.1) rfl ?_
  refine wXR ?_
  by_cases he5 : st5.e = 0
  ·rw [show (st5.e == 0) = true by rw [he5]; rfl]
   rw [if_pos he5] at h1
   refine wXR ?_
   refine SeqN.plain ?_
   refine SeqN.plain ?_
   refine wXR ?_
   refine callG (next_m rb st5 p5) [0, 1, 2, 3, 4] rfl ⟨rfl, rfl, rfl, rfl, rfl, trivial⟩ rfl fun _ _ => ?_
   have b5 := h4.le (next_le st5)
   have o5 := h3.same (next_keep st5)
   have l5 := name_le ns st5
   have d5 := fuel_keep h5 l5 name_dead
   have hnm : nameM ns st5 = ((symM (nextM st5).1 (nextM st5).2).1, if (symM (nextM st5).1 (nextM st5).2).2.e = 0 ∧ ((symM (nextM st5).1 (nextM st5).2).1 ∈ ns ∨ Go.Scan.iiB (symM (nextM st5).1 (nextM st5).2).1 = false) then failM (symM (nextM st5).1 (nextM st5).2).2 4 else (symM (nextM st5).1 (nextM st5).2).2) := rfl
   have hsy5 := symbol_rd rb (nextM st5).1 (nextM st5).2 p5 o5 (by have := b5.pot; omega)
   have os5 := fun i hi => o5.sym (by have := b5.pot; omega) (nextM st5).1 (i := i) hi
   have tl5 := symM_len (nextM st5).1 (nextM st5).2 (by have := b5.pot; omega) o5.sw
   generalize nameM ns st5 = qm at h1 hnm l5 d5
   generalize nextM st5 = qx at hnm hsy5 os5 tl5 ⊢
   obtain ⟨x5, s51⟩ := qx
   simp only at hnm hsy5 os5 tl5
   refine wXR ?_
   refine callG hsy5 [0, 1, 2, 3, 4] rfl ⟨rfl, rfl, rfl, rfl, rfl, trivial⟩ rfl fun i6 hi6 => ?_
   have ok6 := os5 i6 hi6
   generalize symM x5 s51 = qs at hnm ok6 tl5 ⊢
   obtain ⟨t6, s6⟩ := qs
   simp only at hnm ok6 tl5
   obtain ⟨p6, hp6⟩ : ∃ p6 : RdP, p6 = { p5 with sa := i6.1, sc := i6.2 } := ⟨_, rfl⟩
   rw [← hp6] at ok6 ⊢
   obtain ⟨t60, s8⟩ := qm
   simp only at h1 l5 d5
   obtain ⟨rfl, h8s⟩ : t60 = t6 ∧ s8 = if s6.e = 0 ∧ (t6 ∈ ns ∨ Go.Scan.iiB t6 = false) then failM s6 4 else s6 := ⟨congrArg Prod.fst hnm, congrArg Prod.snd hnm⟩
   clear hnm
   have ok7 : RdOk s8 p6 := by
    rw [h8s]
    split
    ·exact ok6.same (fail_ss s6 4)
    ·exact ok6
   have b7 := h4.le l5
   refine wXR ?_
   refine SeqN.plain ?_
   refine wXR ?_
   refine RwN.known [.string (bs t60)] rfl fun nb => ?_
   refine wXR ?_
   refine RwN.known [.int .i64 0] rfl fun zb => ?_
   refine wXR ?_
   refine RwN.known (cellC ⟨⟨8, 0, [65], [t60], [0]⟩, some ⟨nb, 0, none⟩, 1, some ⟨zb, 0, none⟩, 1⟩) rfl fun ob => ?_
   refine wXR ?_
   refine SeqN.join Unit (fun _ => True) (fun _ => mkS Tryz.f107.ntmps 0 [(0, .c (.v (.pointer (some ⟨rb, 0, none⟩)))), (2, .c (.lp 7 0)), (3, .c (.v (.pointer (some ⟨kb, 0, none⟩)))), (4, .c (.v (.int .i64 (m : Int)))), (5, .c (.v (.int .i64 (i : Int)))), (6, .c (.v (.string (bs t60))))])
    (fun _ => rdE rb s8 p6 ++ [ownS ns na nc, ownI l ia ic, .blk 57 [.v (.int .i64 0), .v (.int .i64 0), .v (.string ⟨#[]⟩), .v (.slice none 0 0), .v (.slice none 0 0)], .app 57 5 (cellC ⟨⟨8, 0, t0, ns, l⟩, na, nc, ia, ic⟩) (some ⟨kb, 0, none⟩) 1 1, .dead, .dead, .dead]) (fun _ _ => Nat.le_of_ble_eq_true rfl) (fun _ _ => rfl) (fun _ _ => okHB_eq rfl) ?_ ?_
   ·refine SeqN.plain ?_
    refine wXR ?_
    refine LdN.one (a := some ⟨rb, 0, none⟩) (q := 4) (.int .i64 s6.e) rfl (fun w hw => hw.1) rfl ?_
    refine wXR ?_
    have hqo : CellOk ⟨⟨8, 0, [65], [t60], [0]⟩, some ⟨nb, 0, none⟩, 1, some ⟨zb, 0, none⟩, 1⟩ := ⟨(fun h => by cases h), (fun h => by cases h), by show 1 ≤ _; omega, by show 1 ≤ _; omega, fun s hs => by obtain rfl := List.mem_singleton.1 hs; omega, by show 1 ≤ _; omega, Nat.le_refl _, Nat.le_refl _⟩
    have hck := check1 ⟨⟨8, 0, [65], [t60], [0]⟩, some ⟨nb, 0, none⟩, 1, some ⟨zb, 0, none⟩, 1⟩ ob hqo ⟨by show 1 ≤ _; omega, by show 1 ≤ _; omega⟩ (Go.Scan.iiB t60) (valid_name t60).symm
    have hll : l.length ≤ 30001 := by omega
    by_cases he6 : s6.e = 0
    ·rw [show (s6.e == 0) = true by rw [he6]; rfl]
     refine wXR ?_
     refine LdN.one (a := some ⟨kb, 0, none⟩) (q := 3) (.slice na ns.length nc) rfl (fun w hw => hw.2.2.2.2.2.2.2.1) rfl ?_
     refine wXR ?_
     refine call1 (Contains_m na ns nc t60 h8 (by omega) _ (fun w hw => hw.2.2.2.2.2.1)) ?_
     by_cases hmem : t60 ∈ ns
     ·rw [show decide (t60 ∈ ns) = true by simpa using hmem]
      rw [if_pos ⟨he6, .inl hmem⟩] at h8s
      subst h8s
      refine wXR ?_
      refine callG (fail_m rb s6 p6 4) [0, 1, 2, 3, 4] rfl ⟨rfl, rfl, rfl, rfl, rfl, trivial⟩ rfl fun _ _ => ?_
      refine wXR ?_
      exact ⟨(), trivial, by (repeat' (first | exact trivial | refine And.intro (by with_reducible rfl) ?_ | (with_reducible exact wkC_refl _) | (with_reducible exact wkCs_refl _) | refine And.intro ?_ ?_)), wHH⟩
     ·rw [show decide (t60 ∈ ns) = false by simpa using hmem]
      refine wXR ?_
      cases hii : Go.Scan.iiB t60 with
      | true =>
       rw [hii] at hck h8s
       rw [if_neg (fun h => h.2.elim hmem (fun h => by cases h))] at h8s
       subst h8s
       refine call1 (hck _ (fun w hw => ⟨hw.2.2.2.2.2.2.2.2.2.2.1, hw.2.2.2.2.2.2.2.2.1, hw.2.2.2.2.2.2.2.2.2.1⟩)) ?_
       refine wXR ?_
       exact ⟨(), trivial, by (repeat' (first | exact trivial | refine And.intro (by with_reducible rfl) ?_ | (with_reducible exact wkC_refl _) | (with_reducible exact wkCs_refl _) | refine And.intro ?_ ?_)), wHH⟩
      | false =>
       rw [hii] at hck h8s
       rw [if_pos ⟨he6, .inr rfl⟩] at h8s
       subst h8s
       refine call1 (hck _ (fun w hw => ⟨hw.2.2.2.2.2.2.2.2.2.2.1, hw.2.2.2.2.2.2.2.2.1, hw.2.2.2.2.2.2.2.2.2.1⟩)) ?_
       refine wXR ?_
       refine callG (fail_m rb s6 p6 4) [0, 1, 2, 3, 4] rfl ⟨rfl, rfl, rfl, rfl, rfl, trivial⟩ rfl fun _ _ => ?_
       refine wXR ?_
       exact ⟨(), trivial, by (repeat' (first | exact trivial | refine And.intro (by with_reducible rfl) ?_ | (with_reducible exact wkC_refl _) | (with_reducible exact wkCs_refl _) | refine And.intro ?_ ?_)), wHH⟩
    ·rw [show (s6.e == 0) = false by simpa using he6]
     rw [if_neg (fun h => he6 h.1)] at h8s
     subst h8s
     refine wXR ?_
     exact ⟨(), trivial, by (repeat' (first | exact trivial | refine And.intro (by with_reducible rfl) ?_ | (with_reducible exact wkC_refl _) | (with_reducible exact wkCs_refl _) | refine And.intro ?_ ?_)), wHH⟩
   rintro ⟨⟩ -
   have hll : l.length ≤ 30001 := by omega
   refine SeqN.plain ?_
   refine wX ?_
   refine LdN.one (a := some ⟨kb, 0, none⟩) (q := 3) (.slice na ns.length nc) rfl (fun w hw => hw.2.2.2.2.2.2.2.1) rfl ?_
   refine wX ?_
   refine Nd.mk ⟨Nat.le_refl 1, rfl, rfl⟩ ?_
   (conv => whnf)
   refine AppN.grow 5 (strC ns) [.string (bs t60)] rfl rfl ⟨Nat.le_refl 1, ⟨by show (ns.length + 1) * 16 ≤ _; omega, by omega⟩, by decide⟩ fun nb' nc' g1 g2 => ?_
   refine wX ?_
   refine EffW.appTo (i := 8) (q := 3) (ys := [_]) (cellC ⟨⟨8, 0, t0, ns ++ [t60], l⟩, some ⟨nb', 0, none⟩, nc', ia, ic⟩) 5 rfl rfl rfl rfl rfl rfl rfl (Nat.le_of_ble_eq_true rfl) (by simp [cellC]) rfl ?_
   refine wXD ?_
   refine DrawN.planC (fun w => SlAt (some ⟨kb, 0, none⟩) 5 (cellC ⟨⟨8, 0, t0, ns ++ [t60], l⟩, some ⟨nb', 0, none⟩, nc', ia, ic⟩) w) [0, 2] [(1, 1), (3, 0), (4, 0), (5, 0), (6, 2)] [(7, 0)] (by decide +kernel) (fun w hw => hw.2.2.2.2.2.2.2.1) ?_
   refine wXO ?_
   refine ReadC.one (a := some ⟨kb, 0, none⟩) (q := 4) (.slice ia l.length ic) rfl rfl rfl (fun w hw => hw) rfl ?_
   refine wXO ?_
   refine callG (hc rb s8 p6 ok7 b7 d5) [0, 1, 2, 3, 4] rfl ⟨rfl, rfl, rfl, rfl, rfl, trivial⟩ rfl fun p7 hp7 => ?_
   have hle := htk.le s8
   have hlt := htk.lt s8
   have hdd := cell_dead_e (n := n) (st := s8)
   generalize cellM n s8 = r at h1 hp7 hle hlt hdd ⊢
   obtain ⟨z, s7⟩ := r
   simp only at h1 hp7 hle hlt hdd
   refine wXO ?_
   refine Nd.mk ⟨Nat.le_refl 1, rfl, rfl⟩ ?_
   (conv => whnf)
   refine AppN.grow 6 (iC l) [.int .i64 z] rfl rfl ⟨Nat.le_refl 1, ⟨by show (l.length + 1) * 8 ≤ _; omega, by omega⟩, by decide⟩ fun ib' ic' g3 g4 => ?_
   refine wXO ?_
   have e1 : iC l ++ [.int .i64 z] = iC (l ++ [z]) := by simp [iC]
   have e2 : l.length + 1 = (l ++ [z]).length := by simp
   have e3 : strC ns ++ [.string (bs t60)] = strC (ns ++ [t60]) := by simp [strC]
   have e4 : ns.length + 1 = (ns ++ [t60]).length := by simp
   refine EffW.appTo (i := 8) (q := 4) (ys := [_]) (cellC ⟨⟨8, 0, t0, ns ++ [t60], l ++ [z]⟩, some ⟨nb', 0, none⟩, nc', some ⟨ib', 0, none⟩, ic'⟩) 5 rfl rfl rfl rfl rfl rfl rfl (Nat.le_of_ble_eq_true rfl) (by simp [cellC]) rfl ?_
   refine wXO ?_
   refine wXR ?_
   rw [e1, e2, e3, e4]
   refine ⟨(i + 1, ns ++ [t60], l ++ [z], s7, ⟨p7, some ⟨nb', 0, none⟩, nc', some ⟨ib', 0, none⟩, ic'⟩), ⟨by rw [← h1, show m - (i + 1) = k by omega], by show i + 1 ≤ m; omega, hp7, b7.le hle, ?_, ?_, by simp; omega, (fun h => by cases h), (fun h => by cases h), by rw [← e4]; exact g1, by rw [← e2]; exact g3, ?_⟩, ?_, ?_, ?_⟩
   ·rcases d5 with h | h
    ·exact .inl (Nat.lt_of_le_of_lt hle.s h)
    ·exact .inr (hdd h)
   ·rw [List.length_append, List.length_singleton]
    have hs := hle.s
    have hs5 := l5.s
    unfold liv at h6 ⊢
    rw [if_pos he5] at h6
    split
    ·rename_i h9
     have := hlt h9
     omega
    ·omega
   ·intro y hy
    rcases List.mem_append.1 hy with h | h
    ·exact h12 y h
    ·rw [List.mem_singleton.1 h]; exact tl5
   ·show (if s7.e = 0 then s7.s.length + 1 else 0) < if st5.e = 0 then st5.s.length + 1 else 0
    rw [if_pos he5]
    have hs5 := l5.s
    split
    ·rename_i h9
     have := hlt h9
     omega
    ·omega
   ·exact wKK
   ·exact ⟨wkE_refl _, wkE_refl _, wkE_refl _, wkE_refl _, wkE_refl _, wkE_refl _, wkE_refl _, wkE_refl _, wkE_refl _, wHH⟩
  ·rw [show (st5.e == 0) = false by simpa using he5]
   rw [if_neg he5] at h1
   subst h1
   subst hR
   refine wXR ?_
   refine SeqN.plain ?_
   refine wXR ?_
   refine LdN.agg (a := some ⟨kb, 0, none⟩) (q := 0) (cellC ⟨⟨8, 0, t0, ns, l⟩, na, nc, ia, ic⟩) rfl (fun w hw => hw.2.2.2.2.2.2.2.1) rfl (fun j _ => by rw [Nat.zero_add]) ?_
   refine wXR ?_
   exact ⟨⟨p5, na, nc, ia, ic⟩, ⟨h3, ⟨h8, h9, by show ns.length ≤ _; omega, by show l.length ≤ _; omega, fun s hs => Nat.le_trans (h12 s hs) (by omega), by show t0.length ≤ _; omega, h10, h11⟩⟩, rfl, wkE_refl _, wkE_refl _, wkE_refl _, wkE_refl _, wkE_refl _, wkE_refl _, wkE_refl _, wkH_nil _⟩
 ·rw [show decide ((i : Int) < (m : Int)) = false by simpa using hi]
  rw [show m - i = 0 by omega] at h1
  have h1 : ((ns, l), st5) = R2 := h1
  subst h1
  subst hR
  refine wXR ?_
  refine SeqN.plain ?_
  refine wXR ?_
  refine LdN.agg (a := some ⟨kb, 0, none⟩) (q := 0) (cellC ⟨⟨8, 0, t0, ns, l⟩, na, nc, ia, ic⟩) rfl (fun w hw => hw.2.2.2.2.2.2.2.1) rfl (fun j _ => by rw [Nat.zero_add]) ?_
  refine wXR ?_
  exact ⟨⟨p5, na, nc, ia, ic⟩, ⟨h3, ⟨h8, h9, by show ns.length ≤ _; omega, by show l.length ≤ _; omega, fun s hs => Nat.le_trans (h12 s hs) (by omega), by show t0.length ≤ _; omega, h10, h11⟩⟩, rfl, wkE_refl _, wkE_refl _, wkE_refl _, wkE_refl _, wkE_refl _, wkE_refl _, wkE_refl _, wkH_nil _⟩
def obP (t : List UInt8) (ns : List (List UInt8)) (l : List Int) (na : Option Addr) (nc : Nat) (ia : Option Addr) (ic : Nat) : CellP := ⟨⟨8, 0, t, ns, l⟩, na, nc, ia, ic⟩
structure ObD where
 t : List UInt8
 ns : List (List UInt8)
 l : List Int
 st : PS
 p : RdP
 nm : List CellP
 na : Option Addr
 nc : Nat
 ia : Option Addr
 ic : Nat
def ObD.c (i : ObD) : CellP := obP i.t i.ns i.l i.na i.nc i.ia i.ic
structure ObInv (S : List UInt8) (st : PS) (pre : List CellP) (i : ObD) : Prop where
 ok : OkD i.st i.p
 m : i.p.m = pre ++ i.c :: i.nm
 cell : ∀ q ∈ i.nm, CellOk q
 left : Left S i.st
 le : Le 0 st i.st
 ll : i.l.length + i.st.s.length + liv i.st ≤ 30001
 nl : i.ns.length = i.l.length
 na : i.na = none → i.ns = []
 ia : i.ia = none → i.l = []
 nb : i.ns.length ≤ i.nc
 ib : i.l.length ≤ i.ic
 nw : ∀ s ∈ i.ns, s.length ≤ 30000
 tl : i.t.length ≤ 30000
def ownO (i : ObD) : List Ent := [ownS i.ns i.na i.nc, ownI i.l i.ia i.ic]
def RestA (f : St → Except Int (Int × St)) (k : Nat) (R : Except Int (Unit × St)) (m : Nat) (st : PS) : Prop := (st.e = 0 → attrsD f k m (toS st) = R) ∧ (st.e ≠ 0 → R = .error st.e)
theorem RestA.tel {f : St → Except Int (Int × St)} {k : Nat} {R : Except Int (Unit × St)} {m : Nat} {st : PS} (h : RestA f k R m st) (hm : st.e = 0 → m = 0) : Tel R () st := by
 by_cases h0 : st.e = 0
 ·have h1 := h.1 h0
  rw [hm h0] at h1
  rw [← h1]
  exact Tel.ok h0
 ·rw [h.2 h0]
  exact ⟨rfl, h0⟩
theorem grC_fld : ∀ {m : List CellP} {j f : Nat} {p q : CellP} {v : Value}, f < 5 → m[j]? = some p → (cellC p).set f v = cellC q → (grC m).set (j * 5 + f) v = grC (m.set j q)
 | [], _, _, _, _, _, _, h, _ => by cases h
 | p0 :: m, 0, f, p, q, v, hf, h, e => by
  obtain rfl : p0 = p := Option.some.inj h
  have e1 : grC (p0 :: m) = cellC p0 ++ grC m := by simp [grC]
  have e2 : grC (q :: m) = cellC q ++ grC m := by simp [grC]
  rw [List.set_cons_zero, e1, e2, ← e, List.set_append_left _ _ (by show 0 * 5 + f < 5; omega), show 0 * 5 + f = f by omega]
 | p0 :: m, j + 1, f, p, q, v, hf, h, e => by
  have ih := grC_fld (m := m) (j := j) hf (by simpa using h) e
  have e1 : grC (p0 :: m) = cellC p0 ++ grC m := by simp [grC]
  have e2 : grC (p0 :: m.set j q) = cellC p0 ++ grC (m.set j q) := by simp [grC]
  have l5 : (cellC p0).length = 5 := rfl
  rw [List.set_cons_succ, e1, e2, ← ih, List.set_append_right _ _ (by rw [l5]; omega), l5, show (j + 1) * 5 + f - 5 = j * 5 + f by omega]
def RestN (f : St → Except Int (Int × St)) (k : Nat) (R : Except Int (Unit × St)) (st : PS) : Prop := (st.e = 0 → (Marshal.bnd (numS maxN (toS st)) fun n s => attrsD f k n s) = R) ∧ (st.e ≠ 0 → R = .error st.e)
theorem RestN.num {f : St → Except Int (Int × St)} {k : Nat} {R : Except Int (Unit × St)} {st : PS} (h : RestN f k R st) : RestA f k R (numM maxN st).1 (numM maxN st).2 := by
 by_cases h0 : st.e = 0
 ·have htel := (Ref.num maxN).tel h0
  have h1 := h.1 h0
  refine ⟨fun h2 => ?_, fun h2 => ?_⟩
  ·rw [htel.live h2] at h1
   exact h1
  ·rw [htel.dead h2] at h1
   exact h1.symm
 ·rw [num_dead h0]
  exact ⟨fun h2 => absurd h2 h0, h.2⟩
theorem cls_rest {f : St → Except Int (Int × St)} {k : Nat} {R : Except Int (Unit × St)} {x : UInt8} {t : List UInt8} {s1 s2 s3 : PS} (hR : (Marshal.bnd (symS x (toS s1)) fun t st => if Go.Scan.icB t = true then Marshal.bnd (numS maxN (setT k t st)) fun n st => attrsD f k n st else .error 4) = R) (tel : Tel (symS x (toS s1)) t s2)
  (h3 : s3 = if s2.e = 0 ∧ Go.Scan.icB t = false then failM s2 4 else s2) (hg : s2.g.getD k nilC = ⟨8, 0, [], [], []⟩) : RestN f k R (putG k ⟨8, 0, t, [], []⟩ s3) := by
 by_cases h2 : s2.e = 0
 ·rw [tel.live h2] at hR
  have hR : (if Go.Scan.icB t = true then Marshal.bnd (numS maxN (setT k t (toS s2))) fun n st => attrsD f k n st else .error 4) = R := hR
  cases hic : Go.Scan.icB t with
  | true =>
   rw [if_pos hic] at hR
   rw [if_neg (fun h => by rw [hic] at h; cases h.2)] at h3
   subst h3
   refine ⟨fun _ => ?_, fun h => absurd h2 h⟩
   rw [← hR]
   have : setT k t (toS s3) = toS (putG k ⟨8, 0, t, [], []⟩ s3) := by
    unfold setT toS putG
    simp only [hg]
   rw [this]
  | false =>
   rw [if_neg (by rw [hic]; decide)] at hR
   rw [if_pos ⟨h2, hic⟩] at h3
   have h4 : s3.e = 4 := by rw [h3]; exact fail_e h2 4
   refine ⟨fun h => ?_, fun _ => ?_⟩
   ·have : s3.e = 0 := h
    rw [h4] at this
    exact absurd this (by decide)
   ·show R = .error s3.e
    rw [h4]
    exact hR.symm
 ·rw [tel.dead h2] at hR
  rw [if_neg (fun h => h2 h.1)] at h3
  subst h3
  exact ⟨fun h => absurd h h2, fun _ => hR.symm⟩
theorem attr_rest {f : St → Except Int (Int × St)} {k m : Nat} {R : Except Int (Unit × St)} {x : UInt8} {t : List UInt8} {ns : List (List UInt8)} {st s5 s6 s7 : PS} (he : st.e = 0) (hr : RestA f k R (m + 1) st) (tel5 : Tel (nextS (toS st)) x s5) (h5 : s5.e = 0) (tel6 : Tel (symS x (toS s5)) t s6) (hn : (s6.g.getD k nilC).names = ns)
  (h7 : s7 = if s6.e = 0 ∧ ¬ (Go.Scan.iiB t = true ∧ t ∉ ns) then failM s6 4 else s6) : (s7.e = 0 → s7 = s6 ∧ (Marshal.bnd (f (toS s6)) fun i st => attrsD f k m (putA k t i st)) = R) ∧ (s7.e ≠ 0 → R = .error s7.e) := by
 have hR := hr.1 he
 unfold attrsD at hR
 rw [tel5.live h5] at hR
 have hR : (Marshal.bnd (symS x (toS s5)) fun t st => if Go.Scan.iiB t = true ∧ t ∉ (st.g.getD k nilC).names then Marshal.bnd (f st) fun i st => attrsD f k m (putA k t i st) else .error 4) = R := hR
 by_cases h6 : s6.e = 0
 ·rw [tel6.live h6] at hR
  have hR : (if Go.Scan.iiB t = true ∧ t ∉ (s6.g.getD k nilC).names then Marshal.bnd (f (toS s6)) fun i st => attrsD f k m (putA k t i st) else .error 4) = R := hR
  rw [hn] at hR
  by_cases hc : Go.Scan.iiB t = true ∧ t ∉ ns
  ·rw [if_pos hc] at hR
   rw [if_neg (fun h => h.2 hc)] at h7
   exact ⟨fun _ => ⟨h7, hR⟩, fun h => absurd (by rw [h7]; exact h6) h⟩
  ·rw [if_neg hc] at hR
   rw [if_pos ⟨h6, hc⟩] at h7
   have h4 : s7.e = 4 := by rw [h7]; exact fail_e h6 4
   exact ⟨fun h => absurd (h4.symm.trans h) (by decide), fun _ => by rw [h4]; exact hR.symm⟩
 ·rw [tel6.dead h6] at hR
  rw [if_neg (fun h => h6 h.1)] at h7
  exact ⟨fun h => absurd (by rw [← h7]; exact h) h6, fun _ => by rw [h7]; exact hR.symm⟩
theorem attr_step {f : St → Except Int (Int × St)} {pre nm : List CellP} {q : CellP} {t : List UInt8} {R : Except Int (Unit × St)} {m : Nat} {s6 ds : PS} {dp : RdP} {dv : Int} (hR : (Marshal.bnd (f (toS s6)) fun i st => attrsD f pre.length m (putA pre.length t i st)) = R) (tel : Tel (f (toS s6)) dv ds) (ok : OkD ds dp) (hm : dp.m = pre ++ q :: nm) (c : Cell) (hc : c = { q.c with names := q.c.names ++ [t], items := q.c.items ++ [dv] }) :
  RestA f pre.length R m (putG pre.length c ds) := by
 refine ⟨fun h => ?_, fun h => ?_⟩
 ·have h0 : ds.e = 0 := h
  rw [tel.live h0] at hR
  have hR : attrsD f pre.length m (putA pre.length t dv (toS ds)) = R := hR
  rw [← hR]
  congr 1
  have hg := map_get ok.g (k := pre.length) (q := q) (by rw [hm]; exact pre_get _ _ _)
  unfold putA toS putG
  simp only [hg, hc]
 ·have h0 : ds.e ≠ 0 := h
  rw [tel.dead h0] at hR
  exact hR.symm
theorem ObInv.go {S : List UInt8} {st : PS} {pre : List CellP} {t : List UInt8} {ns : List (List UInt8)} {l : List Int} {s5 : PS} {p5 : RdP} {nm : List CellP} {na : Option Addr} {nc : Nat} {ia : Option Addr} {ic : Nat} (h : ObInv S st pre ⟨t, ns, l, s5, p5, nm, na, nc, ia, ic⟩) {s6 : PS} {p6 : RdP} (ok : OkD s6 p6) (hp : p6.m = p5.m) (hl : Left S s6) (le : Le 0 s5 s6) (hd : s5.e ≠ 0 → s6.e ≠ 0) : ObInv S st pre ⟨t, ns, l, s6, p6, nm, na, nc, ia, ic⟩ := by
 refine ⟨ok, hp.trans h.m, h.cell, hl, h.le.trans le, ?_, h.nl, h.na, h.ia, h.nb, h.ib, h.nw, h.tl⟩
 have h1 : l.length + s5.s.length + liv s5 ≤ 30001 := h.ll
 have h2 := le.s
 show l.length + s6.s.length + liv s6 ≤ 30001
 unfold liv at h1 ⊢
 by_cases h0 : s5.e = 0
 ·rw [if_pos h0] at h1
  split <;> omega
 ·rw [if_neg h0] at h1
  rw [if_neg (hd h0)]
  omega
theorem attr_stop {f : St → Except Int (Int × St)} {k m : Nat} {R : Except Int (Unit × St)} {x : UInt8} {st s5 : PS} (he : st.e = 0) (hr : RestA f k R (m + 1) st) (tel : Tel (nextS (toS st)) x s5) (h5 : s5.e ≠ 0) : Tel R () s5 := by
 have hR := hr.1 he
 unfold attrsD at hR
 rw [tel.dead h5] at hR
 rw [← hR]
 exact ⟨rfl, h5⟩
set_option maxHeartbeats 4000000 in
theorem object_d (n : Nat) (hc : FormC n) (rb : Nat) (S : List UInt8) (hS : S.length ≤ 20000) (st : PS) (p : RdP) (pre : List CellP) (ok : OkD st p) (hm2 : p.m = pre ++ [obP [] [] [] none 0 none 0]) (bd : Bd (cellsP st (pre.length : Int))) (hl : Left S st) (h0 : st.e = 0) (hn : st.s.length < n) (nm0 : List CellP) :
  SpecH Tryz.prog 102 [.c (.v (.pointer (some ⟨rb, 0, none⟩))), .c (.v (.int .i64 (pre.length : Int)))] (dE rb S st p nm0 ++ [ownS [] none 0, ownI [] none 0])
   (RetG (ι := ObD) (fun i => ObInv S (cellsP st (pre.length : Int)) pre i ∧ Tel (objD (formD n) pre.length (toS (cellsP st (pre.length : Int)))) () i.st) (fun _ => .tuple #[]) (fun i => dE rb S i.st i.p (nm0 ++ i.nm) ++ ownO i)) := by
 refine ownCJ hm Tryz.func102 (by kernel_rfl) rfl rfl (fun _ _ => okHB_eq rfl) (fun _ _ => Nat.le_of_ble_eq_true rfl) ?_
 have hpl : p.m.length = pre.length + 1 := by rw [hm2]; simp
 have hbg := bd.g
 have hbc := bd.cl
 have hbp := bd.pot
 have hbc2 : st.cells.length + 1 ≤ st.g.length := by simpa [cellsP] using hbc
 have hbg2 : st.g.length ≤ 500 := hbg
 refine SeqN.plain ?_
 refine wX ?_
 refine LdN.one (a := some ⟨rb, 0, none⟩) (q := 3) (.slice p.ca st.cells.length p.cc) rfl (fun w hw => hw.1) rfl ?_
 refine wX ?_
 refine Nd.mk ⟨Nat.le_refl 1, rfl, rfl⟩ ?_
 (conv => whnf)
 refine AppN.grow 3 (iC st.cells) [.int .i64 (pre.length : Int)] rfl rfl ⟨Nat.le_refl 1, ⟨by show (st.cells.length + 1) * 8 ≤ _; omega, by omega⟩, by decide⟩ fun cb cc' g1 g2 => ?_
 refine wX ?_
 have e1 : iC st.cells ++ [.int .i64 (pre.length : Int)] = iC (st.cells ++ [(pre.length : Int)]) := by simp [iC]
 have e2 : st.cells.length + 1 = (st.cells ++ [(pre.length : Int)]).length := by simp
 rw [e1, e2]
 refine EffW.appTo (i := 0) (q := 3) (ys := [_]) (ddC S (cellsP st (pre.length : Int)) ({ p with ca := some ⟨cb, 0, none⟩, cc := cc' } : RdP)) 6 rfl rfl rfl rfl rfl rfl rfl (Nat.le_of_ble_eq_true rfl) rfl rfl ?_
 have ok1 : OkD (cellsP st (pre.length : Int)) ({ p with ca := some ⟨cb, 0, none⟩, cc := cc' } : RdP) := ⟨ok.g, ok.ga, (fun h => by cases h), ok.sa, ok.sw, ok.gx⟩
 have hl1 : Left S (cellsP st (pre.length : Int)) := hl
 have h01 : ((cellsP st (pre.length : Int))).e = 0 := h0
 have hn1 : ((cellsP st (pre.length : Int))).s.length < n := hn
 have hm3 : (({ p with ca := some ⟨cb, 0, none⟩, cc := cc' } : RdP)).m = pre ++ [obP [] [] [] none 0 none 0] := hm2
 obtain ⟨R, hR⟩ : ∃ R, objD (formD n) pre.length (toS (cellsP st (pre.length : Int))) = R := ⟨_, rfl⟩
 rw [hR]
 unfold objD at hR
 have hnx := next_d rb S (by omega) (cellsP st (pre.length : Int)) ({ p with ca := some ⟨cb, 0, none⟩, cc := cc' } : RdP) nm0 hl1
 have htel := Ref.next.tel h01
 have ok2 := ok1.same (next_keep (cellsP st (pre.length : Int)))
 have le2 := next_le (cellsP st (pre.length : Int))
 have hl2 := hl1.next
 have les := nextsymD_le (cellsP st (pre.length : Int))
 generalize nextM (cellsP st (pre.length : Int)) = q at hnx htel ok2 le2 hl2 les
 obtain ⟨x, s1⟩ := q
 simp only at hnx htel ok2 le2 hl2 les
 refine SeqN.plain ?_
 refine wX ?_
 refine callG (hnx) [0, 1, 2, 3, 4] rfl ⟨rfl, rfl, rfl, rfl, rfl, trivial⟩ rfl fun _ _ => ?_
 refine wX ?_
 refine SeqN.plain ?_
 refine SeqN.plain ?_
 refine wX ?_
 refine LdN.one (a := some ⟨rb, 0, none⟩) (q := 5) (.int .i64 s1.e) rfl (fun w hw => hw.1) rfl ?_
 refine wX ?_
 refine brd_ne (fun he => ?_) (fun he => ?_)
 ·refine wX ?_
  have hb2 := le2.s
  refine ⟨⟨[], [], [], s1, ({ p with ca := some ⟨cb, 0, none⟩, cc := cc' } : RdP), [], none, 0, none, 0⟩, ⟨⟨ok2, hm3, (fun q hq => by cases hq), hl2, le2, ?_, rfl, fun _ => rfl, fun _ => rfl, Nat.le_refl _, Nat.le_refl _, (fun s hs => by cases hs), Nat.zero_le _⟩, ?_⟩, rfl, wkE_refl _, wkE_refl _, ?_, wkE_refl _, wkE_refl _, wkE_refl _, wkE_refl _, wkH_nil _⟩
  ·show 0 + s1.s.length + liv s1 ≤ _
   unfold liv
   rw [if_neg he]
   have h9 : ((cellsP st (pre.length : Int))).s.length ≤ 30000 := by omega
   omega
  ·rw [← hR]
   exact htel.bnd (fun h => absurd h he) (fun _ => rfl)
  ·show wkE (.fact _) (.fact fun w => ∀ q ∈ nm0 ++ [], CellF q w)
   rw [List.append_nil]
   exact wkE_refl _
 have hs1 : s1.s.length ≤ 30000 := by
  have h8 : ((cellsP st (pre.length : Int))).s.length ≤ 30000 := by omega
  have := le2.s
  omega
 have hss1 : s1.ss.length < 100000 := by
  have := le2.pot
  have h8 : ((cellsP st (pre.length : Int))).ss.length + ((cellsP st (pre.length : Int))).s.length ≤ 30000 := hbp
  omega
 have hR1 := hR
 rw [htel.live he] at hR1
 have hsym := symbol_d rb S (by omega) x s1 ({ p with ca := some ⟨cb, 0, none⟩, cc := cc' } : RdP) nm0 hl2 ok2.sa hss1
 have htel2 := (Ref.symD x).tel he
 have oks := fun i hi => ok2.sym hs1 x (i := i) hi
 have hl3 := symD_left hl2 x
 have hlen := (symD_len x s1 hs1 ok2.sw).1
 have hkp := symD_keep x s1
 generalize symD x s1 = q at hsym htel2 oks hl3 hlen les hkp
 obtain ⟨t, s2⟩ := q
 simp only at hsym htel2 oks hl3 hlen les hkp
 obtain ⟨s3, hs3⟩ : ∃ s3, s3 = if s2.e = 0 ∧ Go.Scan.icB t = false then failM s2 4 else s2 := ⟨_, rfl⟩
 refine SeqN.plain ?_
 refine wX ?_
 refine callG hsym [0, 1, 2, 3, 4] rfl ⟨rfl, rfl, rfl, rfl, rfl, trivial⟩ rfl fun i2 hi2 => ?_
 have ok3 := oks i2 hi2
 have hm4 : ({ ({ p with ca := some ⟨cb, 0, none⟩, cc := cc' } : RdP) with sa := i2.1, sc := i2.2 } : RdP).m = pre ++ [obP [] [] [] none 0 none 0] := hm3
 obtain ⟨p2, hp2⟩ : ∃ p2 : RdP, p2 = { ({ p with ca := some ⟨cb, 0, none⟩, cc := cc' } : RdP) with sa := i2.1, sc := i2.2 } := ⟨_, rfl⟩
 rw [← hp2] at ok3 hm4 ⊢
 have ok4 : OkD s3 p2 := by
  rw [hs3]
  split
  ·exact ok3.same (fail_ss s2 4)
  ·exact ok3
 have hl4 : Left S s3 := by
  rw [hs3]
  split
  ·exact hl3.fail 4
  ·exact hl3
 have le4 : Le 0 (cellsP st (pre.length : Int)) s3 := by
  rw [hs3]
  split
  ·exact les.trans (fail_le s2 4)
  ·exact les
 have hrn := cls_rest hR1 htel2 hs3 (map_get ok3.g (by rw [hm4]; exact pre_get _ _ _))
 refine wX ?_
 refine SeqN.join Unit (fun _ => True) (fun _ => mkS Tryz.f102.ntmps 0 [(0, .c (.v (.pointer (some ⟨rb, 0, none⟩)))), (1, .c (.v (.int .i64 (pre.length : Int)))), (5, .c (.v (.string (bs t))))])
  (fun _ => dE rb S s3 p2 nm0 ++ [ownS [] none 0, ownI [] none 0, .dead]) (fun _ _ => Nat.le_of_ble_eq_true rfl) (fun _ _ => rfl) (fun _ _ => okHB_eq rfl) ?_ ?_
 ·refine SeqN.plain ?_
  refine wX ?_
  refine LdN.one (a := some ⟨rb, 0, none⟩) (q := 5) (.int .i64 s2.e) rfl (fun w hw => hw.1) rfl ?_
  refine wX ?_
  by_cases h2 : s2.e = 0
  ·rw [show (s2.e == 0) = true by rw [h2]; rfl]
   refine wX ?_
   refine call1 (RIsConst_r t (by omega) _) ?_
   cases hic : Go.Scan.icB t with
   | true =>
    rw [if_neg (fun h => by rw [hic] at h; cases h.2)] at hs3
    subst hs3
    refine wX ?_
    exact ⟨(), trivial, by (repeat' (first | exact trivial | refine And.intro (by with_reducible rfl) ?_ | (with_reducible exact wkC_refl _) | (with_reducible exact wkCs_refl _) | refine And.intro ?_ ?_)), wHH⟩
   | false =>
    rw [if_pos ⟨h2, hic⟩] at hs3
    subst hs3
    refine wX ?_
    refine callG (fail_d rb S s2 p2 nm0 4) [0, 1, 2, 3, 4] rfl ⟨rfl, rfl, rfl, rfl, rfl, trivial⟩ rfl fun _ _ => ?_
    refine wX ?_
    exact ⟨(), trivial, by (repeat' (first | exact trivial | refine And.intro (by with_reducible rfl) ?_ | (with_reducible exact wkC_refl _) | (with_reducible exact wkCs_refl _) | refine And.intro ?_ ?_)), wHH⟩
  ·rw [show (s2.e == 0) = false by simpa using h2]
   rw [if_neg (fun h => h2 h.1)] at hs3
   subst hs3
   refine wX ?_
   exact ⟨(), trivial, by (repeat' (first | exact trivial | refine And.intro (by with_reducible rfl) ?_ | (with_reducible exact wkC_refl _) | (with_reducible exact wkCs_refl _) | refine And.intro ?_ ?_)), wHH⟩
 rintro ⟨⟩ -
 clear hs3 hsym hnx oks htel2
 obtain ⟨m2, ga2, gc2, ca2, cc2, sa2, sc2⟩ := p2
 simp only at hm4
 have hml : m2.length = pre.length + 1 := by rw [hm4]; simp
 obtain ⟨gb, rfl⟩ : ∃ b : Nat, ga2 = some ⟨b, 0, none⟩ := ok4.gx.resolve_left fun h => by
  have h9 : m2 = [] := ok4.ga h
  rw [h9, List.length_nil] at hml
  omega
 have hgk : m2[pre.length]? = some (obP [] [] [] none 0 none 0) := by rw [hm4]; exact pre_get _ _ _
 have hgl : m2.length ≤ 500 := by
  have := (bd.le le4).g
  rw [← ok4.g, List.length_map] at this
  exact this
 refine SeqN.plain ?_
 refine wX ?_
 refine LdN.one (a := some ⟨rb, 0, none⟩) (q := 2) (.slice (some ⟨gb, 0, none⟩) m2.length gc2) rfl (fun w hw => hw.1) rfl ?_
 refine wX ?_
 refine Nd.mk ⟨rfl, by omega, by omega⟩ ?_
 refine wX ?_
 have hq2 : pre.length * 5 + 2 < (grC m2).length := by rw [grC_len]; omega
 refine EffW.appTo (i := 1) (q := pre.length * 5 + 2) (ys := [.string (bs t)]) (grC (m2.set pre.length (obP t [] [] none 0 none 0))) 5 rfl (by rw [Int.toNat_natCast]; show AV.c (CV.v (Value.pointer (some (((⟨gb, 0, none⟩ : Addr).add (pre.length * 5)).add 2)))) = _; rw [add_lit0, add_lit]) rfl rfl rfl rfl rfl (by show pre.length * 5 + 2 + 1 ≤ m2.length * 5; omega) ((put_set _ hq2).trans (grC_fld (by omega) hgk rfl)) rfl ?_
 have hrc : ddC S s3 ⟨m2, some ⟨gb, 0, none⟩, gc2, ca2, cc2, sa2, sc2⟩ = ddC S (putG pre.length ⟨8, 0, t, [], []⟩ s3) ⟨m2.set pre.length (obP t [] [] none 0 none 0), some ⟨gb, 0, none⟩, gc2, ca2, cc2, sa2, sc2⟩ := by simp [ddC, putG]
 have hls : (m2.set pre.length (obP t [] [] none 0 none 0)).length = m2.length := by rw [List.length_set]
 have ok5 := ok4.put pre.length (obP t [] [] none 0 none 0) (by show pre.length < m2.length; omega)
 have hm5 : m2.set pre.length (obP t [] [] none 0 none 0) = pre ++ [obP t [] [] none 0 none 0] := by rw [hm4, pre_set]
 have le5 := le4.trans (put_le pre.length ⟨8, 0, t, [], []⟩ s3)
 have hl5 : Left S (putG pre.length ⟨8, 0, t, [], []⟩ s3) := hl4
 refine wX ?_
 rw [hrc, ← hls]
 generalize m2.set pre.length (obP t [] [] none 0 none 0) = m3 at ok5 hm5 hls ⊢
 have ok5 : OkD (putG pre.length ⟨8, 0, t, [], []⟩ s3) ⟨m3, some ⟨gb, 0, none⟩, gc2, ca2, cc2, sa2, sc2⟩ := ok5
 have hnum := number_d rb S (by omega) (putG pre.length ⟨8, 0, t, [], []⟩ s3) ⟨m3, some ⟨gb, 0, none⟩, gc2, ca2, cc2, sa2, sc2⟩ nm0 hl5 maxN
 have hra := hrn.num
 have ok6 := ok5.same (num_keep maxN (putG pre.length ⟨8, 0, t, [], []⟩ s3))
 have le6 := le5.trans (num_le maxN (putG pre.length ⟨8, 0, t, [], []⟩ s3))
 have hl6 := hl5.num maxN
 have hmm := num_most maxN (putG pre.length ⟨8, 0, t, [], []⟩ s3)
 generalize numM maxN (putG pre.length ⟨8, 0, t, [], []⟩ s3) = q at hnum hra ok6 le6 hl6 hmm
 obtain ⟨m, s5⟩ := q
 simp only at hnum hra ok6 le6 hl6 hmm
 have hmm : m ≤ 1000000000000000 := hmm
 refine SeqN.plain ?_
 refine wX ?_
 refine callG (hnum) [0, 1, 2, 3, 4] rfl ⟨rfl, rfl, rfl, rfl, rfl, trivial⟩ rfl fun _ _ => ?_
 refine wX ?_
 refine SeqN.plain ?_
 refine wX ?_
 refine LoopN.intro (Nat × ObD) (fun ⟨i, ob⟩ => i ≤ m ∧ ObInv S (cellsP st (pre.length : Int)) pre ob ∧ RestA (formD n) pre.length R (m - i) ob.st)
  (fun ⟨i, _⟩ => mkS Tryz.f102.ntmps 0 [(0, .c (.v (.pointer (some ⟨rb, 0, none⟩)))), (1, .c (.v (.int .i64 (pre.length : Int)))), (6, .c (.v (.int .i64 (m : Int)))), (7, .c (.v (.int .i64 (i : Int))))])
  (fun ⟨_, ob⟩ => dE rb S ob.st ob.p (nm0 ++ ob.nm) ++ ownO ob ++ [.dead]) (fun ⟨i, _⟩ => m - i) [] rfl
  (fun _ => rfl) (fun _ => rfl) (fun _ _ => okHB_eq rfl) ⟨(0, ⟨t, [], [], s5, ⟨m3, some ⟨gb, 0, none⟩, gc2, ca2, cc2, sa2, sc2⟩, [], none, 0, none, 0⟩), ⟨Nat.zero_le _, ⟨ok6, hm5, (fun q hq => by cases hq), hl6, le6, ?_, rfl, fun _ => rfl, fun _ => rfl, Nat.le_refl _, Nat.le_refl _, (fun s hs => by cases hs), hlen⟩, hra⟩, ?_, ?_⟩ ?_
 ·have h7 := le6.s
  unfold liv
  show 0 + s5.s.length + _ ≤ _
  have h9 : ((cellsP st (pre.length : Int))).s.length ≤ 30000 := by omega
  split <;> omega
 ·exact wKK
 ·refine ⟨wkE_refl _, wkE_refl _, ?_, wkE_refl _, wkE_refl _, wkE_refl _, wkE_refl _, wHH⟩
  show wkE (.fact _) (.fact fun w => ∀ q ∈ nm0 ++ [], CellF q w)
  rw [List.append_nil]
  exact wkE_refl _
 rintro ⟨i, ⟨t, ns, l, st5, p5, nm5, na, nc, ia, ic⟩⟩ ⟨h1, hi, hr⟩
 clear hra ok6 le6 hl6 hnum hrn ok5 le5 hl5 hgk ok4 le4 hl4 hrc hls hm5
 simp only at hi hr
 refine SeqN.plain ?_
 refine SeqN.plain ?_
 refine wX ?_
 by_cases hlt : i < m
 ·rw [show decide ((i : Int) < (m : Int)) = true by simpa using hlt]
  refine wX ?_
  refine LdN.one (a := some ⟨rb, 0, none⟩) (q := 5) (.int .i64 st5.e) rfl (fun w hw => hw.1) rfl ?_
  refine wX ?_
  by_cases he5 : st5.e = 0
  ·rw [show (st5.e == 0) = true by rw [he5]; rfl]
   refine wX ?_
   refine SeqN.plain ?_
   refine SeqN.plain ?_
   obtain ⟨r, hr3, hr4⟩ : ∃ r, m - i = r + 1 ∧ m - (i + 1) = r := ⟨m - (i + 1), by omega, rfl⟩
   rw [hr3] at hr
   have hs5 := left_len hi.left
   have hs5 : st5.s.length ≤ S.length := hs5
   have hnx5 := next_d rb S (by omega) st5 p5 (nm0 ++ nm5) hi.left
   have tel5 := Ref.next.tel he5
   have okx := hi.ok.same (next_keep st5)
   have lex := next_le st5
   have hlx := hi.left.next
   have les5 := nextsymD_le st5
   have hgx := next_keep st5
   generalize nextM st5 = q at hnx5 tel5 okx lex hlx les5 hgx
   obtain ⟨x5, s51⟩ := q
   simp only at hnx5 tel5 okx lex hlx les5 hgx
   refine wX ?_
   refine callG (hnx5) [0, 1, 2, 3, 4] rfl ⟨rfl, rfl, rfl, rfl, rfl, trivial⟩ rfl fun _ _ => ?_
   refine wX ?_
   refine SeqN.plain ?_
   refine SeqN.plain ?_
   refine wX ?_
   refine LdN.one (a := some ⟨rb, 0, none⟩) (q := 5) (.int .i64 s51.e) rfl (fun w hw => hw.1) rfl ?_
   refine wX ?_
   refine brd_ne (fun he6 => ?_) (fun he6 => ?_)
   ·refine wX ?_
    exact ⟨⟨t, ns, l, s51, p5, nm5, na, nc, ia, ic⟩, ⟨hi.go okx rfl hlx lex (fun h => absurd he5 h), attr_stop he5 hr tel5 he6⟩, rfl, wkE_refl _, wkE_refl _, wkE_refl _, wkE_refl _, wkE_refl _, wkE_refl _, wkE_refl _, wHH⟩
   have b51 := (bd.le hi.le).le lex
   have hb51 := b51.pot
   have hsym5 := symbol_d rb S (by omega) x5 s51 p5 (nm0 ++ nm5) hlx okx.sa (by omega)
   have tel6 := (Ref.symD x5).tel he6
   have oks5 := fun i hi => okx.sym (by omega) x5 (i := i) hi
   have hl6 := symD_left hlx x5
   have hlen6 := (symD_len x5 s51 (by omega) okx.sw).1
   have hkp6 := symD_keep x5 s51
   generalize symD x5 s51 = q at hsym5 tel6 oks5 hl6 hlen6 les5 hkp6
   obtain ⟨t6, s6⟩ := q
   simp only at hsym5 tel6 oks5 hl6 hlen6 les5 hkp6
   obtain ⟨s7, hs7⟩ : ∃ s7, s7 = if s6.e = 0 ∧ ¬ (Go.Scan.iiB t6 = true ∧ t6 ∉ ns) then failM s6 4 else s6 := ⟨_, rfl⟩
   refine SeqN.plain ?_
   refine wX ?_
   refine callG hsym5 [0, 1, 2, 3, 4] rfl ⟨rfl, rfl, rfl, rfl, rfl, trivial⟩ rfl fun i6 hi6 => ?_
   have ok6 := oks5 i6 hi6
   have hm6 : ({ p5 with sa := i6.1, sc := i6.2 } : RdP).m = p5.m := rfl
   obtain ⟨p6, hp6⟩ : ∃ p6 : RdP, p6 = { p5 with sa := i6.1, sc := i6.2 } := ⟨_, rfl⟩
   rw [← hp6] at ok6 hm6 ⊢
   have hpm : p6.m = pre ++ obP t ns l na nc ia ic :: nm5 := hm6.trans hi.m
   have hgn : (s6.g.getD pre.length nilC).names = ns := by rw [map_get ok6.g (by rw [hpm]; exact pre_get _ _ _)]; rfl
   have ha := attr_rest he5 hr tel5 he6 tel6 hgn hs7
   have ok7 : OkD s7 p6 := by
    rw [hs7]
    split
    ·exact ok6.same (fail_ss s6 4)
    ·exact ok6
   have hl7 : Left S s7 := by
    rw [hs7]
    split
    ·exact hl6.fail 4
    ·exact hl6
   have le7 : Le 0 st5 s7 := by
    rw [hs7]
    split
    ·exact les5.trans (fail_le s6 4)
    ·exact les5
   clear hsym5 oks5 hnx5
   obtain ⟨m6, ga6, gc6, ca6, cc6, sa6, sc6⟩ := p6
   simp only at hpm
   have hml6 : m6.length = pre.length + 1 + nm5.length := by rw [hpm]; simp; omega
   obtain ⟨gb, rfl⟩ : ∃ b : Nat, ga6 = some ⟨b, 0, none⟩ := ok7.gx.resolve_left fun h => by
    have h9 : m6 = [] := ok7.ga h
    rw [h9, List.length_nil] at hml6
    omega
   have hgk6 : m6[pre.length]? = some (obP t ns l na nc ia ic) := by rw [hpm]; exact pre_get _ _ _
   have hnll : ns.length ≤ 30001 := by have h8 : l.length + st5.s.length + liv st5 ≤ 30001 := hi.ll; have h9 : ns.length = l.length := hi.nl; omega
   refine wX ?_
   refine SeqN.join Unit (fun _ => True) (fun _ => mkS Tryz.f102.ntmps 0 [(0, .c (.v (.pointer (some ⟨rb, 0, none⟩)))), (1, .c (.v (.int .i64 (pre.length : Int)))), (5, .c (.v (.string (bs t6)))), (6, .c (.v (.int .i64 (m : Int)))), (7, .c (.v (.int .i64 (i : Int))))])
    (fun _ => dE rb S s7 ⟨m6, some ⟨gb, 0, none⟩, gc6, ca6, cc6, sa6, sc6⟩ (nm0 ++ nm5) ++ [ownS ns na nc, ownI l ia ic, .dead]) (fun _ _ => Nat.le_of_ble_eq_true rfl) (fun _ _ => rfl) (fun _ _ => okHB_eq rfl) ?_ ?_
   ·refine SeqN.plain ?_
    refine wX ?_
    refine LdN.one (a := some ⟨rb, 0, none⟩) (q := 5) (.int .i64 s6.e) rfl (fun w hw => hw.1) rfl ?_
    refine wX ?_
    by_cases h6 : s6.e = 0
    ·rw [show (s6.e == 0) = true by rw [h6]; rfl]
     refine wX ?_
     refine call1 (RIsIvar_r t6 (by omega) _) ?_
     cases hii : Go.Scan.iiB t6 with
     | false =>
      rw [if_pos ⟨h6, fun h => by rw [hii] at h; cases h.1⟩] at hs7
      subst hs7
      refine wX ?_
      refine callG (fail_d rb S s6 ⟨m6, some ⟨gb, 0, none⟩, gc6, ca6, cc6, sa6, sc6⟩ (nm0 ++ nm5) 4) [0, 1, 2, 3, 4] rfl ⟨rfl, rfl, rfl, rfl, rfl, trivial⟩ rfl fun _ _ => ?_
      refine wX ?_
      exact ⟨(), trivial, by (repeat' (first | exact trivial | refine And.intro (by with_reducible rfl) ?_ | (with_reducible exact wkC_refl _) | (with_reducible exact wkCs_refl _) | refine And.intro ?_ ?_)), wHH⟩
     | true =>
      refine wX ?_
      refine LdN.one (a := some ⟨rb, 0, none⟩) (q := 2) (.slice (some ⟨gb, 0, none⟩) m6.length gc6) rfl (fun w hw => hw.1) rfl ?_
      refine wX ?_
      refine Nd.mk ⟨rfl, by omega, by omega⟩ ?_
      refine wX ?_
      refine LdN.fld (.slice na ns.length nc) rfl (fun w hw => hw.2.1) (by rw [Int.toNat_natCast]; exact grC_get m6 _ 3 (by decide) hgk6) ?_
      refine wX ?_
      refine call1 (Has_d na ns nc t6 hi.na (by omega) _ (fun w hw => hw.2.2.2.2.2.1)) ?_
      by_cases hmem : t6 ∈ ns
      ·rw [show decide (t6 ∈ ns) = true from decide_eq_true hmem]
       rw [if_pos ⟨h6, fun h => h.2 hmem⟩] at hs7
       subst hs7
       refine wX ?_
       refine callG (fail_d rb S s6 ⟨m6, some ⟨gb, 0, none⟩, gc6, ca6, cc6, sa6, sc6⟩ (nm0 ++ nm5) 4) [0, 1, 2, 3, 4] rfl ⟨rfl, rfl, rfl, rfl, rfl, trivial⟩ rfl fun _ _ => ?_
       refine wX ?_
       exact ⟨(), trivial, by (repeat' (first | exact trivial | refine And.intro (by with_reducible rfl) ?_ | (with_reducible exact wkC_refl _) | (with_reducible exact wkCs_refl _) | refine And.intro ?_ ?_)), wHH⟩
      ·rw [show decide (t6 ∈ ns) = false from decide_eq_false hmem]
       rw [if_neg (fun h => h.2 ⟨hii, hmem⟩)] at hs7
       subst hs7
       refine wX ?_
       exact ⟨(), trivial, by (repeat' (first | exact trivial | refine And.intro (by with_reducible rfl) ?_ | (with_reducible exact wkC_refl _) | (with_reducible exact wkCs_refl _) | refine And.intro ?_ ?_)), wHH⟩
    ·rw [show (s6.e == 0) = false by simpa using h6]
     rw [if_neg (fun h => h6 h.1)] at hs7
     subst hs7
     refine wX ?_
     exact ⟨(), trivial, by (repeat' (first | exact trivial | refine And.intro (by with_reducible rfl) ?_ | (with_reducible exact wkC_refl _) | (with_reducible exact wkCs_refl _) | refine And.intro ?_ ?_)), wHH⟩
   rintro ⟨⟩ -
   clear hs7
   refine SeqN.plain ?_
   refine SeqN.plain ?_
   refine wX ?_
   refine LdN.one (a := some ⟨rb, 0, none⟩) (q := 5) (.int .i64 s7.e) rfl (fun w hw => hw.1) rfl ?_
   refine wX ?_
   refine brd_ne (fun he7 => ?_) (fun he7 => ?_)
   ·refine wX ?_
    exact ⟨⟨t, ns, l, s7, ⟨m6, some ⟨gb, 0, none⟩, gc6, ca6, cc6, sa6, sc6⟩, nm5, na, nc, ia, ic⟩, ⟨hi.go ok7 hm6 hl7 le7 (fun h => absurd he5 h), by rw [ha.2 he7]; exact ⟨rfl, he7⟩⟩, rfl, wkE_refl _, wkE_refl _, wkE_refl _, wkE_refl _, wkE_refl _, wkE_refl _, wkE_refl _, wHH⟩
   obtain ⟨rfl, hR7⟩ := ha.1 he7
   have b7 := (bd.le hi.le).le le7
   have hs7l := le7.s
   have hn5 : st5.s.length ≤ ((cellsP st (pre.length : Int))).s.length := hi.le.s
   have hform := hc rb S s7 ⟨m6, some ⟨gb, 0, none⟩, gc6, ca6, cc6, sa6, sc6⟩ (nm0 ++ nm5) hS ok7 b7 hl7 he7 (by omega)
   refine SeqN.plain ?_
   refine wX ?_
   refine callG hform [0, 1, 2, 3, 4] rfl ⟨rfl, rfl, rfl, rfl, rfl, trivial⟩ rfl fun d hd => ?_
   obtain ⟨dv, ds, dp, dn⟩ := d
   obtain ⟨ok8, hm8, hc8, hl8, le8, lt8, tel8⟩ := hd
   simp only at ok8 hm8 hc8 hl8 le8 lt8 tel8
   obtain ⟨dm, dga, dgc, dca, dcc, dsa, dsc⟩ := dp
   simp only at hm8
   have hdm : dm = pre ++ obP t ns l na nc ia ic :: (nm5 ++ dn) := by rw [hm8, hpm]; simp
   have hdl : dm.length = pre.length + 1 + (nm5 ++ dn).length := by rw [hdm]; simp; omega
   obtain ⟨gb2, rfl⟩ : ∃ b : Nat, dga = some ⟨b, 0, none⟩ := ok8.gx.resolve_left fun h => by
    have h9 : dm = [] := ok8.ga h
    rw [h9, List.length_nil] at hdl
    omega
   have hgkd : dm[pre.length]? = some (obP t ns l na nc ia ic) := by rw [hdm]; exact pre_get _ _ _
   have hgbd : dm.length ≤ 500 := by
    have := (b7.le le8).g
    rw [← ok8.g, List.length_map] at this
    exact this
   have hll : l.length ≤ 30001 := by have h8 : l.length + st5.s.length + liv st5 ≤ 30001 := hi.ll; omega
   have hq3 : pre.length * 5 + 3 < (grC dm).length := by rw [grC_len]; omega
   refine wX ?_
   refine SeqN.plain ?_
   refine wXK ?_
   refine DrawN.planC (fun w => SlAt (some ⟨rb, 0, none⟩) 6 (ddC S ds ⟨dm, some ⟨gb2, 0, none⟩, dgc, dca, dcc, dsa, dsc⟩) w ∧ SlAt (some ⟨gb2, 0, none⟩) (dm.length * 5) (grC (dm)) w) [0, 4, 5, 9, 13] [(1, 1), (2, 2), (3, 1), (6, 1), (7, 2), (8, 1), (10, 1), (11, 2), (12, 1), (14, 0), (15, 0)] [(16, 0), (17, 0), (18, 0)] (by decide +kernel) (fun w hw => ⟨hw.1, hw.2.1⟩) ?_
   refine wXO ?_
   refine ReadC.one (a := some ⟨rb, 0, none⟩) (q := 2) (.slice (some ⟨gb2, 0, none⟩) dm.length dgc) rfl rfl rfl (fun w hw => hw.1) rfl ?_
   refine wXO ?_
   refine ReadC.one (a := some ⟨rb, 0, none⟩) (q := 2) (.slice (some ⟨gb2, 0, none⟩) dm.length dgc) rfl rfl rfl (fun w hw => hw.1) rfl ?_
   refine wXO ?_
   refine ReadC.idxA (e := 87) (sz := 5) pre.length rfl Tryz.underlying36 rfl rfl rfl rfl rfl (by omega) ?_
   refine wXO ?_
   refine ReadC.one (a := some ⟨gb2, 0, none⟩) (q := pre.length * 5 + 3) (.slice na ns.length nc) rfl (ptr_fld rfl) rfl (fun w hw => hw.2) (grC_get _ _ 3 (by omega) hgkd) ?_
   (conv => whnf)
   refine RwN.own ?_
   (conv => whnf)
   refine Nd.mk (fun w hw => ⟨hw.1, hw.2.1⟩) ?_
   (conv => whnf)
   refine Nd.mk ⟨Nat.le_refl 1, rfl, rfl⟩ ?_
   (conv => whnf)
   refine AppN.grow 5 (strC ns) [.string (bs t6)] rfl rfl ⟨Nat.le_refl 1, ⟨by show (ns.length + 1) * 16 ≤ _; omega, by omega⟩, by decide⟩ fun nb' nc' g3 g4 => ?_
   (conv => whnf)
   refine Nd.mk (fun w hw => ⟨hw.1, hw.2.1⟩) ?_
   (conv => whnf)
   refine Nd.mk ⟨rfl, by omega, by omega⟩ ?_
   (conv => whnf)
   have e3 : strC ns ++ [.string (bs t6)] = strC (ns ++ [t6]) := by simp [strC]
   have e4 : ns.length + 1 = (ns ++ [t6]).length := by simp
   rw [e3, e4]
   refine EffW.appTo (i := 1) (q := pre.length * 5 + 3) (ys := [.slice (some ⟨nb', 0, none⟩) (ns ++ [t6]).length nc']) (grC (dm.set pre.length (obP t (ns ++ [t6]) l (some ⟨nb', 0, none⟩) nc' ia ic))) 5 rfl (by rw [Int.toNat_natCast]; show AV.c (CV.v (Value.pointer (some (((⟨gb2, 0, none⟩ : Addr).add (pre.length * 5)).add 3)))) = _; rw [add_lit0, add_lit]) rfl rfl rfl rfl rfl (by show pre.length * 5 + 3 + 1 ≤ dm.length * 5; omega) ((put_set _ hq3).trans (grC_fld (by omega) hgkd rfl)) rfl ?_
   have hgk2 : (dm.set pre.length (obP t (ns ++ [t6]) l (some ⟨nb', 0, none⟩) nc' ia ic))[pre.length]? = some (obP t (ns ++ [t6]) l (some ⟨nb', 0, none⟩) nc' ia ic) := List.getElem?_set_self (by omega)
   have hq4 : pre.length * 5 + 4 < (grC (dm.set pre.length (obP t (ns ++ [t6]) l (some ⟨nb', 0, none⟩) nc' ia ic))).length := by rw [grC_len, List.length_set]; omega
   have hss2 : (dm.set pre.length (obP t (ns ++ [t6]) l (some ⟨nb', 0, none⟩) nc' ia ic)).set pre.length (obP t (ns ++ [t6]) (l ++ [dv]) (some ⟨nb', 0, none⟩) nc' ia ic) = dm.set pre.length (obP t (ns ++ [t6]) (l ++ [dv]) (some ⟨nb', 0, none⟩) nc' ia ic) := List.set_set _
   refine wXK ?_
   refine DrawN.planC (fun w => SlAt (some ⟨rb, 0, none⟩) 6 (ddC S ds ⟨dm, some ⟨gb2, 0, none⟩, dgc, dca, dcc, dsa, dsc⟩) w ∧ SlAt (some ⟨gb2, 0, none⟩) (dm.length * 5) (grC (dm.set pre.length (obP t (ns ++ [t6]) l (some ⟨nb', 0, none⟩) nc' ia ic))) w) [0, 4, 5, 9, 13] [(1, 1), (2, 2), (3, 1), (6, 1), (7, 2), (8, 1), (10, 1), (11, 2), (12, 1), (14, 0), (15, 0)] [(16, 0), (17, 0), (18, 0)] (by decide +kernel) (fun w hw => ⟨hw.1, hw.2.1⟩) ?_
   refine wXO ?_
   refine ReadC.one (a := some ⟨rb, 0, none⟩) (q := 2) (.slice (some ⟨gb2, 0, none⟩) dm.length dgc) rfl rfl rfl (fun w hw => hw.1) rfl ?_
   refine wXO ?_
   refine ReadC.one (a := some ⟨rb, 0, none⟩) (q := 2) (.slice (some ⟨gb2, 0, none⟩) dm.length dgc) rfl rfl rfl (fun w hw => hw.1) rfl ?_
   refine wXO ?_
   refine ReadC.idxA (e := 87) (sz := 5) pre.length rfl Tryz.underlying36 rfl rfl rfl rfl rfl (by omega) ?_
   refine wXO ?_
   refine ReadC.one (a := some ⟨gb2, 0, none⟩) (q := pre.length * 5 + 4) (.slice ia l.length ic) rfl (ptr_fld rfl) rfl (fun w hw => hw.2) (grC_get _ _ 4 (by omega) hgk2) ?_
   (conv => whnf)
   refine RwN.own ?_
   (conv => whnf)
   refine Nd.mk (fun w hw => ⟨hw.1, hw.2.1⟩) ?_
   (conv => whnf)
   refine Nd.mk ⟨Nat.le_refl 1, rfl, rfl⟩ ?_
   (conv => whnf)
   refine AppN.grow 6 (iC l) [.int .i64 dv] rfl rfl ⟨Nat.le_refl 1, ⟨by show (l.length + 1) * 8 ≤ _; omega, by omega⟩, by decide⟩ fun ib' ic' g5 g6 => ?_
   (conv => whnf)
   refine Nd.mk (fun w hw => ⟨hw.1, hw.2.1⟩) ?_
   (conv => whnf)
   refine Nd.mk ⟨rfl, by omega, by omega⟩ ?_
   (conv => whnf)
   have e5 : iC l ++ [.int .i64 dv] = iC (l ++ [dv]) := by simp [iC]
   have e6 : l.length + 1 = (l ++ [dv]).length := by simp
   rw [e5, e6]
   refine EffW.appTo (i := 1) (q := pre.length * 5 + 4) (ys := [.slice (some ⟨ib', 0, none⟩) (l ++ [dv]).length ic']) (grC (dm.set pre.length (obP t (ns ++ [t6]) (l ++ [dv]) (some ⟨nb', 0, none⟩) nc' (some ⟨ib', 0, none⟩) ic'))) 5 rfl (by rw [Int.toNat_natCast]; show AV.c (CV.v (Value.pointer (some (((⟨gb2, 0, none⟩ : Addr).add (pre.length * 5)).add 4)))) = _; rw [add_lit0, add_lit]) rfl rfl rfl rfl rfl (by show pre.length * 5 + 4 + 1 ≤ dm.length * 5; omega) ((put_set _ hq4).trans ((grC_fld (q := obP t (ns ++ [t6]) (l ++ [dv]) (some ⟨nb', 0, none⟩) nc' (some ⟨ib', 0, none⟩) ic') (by omega) hgk2 rfl).trans (by rw [List.set_set]))) rfl ?_
   refine wX ?_
   have okp := ok8.put pre.length (obP t (ns ++ [t6]) (l ++ [dv]) (some ⟨nb', 0, none⟩) nc' (some ⟨ib', 0, none⟩) ic') (by show pre.length < dm.length; omega)
   have hnl : ns.length = l.length := hi.nl
   have hst := attr_step hR7 tel8 ok8 hdm (obP t (ns ++ [t6]) (l ++ [dv]) (some ⟨nb', 0, none⟩) nc' (some ⟨ib', 0, none⟩) ic').c rfl
   refine ⟨(i + 1, ⟨t, ns ++ [t6], l ++ [dv], putG pre.length (obP t (ns ++ [t6]) (l ++ [dv]) (some ⟨nb', 0, none⟩) nc' (some ⟨ib', 0, none⟩) ic').c ds, ⟨dm.set pre.length (obP t (ns ++ [t6]) (l ++ [dv]) (some ⟨nb', 0, none⟩) nc' (some ⟨ib', 0, none⟩) ic'), some ⟨gb2, 0, none⟩, dgc, dca, dcc, dsa, dsc⟩, nm5 ++ dn, some ⟨nb', 0, none⟩, nc', some ⟨ib', 0, none⟩, ic'⟩), ⟨by omega, ⟨okp, ?_, fun q hq => (List.mem_append.1 hq).elim (hi.cell q) (hc8 q), hl8, ((hi.le.trans le7).trans le8).trans (put_le _ _ _), ?_, by simp [hnl], (fun h => by cases h), (fun h => by cases h), by rw [← e4]; exact g3, by rw [← e6]; exact g5, ?_, hi.tl⟩, by rw [hr4]; exact hst⟩, by show m - (i + 1) < m - i; omega, ?_, ?_⟩
   ·show dm.set _ _ = _
    rw [hdm, pre_set]
    rfl
   ·show (l ++ [dv]).length + ds.s.length + liv (putG _ _ ds) ≤ _
    have h8 : l.length + st5.s.length + liv st5 ≤ 30001 := hi.ll
    have h9 := le8.s
    rw [List.length_append, List.length_singleton]
    unfold liv at h8 ⊢
    rw [if_pos he5] at h8
    show _ + (if ds.e = 0 then _ else _) ≤ _
    split
    ·rename_i h
     have := lt8 h
     omega
    ·omega
   ·intro y hy
    rcases List.mem_append.1 hy with h | h
    ·exact hi.nw y h
    ·rw [List.mem_singleton.1 h]; exact hlen6
   ·exact wKK
   ·have hrc2 : ddC S (putG pre.length (obP t (ns ++ [t6]) (l ++ [dv]) (some ⟨nb', 0, none⟩) nc' (some ⟨ib', 0, none⟩) ic').c ds) ⟨dm.set pre.length (obP t (ns ++ [t6]) (l ++ [dv]) (some ⟨nb', 0, none⟩) nc' (some ⟨ib', 0, none⟩) ic'), some ⟨gb2, 0, none⟩, dgc, dca, dcc, dsa, dsc⟩ = ddC S ds ⟨dm, some ⟨gb2, 0, none⟩, dgc, dca, dcc, dsa, dsc⟩ := by simp [ddC, putG]
    refine ⟨?_, ?_, fact_assoc _ _ _, wkE_refl _, wkE_refl _, wkE_refl _, wkE_refl _, wHH⟩
    ·show wkE (.app 109 6 (ddC S ds ⟨dm, some ⟨gb2, 0, none⟩, dgc, dca, dcc, dsa, dsc⟩) _ 1 1) (.app 109 6 (ddC S (putG _ _ ds) _) _ 1 1)
     rw [hrc2]
     exact wkE_refl _
    ·show wkE (.app 87 5 _ _ dm.length _) (.app 87 5 _ _ (dm.set _ _).length _)
     rw [List.length_set]
     exact wkE_refl _
  ·rw [show (st5.e == 0) = false by simpa using he5]
   refine wX ?_
   exact ⟨_, ⟨hi, hr.tel fun h => absurd h he5⟩, rfl, wkE_refl _, wkE_refl _, wkE_refl _, wkE_refl _, wkE_refl _, wkE_refl _, wkE_refl _, wHH⟩
 ·rw [show decide ((i : Int) < (m : Int)) = false by simpa using hlt]
  refine wX ?_
  exact ⟨_, ⟨hi, hr.tel fun h => by omega⟩, rfl, wkE_refl _, wkE_refl _, wkE_refl _, wkE_refl _, wkE_refl _, wkE_refl _, wkE_refl _, wHH⟩
end Go.Proofs.YtgogonnnojcioaaGreatDoor
