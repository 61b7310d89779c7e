/-
  MarshalSharesCardSaid is proved: of every numbers MarshalShares returns true; the listed tables are tied to the program's text.
-/
import Derived.Test.YtgogonnnojcioaaGreatDoorCards
import Derived.Test.YtgogonnnojcioaaGreatDoorTie
import Derived.Test.YtgogonnnojcioaaGreatDoorMsh9
set_option linter.unusedVariables false
set_option linter.unusedSimpArgs false
/-
 Contract: the graphs that numbers make (law).
-/
namespace Go.Proofs.YtgogonnnojcioaaGreatDoor
open Go.AX Go.RowKit Go.Core
set_option maxRecDepth 20000

structure GrwC (n : Nat) (p : CellP) : Prop where
 ok : CellOk p
 it : ∀ y ∈ p.c.items, 0 ≤ y
 il : p.c.items.length ≤ 4
 nl : p.c.names.length ≤ 2
 tl : p.c.text.length ≤ 2
theorem grw_plain (n : Nat) (k nu : Int) (t : List UInt8) (ht : t.length ≤ 2) : GrwC n ⟨⟨k, nu, t, [], []⟩, none, 0, none, 0⟩ :=
 ⟨⟨fun _ => rfl, fun _ => rfl, Nat.zero_le _, Nat.zero_le _, (fun s h => (by cases h)), (by show t.length ≤ _; omega), Nat.le_refl _, Nat.le_refl _⟩, (fun y h => (by cases h)), Nat.zero_le _, Nat.zero_le _, ht⟩
theorem grw_item (x : Int) (k d e n : Nat) (hx : 0 ≤ x ∧ x ≤ 2049638230412172402) (hk : k ≤ 3) (hd : 1 ≤ d) (he : e ≤ 10) : 0 ≤ (IntKind.i64.wrap (IntKind.u64.wrap (IntKind.u64.wrap (x.tdiv (d : Int)) + IntKind.u64.wrap (IntKind.u64.wrap (k : Int) * (e : Int))))).tmod (n : Int) := by
 have h1 : 0 ≤ x.tdiv (d : Int) ∧ x.tdiv (d : Int) ≤ x := by
  rw [Int.tdiv_eq_ediv_of_nonneg hx.1]
  exact ⟨Int.ediv_nonneg hx.1 (by omega), Int.ediv_le_self _ hx.1⟩
 have h2 : 0 ≤ (k : Int) * (e : Int) ∧ (k : Int) * (e : Int) ≤ 30 := by
  have := Nat.mul_le_mul hk he
  rw [← Int.natCast_mul]
  omega
 rw [wrap_u64 (x := x.tdiv (d : Int)) (by omega), wrap_u64 (x := (k : Int)) (by omega), wrap_u64 (x := (k : Int) * (e : Int)) (by omega), wrap_u64 (by omega), wrap_i64 (by omega)]
 exact Int.tmod_nonneg _ (by omega)
def setI (p : CellP) (its : List Int) (ia : Option Addr) (ic : Nat) : CellP := ⟨{ p.c with items := its }, p.na, p.nc, ia, ic⟩
theorem grC_set : ∀ {m : List CellP} {j : Nat} {p : CellP} (its : List Int) (ia : Option Addr) (ic : Nat), m[j]? = some p → (grC m).set (j * 5 + 4) (.slice ia its.length ic) = grC (m.set j (setI p its ia ic))
 | [], _, _, _, _, _, h => by cases h
 | q :: m, 0, p, its, ia, ic, h => by
  obtain rfl := Option.some.inj h
  rfl
 | q :: m, j + 1, p, its, ia, ic, h => by
  have ih := grC_set its ia ic (show m[j]? = some p from h)
  have e : ∀ q : CellP, grC (q :: m) = cellC q ++ grC m := fun q => by unfold grC; rw [List.flatMap_cons]
  rw [e, List.set_cons_succ, show (j + 1) * 5 + 4 = (j * 5 + 4) + 5 by omega]
  have e2 : grC (q :: m.set j (setI p its ia ic)) = cellC q ++ grC (m.set j (setI p its ia ic)) := by unfold grC; rw [List.flatMap_cons]
  rw [e2, ← ih]
  rfl
theorem SlAt.take {a : Option Addr} {k j : Nat} {xs : List Value} {w : World} (h : SlAt a k xs w) (hj : j ≤ k) : SlAt a j (xs.take j) w :=
 ⟨by rw [List.length_take, h.1]; omega, fun h0 => h.2.1 (by omega), fun i hi => by rw [h.2.2 i (by omega), List.getElem?_take_of_lt hi]⟩
theorem grw_set {n : Nat} {m : List CellP} (h : ∀ p ∈ m, GrwC n p) {j : Nat} {p : CellP} (hp : p ∈ m) {its : List Int} (b ic : Nat) (h0 : ∀ y ∈ its, 0 ≤ y) (hl : its.length ≤ 4) (hc : its.length ≤ ic) : ∀ q ∈ m.set j (setI p its (some ⟨b, 0, none⟩) ic), GrwC n q := fun q hq => by
 rcases List.mem_or_eq_of_mem_set hq with hq | rfl
 ·exact h q hq
 ·have g := h p hp
  exact ⟨⟨g.ok.na, (fun h => by cases h), g.ok.nl, (by show its.length ≤ _; omega), g.ok.nw, g.ok.tl, g.ok.nb, hc⟩, h0, hl, g.nl, g.tl⟩
theorem grw_small {n : Nat} {m : List CellP} (h : ∀ p ∈ m, GrwC n p) (hl : m.length ≤ 12) : Small m :=
 ⟨by omega, fun p hp => ⟨by have := (h p hp).nl; omega, by have := (h p hp).il; omega⟩⟩
theorem Valid_b (a : Option Addr) (ca : Nat) (l : List CellP) (ha : a = none → l = []) (hl : l.length ≤ 200000000000000) (hok : ∀ p ∈ l, CellOk p) :
  ∃ b : Bool, (b = true ↔ ValidP (l.map (·.c))) ∧ ∀ H, (∀ w, Facts H w → GrF a l w) → SpecH Tryz.prog 31 (pvs [.slice a l.length ca]) H (Ret (.bool b) H) := by
 obtain ⟨b, hb⟩ : ∃ b : Bool, b = true ↔ ValidP (l.map (·.c)) := by
  by_cases h : ValidP (l.map (·.c))
  ·exact ⟨true, fun _ => h, fun _ => rfl⟩
  ·exact ⟨false, (fun h => by cases h), fun h2 => absurd h2 h⟩
 refine ⟨b, hb, fun H hH => ?_⟩
 obtain ⟨b2, hb2, h⟩ := Valid_c a ca l ha hl hok H hH
 obtain rfl : b2 = b := by rw [Bool.eq_iff_iff, hb, hb2]
 exact h
theorem set_rows {m : List CellP} {j : Nat} {p : CellP} (hp : p ∈ m) {its : List Int} {ia : Option Addr} {ic : Nat} {w : World} (h : ∀ q ∈ m, CellF q w) (hi : SlAt ia (its.length * 1) (iC its) w) : ∀ q ∈ m.set j (setI p its ia ic), CellF q w := fun q hq => by
 rcases List.mem_or_eq_of_mem_set hq with hq | rfl
 ·exact h q hq
 ·exact ⟨(h p hp).1, hi⟩
def GrwR (v : Value) (G : World → Prop) : Prop := ∃ (oa : Option Addr) (oc : Nat) (m : List CellP), v = .slice oa m.length oc ∧ (oa = none → m = []) ∧ (∀ p ∈ m, CellOk p) ∧ Small m ∧ (m = [] ∨ ValidP (m.map (·.c))) ∧ (m.length ≤ 12 ∧ ∀ p ∈ m, p.c.items.length ≤ 4 ∧ p.c.names.length ≤ 2 ∧ p.c.text.length ≤ 2) ∧ ∀ w, G w → GrF oa m w
structure GSt where
 i : Nat
 ob : Option Nat
 oc : Nat
 m : List CellP
set_option maxHeartbeats 4000000 in
theorem Grown_c (a : Option Addr) (ca : Nat) (L : List Int) (ha : a = none → L = []) (hl : L.length ≤ 200000000000000) : SpecF Tryz.prog 12 [.slice a L.length ca] (fun w => SlAt a (L.length * 1) (iC L) w) GrwR := by
 refine specF hm Tryz.func12 (by kernel_rfl) rfl rfl ?_
 (first | refine wX ?_ | exact wZ)
 obtain ⟨n, hn⟩ : ∃ n, n = min L.length 12 := ⟨_, rfl⟩
 refine LoopN.introS GSt (fun ⟨i, ob, oc, m⟩ => i ≤ n ∧ m.length = i ∧ (∀ p ∈ m, GrwC n p) ∧ (ob = none → m = []) ∧ m.length ≤ oc) (fun ⟨i, ob, oc, m⟩ => mkS Tryz.f12.ntmps 0 [(0, .c (.v (.slice a L.length ca))), (3, .c (.v (.int .i64 (n : Int)))), (4, .c (.v (.slice (at0 ob) m.length oc))), (5, .c (.v (.int .i64 (i : Int))))]) (fun ⟨i, ob, oc, m⟩ => [.fact (fun w => SlAt a (L.length * 1) (iC L) w), .app 57 5 (grC m) (at0 ob) m.length oc, .fact (fun w => ∀ p ∈ m, CellF p w)]) (fun ⟨i, _, _, _⟩ => n - i) [.app 57 5 [] none 0 0, .dead] rfl (fun _ => rfl) (fun _ => rfl) (fun _ _ => ⟨trivial, trivial, trivial, trivial⟩) ?_ ?_
 ·refine ⟨⟨0, none, 0, []⟩, ⟨Nat.zero_le _, rfl, (fun p h => by cases h), (fun _ => rfl), Nat.le_refl _⟩, ?_, [.fact (fun w => SlAt a (L.length * 1) (iC L) w), .app 57 5 [] none 0 0, .fact (fun w => ∀ p ∈ [], CellF p w)], turnS ⟨.inr (.inl rfl), .inr (.inl rfl), .inr (.inr ⟨_, rfl, fun w _ p hp => by cases hp⟩), trivial⟩, wkH_refl _⟩
  (repeat' (first | exact trivial | refine And.intro (by with_reducible rfl) ?_ | (with_reducible exact wkC_refl _) | (with_reducible exact wkCs_refl _) | refine And.intro ?_ ?_))
  all_goals first | rfl | exact av_int (by rw [hn]; unfold Go.AX.minI; split <;> omega)
 rintro ⟨i, ob, oc, m⟩ ⟨hi, hml, hmo, hoa, hoc⟩
 (first | refine wX ?_ | exact wZ)
 refine brd_dec (fun h1 => ?_) (fun h1 => ?_)
 ·obtain ⟨z, hz⟩ : ∃ z, L[i]? = some z := ⟨_, List.getElem?_eq_getElem (by omega)⟩
  have hsa : a.isSome = true := by
   cases a with
   | none => rw [ha rfl] at hz; cases hz
   | some b => rfl
  (first | refine wX ?_ | exact wZ)
  refine Nd.mk ⟨hsa, by omega, by omega⟩ ?_
  (first | refine wX ?_ | exact wZ)
  refine LdN.one (.int .i64 z) rfl (fun w hw => hw.1) (by rw [Int.toNat_natCast]; show (iC L)[i * 1]? = _; rw [Nat.mul_one]; exact iC_get hz) ?_
  (first | refine wX ?_ | exact wZ)
  have hXb := wrap_u64_bd z
  generalize IntKind.u64.wrap z = X at *
  have hx0 : IntKind.u64.wrap (X.tdiv 9) = X / 9 := by rw [Int.tdiv_eq_ediv_of_nonneg (by omega)]; exact wrap_u64 (by omega)
  have hk0 : IntKind.i64.wrap (X.tmod 9) = X % 9 := by rw [Int.tmod_eq_emod_of_nonneg (by omega)]; exact wrap_i64 (by omega)
  rw [hx0, hk0]
  obtain ⟨x, hx⟩ : ∃ x, x = X / 9 := ⟨_, rfl⟩
  obtain ⟨kd, hkd⟩ : ∃ kd, kd = X % 9 := ⟨_, rfl⟩
  rw [← hx, ← hkd]
  have hxb : 0 ≤ x ∧ x ≤ 2049638230412172402 := by omega
  have hkb : 0 ≤ kd ∧ kd ≤ 8 := by omega
  clear hx0 hk0
  have hkk : kd = 0 ∨ kd = 1 ∨ kd = 2 ∨ kd = 3 ∨ kd = 4 ∨ kd = 5 ∨ kd = 6 ∨ kd = 7 ∨ kd = 8 := by omega
  clear hkd hkb hXb
  rcases hkk with rfl | rfl | rfl | rfl | rfl | rfl | rfl | rfl | rfl
  ·-- the cell is put behind the graph; ⟨⟨0, 0, [], [], []⟩, none, 0, none, 0⟩: the cell, , .dead, .dead: what else is over, ⟨SlAt.nil, SlAt.nil⟩: its rows
   (first | refine wX ?_ | exact wZ)
   try refine Nd.mk ⟨Nat.le_refl 1, rfl, rfl⟩ ?_
   (conv => whnf)
   refine AppN.grow 1 (grC m) (cellC (⟨⟨0, 0, [], [], []⟩, none, 0, none, 0⟩ : CellP)) rfl rfl ⟨Nat.le_refl 1, ⟨by show (m.length + 1) * 80 ≤ _; omega, by omega⟩, by decide⟩ fun ob2 oc2 hoc2 _ => ?_
   (first | refine wX ?_ | exact wZ)
   have hm2 : m.length + 1 = (m ++ [(⟨⟨0, 0, [], [], []⟩, none, 0, none, 0⟩ : CellP)]).length := by simp
   have hg2 := grC_snoc m ⟨⟨0, 0, [], [], []⟩, none, 0, none, 0⟩
   refine ⟨⟨i + 1, some ob2, oc2, m ++ [⟨⟨0, 0, [], [], []⟩, none, 0, none, 0⟩]⟩, ⟨by omega, by rw [← hm2, hml], ?_, (fun h => by cases h), by rw [← hm2]; exact hoc2⟩, by show n - (i + 1) < n - i; omega, ?_, [.fact (fun w => SlAt a (L.length * 1) (iC L) w), .app 57 5 (grC m ++ cellC ⟨⟨0, 0, [], [], []⟩, none, 0, none, 0⟩) (some ⟨ob2, 0, none⟩) (m.length + 1) oc2, .fact (fun w => ∀ q ∈ m ++ [(⟨⟨0, 0, [], [], []⟩, none, 0, none, 0⟩ : CellP)], CellF q w), .dead, .dead], turnS ⟨.inr (.inl rfl), .inr (.inl rfl), .inr (.inr ⟨_, rfl, fun w hw q hq => ?_⟩), by repeat (first | exact trivial | refine ⟨.inl rfl, ?_⟩)⟩, ?_⟩
   ·intro q hq
    rcases List.mem_append.1 hq with hq | hq
    ·exact hmo q hq
    ·rw [List.mem_singleton.1 hq]
     exact grw_plain n _ _ _ (by decide)
   ·(repeat' (first | exact trivial | refine And.intro (by with_reducible rfl) ?_ | (with_reducible exact wkC_refl _) | (with_reducible exact wkCs_refl _) | refine And.intro ?_ ?_))
    all_goals first | rfl | exact av_int (by rw [wrap_i64 (by omega)]; omega) | (rw [hm2]; rfl)
   ·rcases List.mem_append.1 hq with hq | hq
    ·exact hw.2.1 q hq
    ·rw [List.mem_singleton.1 hq]
     exact ⟨SlAt.nil, SlAt.nil⟩
   ·show wkH _ [Ent.fact _, .app 57 5 (grC (m ++ [_])) _ (m ++ [_]).length _, _]
    rw [← hm2, hg2]
    exact ⟨wkE_refl _, wkE_refl _, wkE_refl _, trivial⟩
  ·-- the cell is put behind the graph; ⟨⟨1, 0, [], [], []⟩, none, 0, none, 0⟩: the cell, , .dead, .dead: what else is over, ⟨SlAt.nil, SlAt.nil⟩: its rows
   (first | refine wX ?_ | exact wZ)
   try refine Nd.mk ⟨Nat.le_refl 1, rfl, rfl⟩ ?_
   (conv => whnf)
   refine AppN.grow 1 (grC m) (cellC (⟨⟨1, 0, [], [], []⟩, none, 0, none, 0⟩ : CellP)) rfl rfl ⟨Nat.le_refl 1, ⟨by show (m.length + 1) * 80 ≤ _; omega, by omega⟩, by decide⟩ fun ob2 oc2 hoc2 _ => ?_
   (first | refine wX ?_ | exact wZ)
   have hm2 : m.length + 1 = (m ++ [(⟨⟨1, 0, [], [], []⟩, none, 0, none, 0⟩ : CellP)]).length := by simp
   have hg2 := grC_snoc m ⟨⟨1, 0, [], [], []⟩, none, 0, none, 0⟩
   refine ⟨⟨i + 1, some ob2, oc2, m ++ [⟨⟨1, 0, [], [], []⟩, none, 0, none, 0⟩]⟩, ⟨by omega, by rw [← hm2, hml], ?_, (fun h => by cases h), by rw [← hm2]; exact hoc2⟩, by show n - (i + 1) < n - i; omega, ?_, [.fact (fun w => SlAt a (L.length * 1) (iC L) w), .app 57 5 (grC m ++ cellC ⟨⟨1, 0, [], [], []⟩, none, 0, none, 0⟩) (some ⟨ob2, 0, none⟩) (m.length + 1) oc2, .fact (fun w => ∀ q ∈ m ++ [(⟨⟨1, 0, [], [], []⟩, none, 0, none, 0⟩ : CellP)], CellF q w), .dead, .dead], turnS ⟨.inr (.inl rfl), .inr (.inl rfl), .inr (.inr ⟨_, rfl, fun w hw q hq => ?_⟩), by repeat (first | exact trivial | refine ⟨.inl rfl, ?_⟩)⟩, ?_⟩
   ·intro q hq
    rcases List.mem_append.1 hq with hq | hq
    ·exact hmo q hq
    ·rw [List.mem_singleton.1 hq]
     exact grw_plain n _ _ _ (by decide)
   ·(repeat' (first | exact trivial | refine And.intro (by with_reducible rfl) ?_ | (with_reducible exact wkC_refl _) | (with_reducible exact wkCs_refl _) | refine And.intro ?_ ?_))
    all_goals first | rfl | exact av_int (by rw [wrap_i64 (by omega)]; omega) | (rw [hm2]; rfl)
   ·rcases List.mem_append.1 hq with hq | hq
    ·exact hw.2.1 q hq
    ·rw [List.mem_singleton.1 hq]
     exact ⟨SlAt.nil, SlAt.nil⟩
   ·show wkH _ [Ent.fact _, .app 57 5 (grC (m ++ [_])) _ (m ++ [_]).length _, _]
    rw [← hm2, hg2]
    exact ⟨wkE_refl _, wkE_refl _, wkE_refl _, trivial⟩
  ·-- the cell is put behind the graph; ⟨⟨2, 0, [], [], []⟩, none, 0, none, 0⟩: the cell, , .dead, .dead: what else is over, ⟨SlAt.nil, SlAt.nil⟩: its rows
   (first | refine wX ?_ | exact wZ)
   try refine Nd.mk ⟨Nat.le_refl 1, rfl, rfl⟩ ?_
   (conv => whnf)
   refine AppN.grow 1 (grC m) (cellC (⟨⟨2, 0, [], [], []⟩, none, 0, none, 0⟩ : CellP)) rfl rfl ⟨Nat.le_refl 1, ⟨by show (m.length + 1) * 80 ≤ _; omega, by omega⟩, by decide⟩ fun ob2 oc2 hoc2 _ => ?_
   (first | refine wX ?_ | exact wZ)
   have hm2 : m.length + 1 = (m ++ [(⟨⟨2, 0, [], [], []⟩, none, 0, none, 0⟩ : CellP)]).length := by simp
   have hg2 := grC_snoc m ⟨⟨2, 0, [], [], []⟩, none, 0, none, 0⟩
   refine ⟨⟨i + 1, some ob2, oc2, m ++ [⟨⟨2, 0, [], [], []⟩, none, 0, none, 0⟩]⟩, ⟨by omega, by rw [← hm2, hml], ?_, (fun h => by cases h), by rw [← hm2]; exact hoc2⟩, by show n - (i + 1) < n - i; omega, ?_, [.fact (fun w => SlAt a (L.length * 1) (iC L) w), .app 57 5 (grC m ++ cellC ⟨⟨2, 0, [], [], []⟩, none, 0, none, 0⟩) (some ⟨ob2, 0, none⟩) (m.length + 1) oc2, .fact (fun w => ∀ q ∈ m ++ [(⟨⟨2, 0, [], [], []⟩, none, 0, none, 0⟩ : CellP)], CellF q w), .dead, .dead], turnS ⟨.inr (.inl rfl), .inr (.inl rfl), .inr (.inr ⟨_, rfl, fun w hw q hq => ?_⟩), by repeat (first | exact trivial | refine ⟨.inl rfl, ?_⟩)⟩, ?_⟩
   ·intro q hq
    rcases List.mem_append.1 hq with hq | hq
    ·exact hmo q hq
    ·rw [List.mem_singleton.1 hq]
     exact grw_plain n _ _ _ (by decide)
   ·(repeat' (first | exact trivial | refine And.intro (by with_reducible rfl) ?_ | (with_reducible exact wkC_refl _) | (with_reducible exact wkCs_refl _) | refine And.intro ?_ ?_))
    all_goals first | rfl | exact av_int (by rw [wrap_i64 (by omega)]; omega) | (rw [hm2]; rfl)
   ·rcases List.mem_append.1 hq with hq | hq
    ·exact hw.2.1 q hq
    ·rw [List.mem_singleton.1 hq]
     exact ⟨SlAt.nil, SlAt.nil⟩
   ·show wkH _ [Ent.fact _, .app 57 5 (grC (m ++ [_])) _ (m ++ [_]).length _, _]
    rw [← hm2, hg2]
    exact ⟨wkE_refl _, wkE_refl _, wkE_refl _, trivial⟩
  ·(first | refine wX ?_ | exact wZ)
   generalize IntKind.i64.wrap (IntKind.i64.wrap (x.tmod 5) - 2) = nu at *
   (first | refine wX ?_ | exact wZ)
   try refine Nd.mk ⟨Nat.le_refl 1, rfl, rfl⟩ ?_
   (conv => whnf)
   refine AppN.grow 1 (grC m) (cellC (⟨⟨3, nu, [], [], []⟩, none, 0, none, 0⟩ : CellP)) rfl rfl ⟨Nat.le_refl 1, ⟨by show (m.length + 1) * 80 ≤ _; omega, by omega⟩, by decide⟩ fun ob2 oc2 hoc2 _ => ?_
   (first | refine wX ?_ | exact wZ)
   have hm2 : m.length + 1 = (m ++ [(⟨⟨3, nu, [], [], []⟩, none, 0, none, 0⟩ : CellP)]).length := by simp
   have hg2 := grC_snoc m ⟨⟨3, nu, [], [], []⟩, none, 0, none, 0⟩
   refine ⟨⟨i + 1, some ob2, oc2, m ++ [⟨⟨3, nu, [], [], []⟩, none, 0, none, 0⟩]⟩, ⟨by omega, by rw [← hm2, hml], ?_, (fun h => by cases h), by rw [← hm2]; exact hoc2⟩, by show n - (i + 1) < n - i; omega, ?_, [.fact (fun w => SlAt a (L.length * 1) (iC L) w), .app 57 5 (grC m ++ cellC ⟨⟨3, nu, [], [], []⟩, none, 0, none, 0⟩) (some ⟨ob2, 0, none⟩) (m.length + 1) oc2, .fact (fun w => ∀ q ∈ m ++ [(⟨⟨3, nu, [], [], []⟩, none, 0, none, 0⟩ : CellP)], CellF q w), .dead, .dead], turnS ⟨.inr (.inl rfl), .inr (.inl rfl), .inr (.inr ⟨_, rfl, fun w hw q hq => ?_⟩), by repeat (first | exact trivial | refine ⟨.inl rfl, ?_⟩)⟩, ?_⟩
   ·intro q hq
    rcases List.mem_append.1 hq with hq | hq
    ·exact hmo q hq
    ·rw [List.mem_singleton.1 hq]
     exact grw_plain n _ _ _ (by decide)
   ·(repeat' (first | exact trivial | refine And.intro (by with_reducible rfl) ?_ | (with_reducible exact wkC_refl _) | (with_reducible exact wkCs_refl _) | refine And.intro ?_ ?_))
    all_goals first | rfl | exact av_int (by rw [wrap_i64 (by omega)]; omega) | (rw [hm2]; rfl)
   ·rcases List.mem_append.1 hq with hq | hq
    ·exact hw.2.1 q hq
    ·rw [List.mem_singleton.1 hq]
     exact ⟨SlAt.nil, SlAt.nil⟩
   ·show wkH _ [Ent.fact _, .app 57 5 (grC (m ++ [_])) _ (m ++ [_]).length _, _]
    rw [← hm2, hg2]
    exact ⟨wkE_refl _, wkE_refl _, wkE_refl _, trivial⟩
  ·(first | refine wX ?_ | exact wZ)
   rw [show x.tmod 4 = x % 4 by rw [Int.tmod_eq_emod_of_nonneg (by omega)]]
   have hj : x % 4 = 0 ∨ x % 4 = 1 ∨ x % 4 = 2 ∨ x % 4 = 3 := by omega
   rcases hj with e | e | e | e <;> rw [e]
   ·-- the cell is put behind the graph; ⟨⟨4, 0, [97], [], []⟩, none, 0, none, 0⟩: the cell, , .dead, .dead, .dead: what else is over, ⟨SlAt.nil, SlAt.nil⟩: its rows
    (first | refine wX ?_ | exact wZ)
    try refine Nd.mk ⟨Nat.le_refl 1, rfl, rfl⟩ ?_
    (conv => whnf)
    refine AppN.grow 1 (grC m) (cellC (⟨⟨4, 0, [97], [], []⟩, none, 0, none, 0⟩ : CellP)) rfl rfl ⟨Nat.le_refl 1, ⟨by show (m.length + 1) * 80 ≤ _; omega, by omega⟩, by decide⟩ fun ob2 oc2 hoc2 _ => ?_
    (first | refine wX ?_ | exact wZ)
    have hm2 : m.length + 1 = (m ++ [(⟨⟨4, 0, [97], [], []⟩, none, 0, none, 0⟩ : CellP)]).length := by simp
    have hg2 := grC_snoc m ⟨⟨4, 0, [97], [], []⟩, none, 0, none, 0⟩
    refine ⟨⟨i + 1, some ob2, oc2, m ++ [⟨⟨4, 0, [97], [], []⟩, none, 0, none, 0⟩]⟩, ⟨by omega, by rw [← hm2, hml], ?_, (fun h => by cases h), by rw [← hm2]; exact hoc2⟩, by show n - (i + 1) < n - i; omega, ?_, [.fact (fun w => SlAt a (L.length * 1) (iC L) w), .app 57 5 (grC m ++ cellC ⟨⟨4, 0, [97], [], []⟩, none, 0, none, 0⟩) (some ⟨ob2, 0, none⟩) (m.length + 1) oc2, .fact (fun w => ∀ q ∈ m ++ [(⟨⟨4, 0, [97], [], []⟩, none, 0, none, 0⟩ : CellP)], CellF q w), .dead, .dead, .dead], turnS ⟨.inr (.inl rfl), .inr (.inl rfl), .inr (.inr ⟨_, rfl, fun w hw q hq => ?_⟩), by repeat (first | exact trivial | refine ⟨.inl rfl, ?_⟩)⟩, ?_⟩
    ·intro q hq
     rcases List.mem_append.1 hq with hq | hq
     ·exact hmo q hq
     ·rw [List.mem_singleton.1 hq]
      exact grw_plain n _ _ _ (by decide)
    ·(repeat' (first | exact trivial | refine And.intro (by with_reducible rfl) ?_ | (with_reducible exact wkC_refl _) | (with_reducible exact wkCs_refl _) | refine And.intro ?_ ?_))
     all_goals first | rfl | exact av_int (by rw [wrap_i64 (by omega)]; omega) | (rw [hm2]; rfl)
    ·rcases List.mem_append.1 hq with hq | hq
     ·exact hw.2.1 q hq
     ·rw [List.mem_singleton.1 hq]
      exact ⟨SlAt.nil, SlAt.nil⟩
    ·show wkH _ [Ent.fact _, .app 57 5 (grC (m ++ [_])) _ (m ++ [_]).length _, _]
     rw [← hm2, hg2]
     exact ⟨wkE_refl _, wkE_refl _, wkE_refl _, trivial⟩
   ·-- the cell is put behind the graph; ⟨⟨4, 0, [98], [], []⟩, none, 0, none, 0⟩: the cell, , .dead, .dead, .dead: what else is over, ⟨SlAt.nil, SlAt.nil⟩: its rows
    (first | refine wX ?_ | exact wZ)
    try refine Nd.mk ⟨Nat.le_refl 1, rfl, rfl⟩ ?_
    (conv => whnf)
    refine AppN.grow 1 (grC m) (cellC (⟨⟨4, 0, [98], [], []⟩, none, 0, none, 0⟩ : CellP)) rfl rfl ⟨Nat.le_refl 1, ⟨by show (m.length + 1) * 80 ≤ _; omega, by omega⟩, by decide⟩ fun ob2 oc2 hoc2 _ => ?_
    (first | refine wX ?_ | exact wZ)
    have hm2 : m.length + 1 = (m ++ [(⟨⟨4, 0, [98], [], []⟩, none, 0, none, 0⟩ : CellP)]).length := by simp
    have hg2 := grC_snoc m ⟨⟨4, 0, [98], [], []⟩, none, 0, none, 0⟩
    refine ⟨⟨i + 1, some ob2, oc2, m ++ [⟨⟨4, 0, [98], [], []⟩, none, 0, none, 0⟩]⟩, ⟨by omega, by rw [← hm2, hml], ?_, (fun h => by cases h), by rw [← hm2]; exact hoc2⟩, by show n - (i + 1) < n - i; omega, ?_, [.fact (fun w => SlAt a (L.length * 1) (iC L) w), .app 57 5 (grC m ++ cellC ⟨⟨4, 0, [98], [], []⟩, none, 0, none, 0⟩) (some ⟨ob2, 0, none⟩) (m.length + 1) oc2, .fact (fun w => ∀ q ∈ m ++ [(⟨⟨4, 0, [98], [], []⟩, none, 0, none, 0⟩ : CellP)], CellF q w), .dead, .dead, .dead], turnS ⟨.inr (.inl rfl), .inr (.inl rfl), .inr (.inr ⟨_, rfl, fun w hw q hq => ?_⟩), by repeat (first | exact trivial | refine ⟨.inl rfl, ?_⟩)⟩, ?_⟩
    ·intro q hq
     rcases List.mem_append.1 hq with hq | hq
     ·exact hmo q hq
     ·rw [List.mem_singleton.1 hq]
      exact grw_plain n _ _ _ (by decide)
    ·(repeat' (first | exact trivial | refine And.intro (by with_reducible rfl) ?_ | (with_reducible exact wkC_refl _) | (with_reducible exact wkCs_refl _) | refine And.intro ?_ ?_))
     all_goals first | rfl | exact av_int (by rw [wrap_i64 (by omega)]; omega) | (rw [hm2]; rfl)
    ·rcases List.mem_append.1 hq with hq | hq
     ·exact hw.2.1 q hq
     ·rw [List.mem_singleton.1 hq]
      exact ⟨SlAt.nil, SlAt.nil⟩
    ·show wkH _ [Ent.fact _, .app 57 5 (grC (m ++ [_])) _ (m ++ [_]).length _, _]
     rw [← hm2, hg2]
     exact ⟨wkE_refl _, wkE_refl _, wkE_refl _, trivial⟩
   ·-- the cell is put behind the graph; ⟨⟨4, 0, [35], [], []⟩, none, 0, none, 0⟩: the cell, , .dead, .dead, .dead: what else is over, ⟨SlAt.nil, SlAt.nil⟩: its rows
    (first | refine wX ?_ | exact wZ)
    try refine Nd.mk ⟨Nat.le_refl 1, rfl, rfl⟩ ?_
    (conv => whnf)
    refine AppN.grow 1 (grC m) (cellC (⟨⟨4, 0, [35], [], []⟩, none, 0, none, 0⟩ : CellP)) rfl rfl ⟨Nat.le_refl 1, ⟨by show (m.length + 1) * 80 ≤ _; omega, by omega⟩, by decide⟩ fun ob2 oc2 hoc2 _ => ?_
    (first | refine wX ?_ | exact wZ)
    have hm2 : m.length + 1 = (m ++ [(⟨⟨4, 0, [35], [], []⟩, none, 0, none, 0⟩ : CellP)]).length := by simp
    have hg2 := grC_snoc m ⟨⟨4, 0, [35], [], []⟩, none, 0, none, 0⟩
    refine ⟨⟨i + 1, some ob2, oc2, m ++ [⟨⟨4, 0, [35], [], []⟩, none, 0, none, 0⟩]⟩, ⟨by omega, by rw [← hm2, hml], ?_, (fun h => by cases h), by rw [← hm2]; exact hoc2⟩, by show n - (i + 1) < n - i; omega, ?_, [.fact (fun w => SlAt a (L.length * 1) (iC L) w), .app 57 5 (grC m ++ cellC ⟨⟨4, 0, [35], [], []⟩, none, 0, none, 0⟩) (some ⟨ob2, 0, none⟩) (m.length + 1) oc2, .fact (fun w => ∀ q ∈ m ++ [(⟨⟨4, 0, [35], [], []⟩, none, 0, none, 0⟩ : CellP)], CellF q w), .dead, .dead, .dead], turnS ⟨.inr (.inl rfl), .inr (.inl rfl), .inr (.inr ⟨_, rfl, fun w hw q hq => ?_⟩), by repeat (first | exact trivial | refine ⟨.inl rfl, ?_⟩)⟩, ?_⟩
    ·intro q hq
     rcases List.mem_append.1 hq with hq | hq
     ·exact hmo q hq
     ·rw [List.mem_singleton.1 hq]
      exact grw_plain n _ _ _ (by decide)
    ·(repeat' (first | exact trivial | refine And.intro (by with_reducible rfl) ?_ | (with_reducible exact wkC_refl _) | (with_reducible exact wkCs_refl _) | refine And.intro ?_ ?_))
     all_goals first | rfl | exact av_int (by rw [wrap_i64 (by omega)]; omega) | (rw [hm2]; rfl)
    ·rcases List.mem_append.1 hq with hq | hq
     ·exact hw.2.1 q hq
     ·rw [List.mem_singleton.1 hq]
      exact ⟨SlAt.nil, SlAt.nil⟩
    ·show wkH _ [Ent.fact _, .app 57 5 (grC (m ++ [_])) _ (m ++ [_]).length _, _]
     rw [← hm2, hg2]
     exact ⟨wkE_refl _, wkE_refl _, wkE_refl _, trivial⟩
   ·-- the cell is put behind the graph; ⟨⟨4, 0, [97, 97], [], []⟩, none, 0, none, 0⟩: the cell, , .dead, .dead, .dead: what else is over, ⟨SlAt.nil, SlAt.nil⟩: its rows
    (first | refine wX ?_ | exact wZ)
    try refine Nd.mk ⟨Nat.le_refl 1, rfl, rfl⟩ ?_
    (conv => whnf)
    refine AppN.grow 1 (grC m) (cellC (⟨⟨4, 0, [97, 97], [], []⟩, none, 0, none, 0⟩ : CellP)) rfl rfl ⟨Nat.le_refl 1, ⟨by show (m.length + 1) * 80 ≤ _; omega, by omega⟩, by decide⟩ fun ob2 oc2 hoc2 _ => ?_
    (first | refine wX ?_ | exact wZ)
    have hm2 : m.length + 1 = (m ++ [(⟨⟨4, 0, [97, 97], [], []⟩, none, 0, none, 0⟩ : CellP)]).length := by simp
    have hg2 := grC_snoc m ⟨⟨4, 0, [97, 97], [], []⟩, none, 0, none, 0⟩
    refine ⟨⟨i + 1, some ob2, oc2, m ++ [⟨⟨4, 0, [97, 97], [], []⟩, none, 0, none, 0⟩]⟩, ⟨by omega, by rw [← hm2, hml], ?_, (fun h => by cases h), by rw [← hm2]; exact hoc2⟩, by show n - (i + 1) < n - i; omega, ?_, [.fact (fun w => SlAt a (L.length * 1) (iC L) w), .app 57 5 (grC m ++ cellC ⟨⟨4, 0, [97, 97], [], []⟩, none, 0, none, 0⟩) (some ⟨ob2, 0, none⟩) (m.length + 1) oc2, .fact (fun w => ∀ q ∈ m ++ [(⟨⟨4, 0, [97, 97], [], []⟩, none, 0, none, 0⟩ : CellP)], CellF q w), .dead, .dead, .dead], turnS ⟨.inr (.inl rfl), .inr (.inl rfl), .inr (.inr ⟨_, rfl, fun w hw q hq => ?_⟩), by repeat (first | exact trivial | refine ⟨.inl rfl, ?_⟩)⟩, ?_⟩
    ·intro q hq
     rcases List.mem_append.1 hq with hq | hq
     ·exact hmo q hq
     ·rw [List.mem_singleton.1 hq]
      exact grw_plain n _ _ _ (by decide)
    ·(repeat' (first | exact trivial | refine And.intro (by with_reducible rfl) ?_ | (with_reducible exact wkC_refl _) | (with_reducible exact wkCs_refl _) | refine And.intro ?_ ?_))
     all_goals first | rfl | exact av_int (by rw [wrap_i64 (by omega)]; omega) | (rw [hm2]; rfl)
    ·rcases List.mem_append.1 hq with hq | hq
     ·exact hw.2.1 q hq
     ·rw [List.mem_singleton.1 hq]
      exact ⟨SlAt.nil, SlAt.nil⟩
    ·show wkH _ [Ent.fact _, .app 57 5 (grC (m ++ [_])) _ (m ++ [_]).length _, _]
     rw [← hm2, hg2]
     exact ⟨wkE_refl _, wkE_refl _, wkE_refl _, trivial⟩
  ·(first | refine wX ?_ | exact wZ)
   rw [show x.tmod 4 = x % 4 by rw [Int.tmod_eq_emod_of_nonneg (by omega)]]
   have hj : x % 4 = 0 ∨ x % 4 = 1 ∨ x % 4 = 2 ∨ x % 4 = 3 := by omega
   rcases hj with e | e | e | e <;> rw [e]
   ·-- the cell is put behind the graph; ⟨⟨5, 0, [97], [], []⟩, none, 0, none, 0⟩: the cell, , .dead, .dead, .dead: what else is over, ⟨SlAt.nil, SlAt.nil⟩: its rows
    (first | refine wX ?_ | exact wZ)
    try refine Nd.mk ⟨Nat.le_refl 1, rfl, rfl⟩ ?_
    (conv => whnf)
    refine AppN.grow 1 (grC m) (cellC (⟨⟨5, 0, [97], [], []⟩, none, 0, none, 0⟩ : CellP)) rfl rfl ⟨Nat.le_refl 1, ⟨by show (m.length + 1) * 80 ≤ _; omega, by omega⟩, by decide⟩ fun ob2 oc2 hoc2 _ => ?_
    (first | refine wX ?_ | exact wZ)
    have hm2 : m.length + 1 = (m ++ [(⟨⟨5, 0, [97], [], []⟩, none, 0, none, 0⟩ : CellP)]).length := by simp
    have hg2 := grC_snoc m ⟨⟨5, 0, [97], [], []⟩, none, 0, none, 0⟩
    refine ⟨⟨i + 1, some ob2, oc2, m ++ [⟨⟨5, 0, [97], [], []⟩, none, 0, none, 0⟩]⟩, ⟨by omega, by rw [← hm2, hml], ?_, (fun h => by cases h), by rw [← hm2]; exact hoc2⟩, by show n - (i + 1) < n - i; omega, ?_, [.fact (fun w => SlAt a (L.length * 1) (iC L) w), .app 57 5 (grC m ++ cellC ⟨⟨5, 0, [97], [], []⟩, none, 0, none, 0⟩) (some ⟨ob2, 0, none⟩) (m.length + 1) oc2, .fact (fun w => ∀ q ∈ m ++ [(⟨⟨5, 0, [97], [], []⟩, none, 0, none, 0⟩ : CellP)], CellF q w), .dead, .dead, .dead], turnS ⟨.inr (.inl rfl), .inr (.inl rfl), .inr (.inr ⟨_, rfl, fun w hw q hq => ?_⟩), by repeat (first | exact trivial | refine ⟨.inl rfl, ?_⟩)⟩, ?_⟩
    ·intro q hq
     rcases List.mem_append.1 hq with hq | hq
     ·exact hmo q hq
     ·rw [List.mem_singleton.1 hq]
      exact grw_plain n _ _ _ (by decide)
    ·(repeat' (first | exact trivial | refine And.intro (by with_reducible rfl) ?_ | (with_reducible exact wkC_refl _) | (with_reducible exact wkCs_refl _) | refine And.intro ?_ ?_))
     all_goals first | rfl | exact av_int (by rw [wrap_i64 (by omega)]; omega) | (rw [hm2]; rfl)
    ·rcases List.mem_append.1 hq with hq | hq
     ·exact hw.2.1 q hq
     ·rw [List.mem_singleton.1 hq]
      exact ⟨SlAt.nil, SlAt.nil⟩
    ·show wkH _ [Ent.fact _, .app 57 5 (grC (m ++ [_])) _ (m ++ [_]).length _, _]
     rw [← hm2, hg2]
     exact ⟨wkE_refl _, wkE_refl _, wkE_refl _, trivial⟩
   ·-- the cell is put behind the graph; ⟨⟨5, 0, [98], [], []⟩, none, 0, none, 0⟩: the cell, , .dead, .dead, .dead: what else is over, ⟨SlAt.nil, SlAt.nil⟩: its rows
    (first | refine wX ?_ | exact wZ)
    try refine Nd.mk ⟨Nat.le_refl 1, rfl, rfl⟩ ?_
    (conv => whnf)
    refine AppN.grow 1 (grC m) (cellC (⟨⟨5, 0, [98], [], []⟩, none, 0, none, 0⟩ : CellP)) rfl rfl ⟨Nat.le_refl 1, ⟨by show (m.length + 1) * 80 ≤ _; omega, by omega⟩, by decide⟩ fun ob2 oc2 hoc2 _ => ?_
    (first | refine wX ?_ | exact wZ)
    have hm2 : m.length + 1 = (m ++ [(⟨⟨5, 0, [98], [], []⟩, none, 0, none, 0⟩ : CellP)]).length := by simp
    have hg2 := grC_snoc m ⟨⟨5, 0, [98], [], []⟩, none, 0, none, 0⟩
    refine ⟨⟨i + 1, some ob2, oc2, m ++ [⟨⟨5, 0, [98], [], []⟩, none, 0, none, 0⟩]⟩, ⟨by omega, by rw [← hm2, hml], ?_, (fun h => by cases h), by rw [← hm2]; exact hoc2⟩, by show n - (i + 1) < n - i; omega, ?_, [.fact (fun w => SlAt a (L.length * 1) (iC L) w), .app 57 5 (grC m ++ cellC ⟨⟨5, 0, [98], [], []⟩, none, 0, none, 0⟩) (some ⟨ob2, 0, none⟩) (m.length + 1) oc2, .fact (fun w => ∀ q ∈ m ++ [(⟨⟨5, 0, [98], [], []⟩, none, 0, none, 0⟩ : CellP)], CellF q w), .dead, .dead, .dead], turnS ⟨.inr (.inl rfl), .inr (.inl rfl), .inr (.inr ⟨_, rfl, fun w hw q hq => ?_⟩), by repeat (first | exact trivial | refine ⟨.inl rfl, ?_⟩)⟩, ?_⟩
    ·intro q hq
     rcases List.mem_append.1 hq with hq | hq
     ·exact hmo q hq
     ·rw [List.mem_singleton.1 hq]
      exact grw_plain n _ _ _ (by decide)
    ·(repeat' (first | exact trivial | refine And.intro (by with_reducible rfl) ?_ | (with_reducible exact wkC_refl _) | (with_reducible exact wkCs_refl _) | refine And.intro ?_ ?_))
     all_goals first | rfl | exact av_int (by rw [wrap_i64 (by omega)]; omega) | (rw [hm2]; rfl)
    ·rcases List.mem_append.1 hq with hq | hq
     ·exact hw.2.1 q hq
     ·rw [List.mem_singleton.1 hq]
      exact ⟨SlAt.nil, SlAt.nil⟩
    ·show wkH _ [Ent.fact _, .app 57 5 (grC (m ++ [_])) _ (m ++ [_]).length _, _]
     rw [← hm2, hg2]
     exact ⟨wkE_refl _, wkE_refl _, wkE_refl _, trivial⟩
   ·-- the cell is put behind the graph; ⟨⟨5, 0, [35], [], []⟩, none, 0, none, 0⟩: the cell, , .dead, .dead, .dead: what else is over, ⟨SlAt.nil, SlAt.nil⟩: its rows
    (first | refine wX ?_ | exact wZ)
    try refine Nd.mk ⟨Nat.le_refl 1, rfl, rfl⟩ ?_
    (conv => whnf)
    refine AppN.grow 1 (grC m) (cellC (⟨⟨5, 0, [35], [], []⟩, none, 0, none, 0⟩ : CellP)) rfl rfl ⟨Nat.le_refl 1, ⟨by show (m.length + 1) * 80 ≤ _; omega, by omega⟩, by decide⟩ fun ob2 oc2 hoc2 _ => ?_
    (first | refine wX ?_ | exact wZ)
    have hm2 : m.length + 1 = (m ++ [(⟨⟨5, 0, [35], [], []⟩, none, 0, none, 0⟩ : CellP)]).length := by simp
    have hg2 := grC_snoc m ⟨⟨5, 0, [35], [], []⟩, none, 0, none, 0⟩
    refine ⟨⟨i + 1, some ob2, oc2, m ++ [⟨⟨5, 0, [35], [], []⟩, none, 0, none, 0⟩]⟩, ⟨by omega, by rw [← hm2, hml], ?_, (fun h => by cases h), by rw [← hm2]; exact hoc2⟩, by show n - (i + 1) < n - i; omega, ?_, [.fact (fun w => SlAt a (L.length * 1) (iC L) w), .app 57 5 (grC m ++ cellC ⟨⟨5, 0, [35], [], []⟩, none, 0, none, 0⟩) (some ⟨ob2, 0, none⟩) (m.length + 1) oc2, .fact (fun w => ∀ q ∈ m ++ [(⟨⟨5, 0, [35], [], []⟩, none, 0, none, 0⟩ : CellP)], CellF q w), .dead, .dead, .dead], turnS ⟨.inr (.inl rfl), .inr (.inl rfl), .inr (.inr ⟨_, rfl, fun w hw q hq => ?_⟩), by repeat (first | exact trivial | refine ⟨.inl rfl, ?_⟩)⟩, ?_⟩
    ·intro q hq
     rcases List.mem_append.1 hq with hq | hq
     ·exact hmo q hq
     ·rw [List.mem_singleton.1 hq]
      exact grw_plain n _ _ _ (by decide)
    ·(repeat' (first | exact trivial | refine And.intro (by with_reducible rfl) ?_ | (with_reducible exact wkC_refl _) | (with_reducible exact wkCs_refl _) | refine And.intro ?_ ?_))
     all_goals first | rfl | exact av_int (by rw [wrap_i64 (by omega)]; omega) | (rw [hm2]; rfl)
    ·rcases List.mem_append.1 hq with hq | hq
     ·exact hw.2.1 q hq
     ·rw [List.mem_singleton.1 hq]
      exact ⟨SlAt.nil, SlAt.nil⟩
    ·show wkH _ [Ent.fact _, .app 57 5 (grC (m ++ [_])) _ (m ++ [_]).length _, _]
     rw [← hm2, hg2]
     exact ⟨wkE_refl _, wkE_refl _, wkE_refl _, trivial⟩
   ·-- the cell is put behind the graph; ⟨⟨5, 0, [97, 97], [], []⟩, none, 0, none, 0⟩: the cell, , .dead, .dead, .dead: what else is over, ⟨SlAt.nil, SlAt.nil⟩: its rows
    (first | refine wX ?_ | exact wZ)
    try refine Nd.mk ⟨Nat.le_refl 1, rfl, rfl⟩ ?_
    (conv => whnf)
    refine AppN.grow 1 (grC m) (cellC (⟨⟨5, 0, [97, 97], [], []⟩, none, 0, none, 0⟩ : CellP)) rfl rfl ⟨Nat.le_refl 1, ⟨by show (m.length + 1) * 80 ≤ _; omega, by omega⟩, by decide⟩ fun ob2 oc2 hoc2 _ => ?_
    (first | refine wX ?_ | exact wZ)
    have hm2 : m.length + 1 = (m ++ [(⟨⟨5, 0, [97, 97], [], []⟩, none, 0, none, 0⟩ : CellP)]).length := by simp
    have hg2 := grC_snoc m ⟨⟨5, 0, [97, 97], [], []⟩, none, 0, none, 0⟩
    refine ⟨⟨i + 1, some ob2, oc2, m ++ [⟨⟨5, 0, [97, 97], [], []⟩, none, 0, none, 0⟩]⟩, ⟨by omega, by rw [← hm2, hml], ?_, (fun h => by cases h), by rw [← hm2]; exact hoc2⟩, by show n - (i + 1) < n - i; omega, ?_, [.fact (fun w => SlAt a (L.length * 1) (iC L) w), .app 57 5 (grC m ++ cellC ⟨⟨5, 0, [97, 97], [], []⟩, none, 0, none, 0⟩) (some ⟨ob2, 0, none⟩) (m.length + 1) oc2, .fact (fun w => ∀ q ∈ m ++ [(⟨⟨5, 0, [97, 97], [], []⟩, none, 0, none, 0⟩ : CellP)], CellF q w), .dead, .dead, .dead], turnS ⟨.inr (.inl rfl), .inr (.inl rfl), .inr (.inr ⟨_, rfl, fun w hw q hq => ?_⟩), by repeat (first | exact trivial | refine ⟨.inl rfl, ?_⟩)⟩, ?_⟩
    ·intro q hq
     rcases List.mem_append.1 hq with hq | hq
     ·exact hmo q hq
     ·rw [List.mem_singleton.1 hq]
      exact grw_plain n _ _ _ (by decide)
    ·(repeat' (first | exact trivial | refine And.intro (by with_reducible rfl) ?_ | (with_reducible exact wkC_refl _) | (with_reducible exact wkCs_refl _) | refine And.intro ?_ ?_))
     all_goals first | rfl | exact av_int (by rw [wrap_i64 (by omega)]; omega) | (rw [hm2]; rfl)
    ·rcases List.mem_append.1 hq with hq | hq
     ·exact hw.2.1 q hq
     ·rw [List.mem_singleton.1 hq]
      exact ⟨SlAt.nil, SlAt.nil⟩
    ·show wkH _ [Ent.fact _, .app 57 5 (grC (m ++ [_])) _ (m ++ [_]).length _, _]
     rw [← hm2, hg2]
     exact ⟨wkE_refl _, wkE_refl _, wkE_refl _, trivial⟩
  ·(first | refine wX ?_ | exact wZ)
   have hc4 : IntKind.i64.wrap (x.tmod 4) = x % 4 := by rw [Int.tmod_eq_emod_of_nonneg (by omega)]; exact wrap_i64 (by omega)
   refine LoopN.intro (Nat × List Int × BSt) (fun ⟨k, its, o⟩ => k ≤ 3 ∧ its.length = k ∧ (∀ y ∈ its, 0 ≤ y) ∧ o.ok its.length)
    (fun ⟨k, its, o⟩ => mkS Tryz.f12.ntmps 0 [(0, .c (.v (.slice a L.length ca))), (3, .c (.v (.int .i64 (n : Int)))), (4, .c (.v (.slice (at0 ob) m.length oc))), (5, .c (.v (.int .i64 (i : Int)))), (6, .c (.v (.int .u64 x))), (7, .c (.lp 3 0)), (8, .c (.v (.int .i64 (k : Int))))])
    (fun ⟨k, its, o⟩ => [.fact (fun w => SlAt a (L.length * 1) (iC L) w), .app 57 5 (grC m) (at0 ob) m.length oc, .fact (fun w => ∀ p ∈ m, CellF p w), .blk 57 (vs (cellC ⟨⟨6, 0, [], [], its⟩, none, 0, at0 o.ob, o.cap⟩)), .app 3 1 (iC its) (at0 o.ob) its.length o.cap]) (fun ⟨k, _, _⟩ => 4 - k) [.app 3 1 [] none 0 0] rfl (fun ⟨_, _, _⟩ => rfl) (fun ⟨_, _, _⟩ => rfl) (fun ⟨_, _, _⟩ _ => okHB_eq rfl) ?_ ?_
   ·refine ⟨(0, [], ⟨none, 0⟩), ⟨Nat.zero_le _, rfl, (fun y h => by cases h), fun _ => ⟨rfl, rfl⟩, Nat.le_refl _, fun _ => rfl⟩, ?_, wkE_refl _, wkE_refl _, wkE_refl _, wkE_refl _, wkE_refl _, trivial⟩
    exact wKK
   rintro ⟨k, its, ⟨ob0, ocap⟩⟩ ⟨hk, hil, hip, ho⟩
   (first | refine wX ?_ | exact wZ)
   refine brd_dec (fun h2 => ?_) (fun h2 => ?_)
   ·rw [hc4] at h2
    ((conv => whnf); (repeat ((first | refine VrN.keep ?_ | refine BoxN.own ?_ | refine RwN.own ?_); (conv => whnf))))
    refine DrawN.plan [0, 2, 4, 9] [(1, 1), (3, 1), (5, 1), (6, 1), (7, 1), (8, 1), (10, 1), (11, 0)] [(12, 0), (13, 0), (14, 0)] (by decide +kernel) ?_
    (first | refine wX ?_ | exact wZ)
    have hit := grw_item x k 4 7 n hxb (by omega) (by decide) (by decide)
    simp only [Int.cast_ofNat_Int] at hit
    generalize (IntKind.i64.wrap (IntKind.u64.wrap (IntKind.u64.wrap (x.tdiv 4) + IntKind.u64.wrap (IntKind.u64.wrap (k : Int) * 7)))).tmod (n : Int) = it at *
    refine Nd.mk ⟨Nat.le_refl 1, rfl, rfl⟩ ?_
    (conv => whnf)
    refine AppN.grow 4 (iC its) [.int .i64 it] rfl rfl ⟨Nat.le_refl 1, ⟨by show (its.length + 1) * 8 ≤ _; omega, by show its.length + 1 < _; omega⟩, Nat.one_ne_zero⟩ fun wb wc hwc _ => ?_
    have hcl : iC its ++ [.int .i64 it] = iC (its ++ [it]) := by simp [iC]
    have hll : its.length + 1 = (its ++ [it]).length := by simp
    rw [hcl, hll]
    rw [hll] at hwc
    (first | refine wX ?_ | exact wZ)
    refine ⟨(k + 1, its ++ [it], ⟨some wb, wc⟩), ⟨by omega, by rw [← hll, hil], ?_, (fun h => by cases h), hwc, fun h => by have : wc = 0 := h; omega⟩, by show 4 - (k + 1) < 4 - k; omega, ?_, wkE_refl _, wkE_refl _, wkE_refl _, wkE_refl _, wkE_refl _, trivial⟩
    ·intro y hy
     rcases List.mem_append.1 hy with hy | hy
     ·exact hip y hy
     ·rw [List.mem_singleton.1 hy]; exact hit
    exact wKK
   ·clear hc4
    have hna : at0 ob0 = none → its = [] := fun h => by
     cases ob0 with
     | none => exact List.eq_nil_of_length_eq_zero (ho.1 rfl).1
     | some b => cases h
    have hoc2' : its.length ≤ ocap := ho.2.1
    (first | refine wX ?_ | exact wZ)
    try refine Nd.mk ⟨Nat.le_refl 1, rfl, rfl⟩ ?_
    (conv => whnf)
    refine AppN.grow 1 (grC m) (cellC (⟨⟨6, 0, [], [], its⟩, none, 0, at0 ob0, ocap⟩ : CellP)) rfl rfl ⟨Nat.le_refl 1, ⟨by show (m.length + 1) * 80 ≤ _; omega, by omega⟩, by decide⟩ fun ob2 oc2 hoc2 _ => ?_
    (first | refine wX ?_ | exact wZ)
    have hm2 : m.length + 1 = (m ++ [(⟨⟨6, 0, [], [], its⟩, none, 0, at0 ob0, ocap⟩ : CellP)]).length := by simp
    have hg2 := grC_snoc m ⟨⟨6, 0, [], [], its⟩, none, 0, at0 ob0, ocap⟩
    refine ⟨⟨i + 1, some ob2, oc2, m ++ [⟨⟨6, 0, [], [], its⟩, none, 0, at0 ob0, ocap⟩]⟩, ⟨by omega, by rw [← hm2, hml], ?_, (fun h => by cases h), by rw [← hm2]; exact hoc2⟩, by show n - (i + 1) < n - i; omega, ?_, [.fact (fun w => SlAt a (L.length * 1) (iC L) w), .app 57 5 (grC m ++ cellC ⟨⟨6, 0, [], [], its⟩, none, 0, at0 ob0, ocap⟩) (some ⟨ob2, 0, none⟩) (m.length + 1) oc2, .fact (fun w => ∀ q ∈ m ++ [(⟨⟨6, 0, [], [], its⟩, none, 0, at0 ob0, ocap⟩ : CellP)], CellF q w), .dead, .dead, .dead], turnS ⟨.inr (.inl rfl), .inr (.inl rfl), .inr (.inr ⟨_, rfl, fun w hw q hq => ?_⟩), by repeat (first | exact trivial | refine ⟨.inl rfl, ?_⟩)⟩, ?_⟩
    ·intro q hq
     rcases List.mem_append.1 hq with hq | hq
     ·exact hmo q hq
     ·rw [List.mem_singleton.1 hq]
      exact ⟨⟨fun _ => rfl, hna, Nat.zero_le _, by show its.length ≤ _; omega, (fun s h => (by cases h)), Nat.zero_le _, Nat.le_refl _, hoc2'⟩, hip, by show its.length ≤ 4; omega, Nat.zero_le _, Nat.zero_le _⟩
    ·(repeat' (first | exact trivial | refine And.intro (by with_reducible rfl) ?_ | (with_reducible exact wkC_refl _) | (with_reducible exact wkCs_refl _) | refine And.intro ?_ ?_))
     all_goals first | rfl | exact av_int (by rw [wrap_i64 (by omega)]; omega) | (rw [hm2]; rfl)
    ·rcases List.mem_append.1 hq with hq | hq
     ·exact hw.2.1 q hq
     ·rw [List.mem_singleton.1 hq]
      exact ⟨SlAt.nil, hw.2.2.1⟩
    ·show wkH _ [Ent.fact _, .app 57 5 (grC (m ++ [_])) _ (m ++ [_]).length _, _]
     rw [← hm2, hg2]
     exact ⟨wkE_refl _, wkE_refl _, wkE_refl _, trivial⟩
  ·-- the cell is put behind the graph; ⟨⟨7, 0, [], [], []⟩, none, 0, none, 0⟩: the cell, , .dead, .dead: what else is over, ⟨SlAt.nil, SlAt.nil⟩: its rows
   (first | refine wX ?_ | exact wZ)
   try refine Nd.mk ⟨Nat.le_refl 1, rfl, rfl⟩ ?_
   (conv => whnf)
   refine AppN.grow 1 (grC m) (cellC (⟨⟨7, 0, [], [], []⟩, none, 0, none, 0⟩ : CellP)) rfl rfl ⟨Nat.le_refl 1, ⟨by show (m.length + 1) * 80 ≤ _; omega, by omega⟩, by decide⟩ fun ob2 oc2 hoc2 _ => ?_
   (first | refine wX ?_ | exact wZ)
   have hm2 : m.length + 1 = (m ++ [(⟨⟨7, 0, [], [], []⟩, none, 0, none, 0⟩ : CellP)]).length := by simp
   have hg2 := grC_snoc m ⟨⟨7, 0, [], [], []⟩, none, 0, none, 0⟩
   refine ⟨⟨i + 1, some ob2, oc2, m ++ [⟨⟨7, 0, [], [], []⟩, none, 0, none, 0⟩]⟩, ⟨by omega, by rw [← hm2, hml], ?_, (fun h => by cases h), by rw [← hm2]; exact hoc2⟩, by show n - (i + 1) < n - i; omega, ?_, [.fact (fun w => SlAt a (L.length * 1) (iC L) w), .app 57 5 (grC m ++ cellC ⟨⟨7, 0, [], [], []⟩, none, 0, none, 0⟩) (some ⟨ob2, 0, none⟩) (m.length + 1) oc2, .fact (fun w => ∀ q ∈ m ++ [(⟨⟨7, 0, [], [], []⟩, none, 0, none, 0⟩ : CellP)], CellF q w), .dead, .dead], turnS ⟨.inr (.inl rfl), .inr (.inl rfl), .inr (.inr ⟨_, rfl, fun w hw q hq => ?_⟩), by repeat (first | exact trivial | refine ⟨.inl rfl, ?_⟩)⟩, ?_⟩
   ·intro q hq
    rcases List.mem_append.1 hq with hq | hq
    ·exact hmo q hq
    ·rw [List.mem_singleton.1 hq]
     exact grw_plain n _ _ _ (by decide)
   ·(repeat' (first | exact trivial | refine And.intro (by with_reducible rfl) ?_ | (with_reducible exact wkC_refl _) | (with_reducible exact wkCs_refl _) | refine And.intro ?_ ?_))
    all_goals first | rfl | exact av_int (by rw [wrap_i64 (by omega)]; omega) | (rw [hm2]; rfl)
   ·rcases List.mem_append.1 hq with hq | hq
    ·exact hw.2.1 q hq
    ·rw [List.mem_singleton.1 hq]
     exact ⟨SlAt.nil, SlAt.nil⟩
   ·show wkH _ [Ent.fact _, .app 57 5 (grC (m ++ [_])) _ (m ++ [_]).length _, _]
    rw [← hm2, hg2]
    exact ⟨wkE_refl _, wkE_refl _, wkE_refl _, trivial⟩
  ·(first | refine wX ?_ | exact wZ)
   have hq2 : IntKind.u64.wrap (x.tdiv 2) = x / 2 := by rw [Int.tdiv_eq_ediv_of_nonneg (by omega)]; exact wrap_u64 (by omega)
   have hc3 : IntKind.i64.wrap ((IntKind.u64.wrap (x.tdiv 2)).tmod 3) = x / 2 % 3 := by rw [hq2, Int.tmod_eq_emod_of_nonneg (by omega)]; exact wrap_i64 (by omega)
   rw [show x.tmod 2 = x % 2 by rw [Int.tmod_eq_emod_of_nonneg (by omega)]]
   have hj : x % 2 = 0 ∨ x % 2 = 1 := by omega
   rcases hj with e | e <;> rw [e]
   ·(first | refine wX ?_ | exact wZ)
    refine LoopN.intro (Nat × List (List UInt8) × BSt × List Int × BSt) (fun ⟨k, nms, o2, its, o⟩ => k ≤ 2 ∧ nms.length = k ∧ its.length = k ∧ (∀ y ∈ its, 0 ≤ y) ∧ (∀ s ∈ nms, s.length ≤ 2) ∧ o2.ok nms.length ∧ o.ok its.length)
     (fun ⟨k, nms, o2, its, o⟩ => mkS Tryz.f12.ntmps 0 [(0, .c (.v (.slice a L.length ca))), (3, .c (.v (.int .i64 (n : Int)))), (4, .c (.v (.slice (at0 ob) m.length oc))), (5, .c (.v (.int .i64 (i : Int)))), (6, .c (.v (.int .u64 x))), (7, .c (.lp 3 0)), (9, .c (.v (.int .i64 (k : Int))))])
     (fun ⟨k, nms, o2, its, o⟩ => [.fact (fun w => SlAt a (L.length * 1) (iC L) w), .app 57 5 (grC m) (at0 ob) m.length oc, .fact (fun w => ∀ p ∈ m, CellF p w), .blk 57 (vs (cellC ⟨⟨8, 0, [67], nms, its⟩, at0 o2.ob, o2.cap, at0 o.ob, o.cap⟩)), .dead, .app 9 1 (strC nms) (at0 o2.ob) nms.length o2.cap, .app 3 1 (iC its) (at0 o.ob) its.length o.cap]) (fun ⟨k, _, _, _, _⟩ => 3 - k) [.app 9 1 [] none 0 0, .app 3 1 [] none 0 0] rfl (fun ⟨_, _, _, _, _⟩ => rfl) (fun ⟨_, _, _, _, _⟩ => rfl) (fun ⟨_, _, _, _, _⟩ _ => okHB_eq rfl) ?_ ?_
    ·refine ⟨(0, [], ⟨none, 0⟩, [], ⟨none, 0⟩), ⟨Nat.zero_le _, rfl, rfl, (fun y h => by cases h), (fun y h => by cases h), ⟨fun _ => ⟨rfl, rfl⟩, Nat.le_refl _, fun _ => rfl⟩, fun _ => ⟨rfl, rfl⟩, Nat.le_refl _, fun _ => rfl⟩, ?_, wkE_refl _, wkE_refl _, wkE_refl _, wkE_refl _, trivial, wkE_refl _, wkE_refl _, trivial⟩
     exact wKK
    rintro ⟨k, nms, ⟨nb0, ncap⟩, its, ⟨ob0, ocap⟩⟩ ⟨hk, hnl, hil, hip, hnw, ho2, ho⟩
    (first | refine wX ?_ | exact wZ)
    refine brd_dec (fun h2 => ?_) (fun h2 => ?_)
    ·rw [hc3] at h2
     have hk01 : k = 0 ∨ k = 1 := by omega
     rcases hk01 with rfl | rfl
     ·-- a name and an item are put behind; [64, 97]: the name, 0: the round
      ((conv => whnf); (repeat ((first | refine VrN.keep ?_ | refine BoxN.own ?_ | refine RwN.own ?_); (conv => whnf))))
      refine DrawN.plan [0, 3] [(1, 1), (2, 0), (4, 1), (5, 1), (6, 0)] [(7, 0), (8, 0), (9, 0)] (by decide +kernel) ?_
      (first | refine wX ?_ | exact wZ)
      refine AppN.grow 5 (strC nms) [.string (bs [64, 97])] rfl rfl ⟨Nat.le_refl 1, ⟨by show (nms.length + 1) * 16 ≤ _; omega, by show nms.length + 1 < _; omega⟩, Nat.one_ne_zero⟩ fun xb xc hxc _ => ?_
      have hcn : strC nms ++ [.string (bs [64, 97])] = strC (nms ++ [[64, 97]]) := by simp [strC]
      have hln : nms.length + 1 = (nms ++ [([64, 97] : List UInt8)]).length := by simp
      rw [hcn, hln]
      rw [hln] at hxc
      (first | refine wX ?_ | exact wZ)
      refine DrawN.plan [0, 2, 4, 9] [(1, 1), (3, 1), (5, 1), (6, 1), (7, 1), (8, 1), (10, 1), (11, 0)] [(12, 0), (13, 0), (14, 0)] (by decide +kernel) ?_
      (first | refine wX ?_ | exact wZ)
      have hit := grw_item x 0 6 5 n hxb (by omega) (by decide) (by decide)
      simp only [Int.cast_ofNat_Int] at hit
      generalize hgi : (IntKind.i64.wrap (IntKind.u64.wrap (IntKind.u64.wrap (x.tdiv 6) + IntKind.u64.wrap (IntKind.u64.wrap (((0 : Nat) : Int)) * 5)))).tmod (n : Int) = it at *
      refine Nd.mk ⟨Nat.le_refl 1, rfl, rfl⟩ ?_
      (conv => whnf)
      refine AppN.grow 6 (iC its) [.int .i64 it] rfl rfl ⟨Nat.le_refl 1, ⟨by show (its.length + 1) * 8 ≤ _; omega, by show its.length + 1 < _; omega⟩, Nat.one_ne_zero⟩ fun wb wc hwc _ => ?_
      have hcl : iC its ++ [.int .i64 it] = iC (its ++ [it]) := by simp [iC]
      have hll : its.length + 1 = (its ++ [it]).length := by simp
      rw [hcl, hll]
      rw [hll] at hwc
      (first | refine wX ?_ | exact wZ)
      refine ⟨(0 + 1, nms ++ [([64, 97] : List UInt8)], ⟨some xb, xc⟩, its ++ [it], ⟨some wb, wc⟩), ⟨by omega, by rw [← hln, hnl], by rw [← hll, hil], ?_, ?_, ⟨(fun h => by cases h), hxc, fun h => by have : xc = 0 := h; omega⟩, (fun h => by cases h), hwc, fun h => by have : wc = 0 := h; omega⟩, by show 3 - (0 + 1) < 3 - 0; omega, ?_, wkE_refl _, wkE_refl _, wkE_refl _, wkE_refl _, trivial, wkE_refl _, wkE_refl _, trivial⟩
      ·intro y hy
       rcases List.mem_append.1 hy with hy | hy
       ·exact hip y hy
       ·rw [List.mem_singleton.1 hy]; exact hit
      ·intro y hy
       rcases List.mem_append.1 hy with hy | hy
       ·exact hnw y hy
       ·rw [List.mem_singleton.1 hy]; decide
      exact wKK
     ·-- a name and an item are put behind; [64, 98]: the name, 1: the round
      ((conv => whnf); (repeat ((first | refine VrN.keep ?_ | refine BoxN.own ?_ | refine RwN.own ?_); (conv => whnf))))
      refine DrawN.plan [0, 3] [(1, 1), (2, 0), (4, 1), (5, 1), (6, 0)] [(7, 0), (8, 0), (9, 0)] (by decide +kernel) ?_
      (first | refine wX ?_ | exact wZ)
      refine AppN.grow 5 (strC nms) [.string (bs [64, 98])] rfl rfl ⟨Nat.le_refl 1, ⟨by show (nms.length + 1) * 16 ≤ _; omega, by show nms.length + 1 < _; omega⟩, Nat.one_ne_zero⟩ fun xb xc hxc _ => ?_
      have hcn : strC nms ++ [.string (bs [64, 98])] = strC (nms ++ [[64, 98]]) := by simp [strC]
      have hln : nms.length + 1 = (nms ++ [([64, 98] : List UInt8)]).length := by simp
      rw [hcn, hln]
      rw [hln] at hxc
      (first | refine wX ?_ | exact wZ)
      refine DrawN.plan [0, 2, 4, 9] [(1, 1), (3, 1), (5, 1), (6, 1), (7, 1), (8, 1), (10, 1), (11, 0)] [(12, 0), (13, 0), (14, 0)] (by decide +kernel) ?_
      (first | refine wX ?_ | exact wZ)
      have hit := grw_item x 1 6 5 n hxb (by omega) (by decide) (by decide)
      simp only [Int.cast_ofNat_Int] at hit
      generalize hgi : (IntKind.i64.wrap (IntKind.u64.wrap (IntKind.u64.wrap (x.tdiv 6) + IntKind.u64.wrap (IntKind.u64.wrap (((1 : Nat) : Int)) * 5)))).tmod (n : Int) = it at *
      refine Nd.mk ⟨Nat.le_refl 1, rfl, rfl⟩ ?_
      (conv => whnf)
      refine AppN.grow 6 (iC its) [.int .i64 it] rfl rfl ⟨Nat.le_refl 1, ⟨by show (its.length + 1) * 8 ≤ _; omega, by show its.length + 1 < _; omega⟩, Nat.one_ne_zero⟩ fun wb wc hwc _ => ?_
      have hcl : iC its ++ [.int .i64 it] = iC (its ++ [it]) := by simp [iC]
      have hll : its.length + 1 = (its ++ [it]).length := by simp
      rw [hcl, hll]
      rw [hll] at hwc
      (first | refine wX ?_ | exact wZ)
      refine ⟨(1 + 1, nms ++ [([64, 98] : List UInt8)], ⟨some xb, xc⟩, its ++ [it], ⟨some wb, wc⟩), ⟨by omega, by rw [← hln, hnl], by rw [← hll, hil], ?_, ?_, ⟨(fun h => by cases h), hxc, fun h => by have : xc = 0 := h; omega⟩, (fun h => by cases h), hwc, fun h => by have : wc = 0 := h; omega⟩, by show 3 - (1 + 1) < 3 - 1; omega, ?_, wkE_refl _, wkE_refl _, wkE_refl _, wkE_refl _, trivial, wkE_refl _, wkE_refl _, trivial⟩
      ·intro y hy
       rcases List.mem_append.1 hy with hy | hy
       ·exact hip y hy
       ·rw [List.mem_singleton.1 hy]; exact hit
      ·intro y hy
       rcases List.mem_append.1 hy with hy | hy
       ·exact hnw y hy
       ·rw [List.mem_singleton.1 hy]; decide
      exact wKK
    ·clear hc3
     have hna : at0 ob0 = none → its = [] := fun h => by
      cases ob0 with
      | none => exact List.eq_nil_of_length_eq_zero (ho.1 rfl).1
      | some b => cases h
     have hnn : at0 nb0 = none → nms = [] := fun h => by
      cases nb0 with
      | none => exact List.eq_nil_of_length_eq_zero (ho2.1 rfl).1
      | some b => cases h
     have hoc2' : its.length ≤ ocap := ho.2.1
     have hnc2' : nms.length ≤ ncap := ho2.2.1
     (first | refine wX ?_ | exact wZ)
     try refine Nd.mk ⟨Nat.le_refl 1, rfl, rfl⟩ ?_
     (conv => whnf)
     refine AppN.grow 1 (grC m) (cellC (⟨⟨8, 0, [67], nms, its⟩, at0 nb0, ncap, at0 ob0, ocap⟩ : CellP)) rfl rfl ⟨Nat.le_refl 1, ⟨by show (m.length + 1) * 80 ≤ _; omega, by omega⟩, by decide⟩ fun ob2 oc2 hoc2 _ => ?_
     (first | refine wX ?_ | exact wZ)
     have hm2 : m.length + 1 = (m ++ [(⟨⟨8, 0, [67], nms, its⟩, at0 nb0, ncap, at0 ob0, ocap⟩ : CellP)]).length := by simp
     have hg2 := grC_snoc m ⟨⟨8, 0, [67], nms, its⟩, at0 nb0, ncap, at0 ob0, ocap⟩
     refine ⟨⟨i + 1, some ob2, oc2, m ++ [⟨⟨8, 0, [67], nms, its⟩, at0 nb0, ncap, at0 ob0, ocap⟩]⟩, ⟨by omega, by rw [← hm2, hml], ?_, (fun h => by cases h), by rw [← hm2]; exact hoc2⟩, by show n - (i + 1) < n - i; omega, ?_, [.fact (fun w => SlAt a (L.length * 1) (iC L) w), .app 57 5 (grC m ++ cellC ⟨⟨8, 0, [67], nms, its⟩, at0 nb0, ncap, at0 ob0, ocap⟩) (some ⟨ob2, 0, none⟩) (m.length + 1) oc2, .fact (fun w => ∀ q ∈ m ++ [(⟨⟨8, 0, [67], nms, its⟩, at0 nb0, ncap, at0 ob0, ocap⟩ : CellP)], CellF q w), .dead, .dead, .dead, .dead, .dead], turnS ⟨.inr (.inl rfl), .inr (.inl rfl), .inr (.inr ⟨_, rfl, fun w hw q hq => ?_⟩), by repeat (first | exact trivial | refine ⟨.inl rfl, ?_⟩)⟩, ?_⟩
     ·intro q hq
      rcases List.mem_append.1 hq with hq | hq
      ·exact hmo q hq
      ·rw [List.mem_singleton.1 hq]
       exact ⟨⟨hnn, hna, by show nms.length ≤ _; omega, by show its.length ≤ _; omega, (fun s h => Nat.le_trans (hnw s h) (by decide)), Nat.le_of_ble_eq_true rfl, hnc2', hoc2'⟩, hip, by show its.length ≤ 4; omega, by show nms.length ≤ 2; omega, Nat.le_of_ble_eq_true rfl⟩
     ·(repeat' (first | exact trivial | refine And.intro (by with_reducible rfl) ?_ | (with_reducible exact wkC_refl _) | (with_reducible exact wkCs_refl _) | refine And.intro ?_ ?_))
      all_goals first | rfl | exact av_int (by rw [wrap_i64 (by omega)]; omega) | (rw [hm2]; rfl)
     ·rcases List.mem_append.1 hq with hq | hq
      ·exact hw.2.1 q hq
      ·rw [List.mem_singleton.1 hq]
       exact ⟨hw.2.2.1, hw.2.2.2.1⟩
     ·show wkH _ [Ent.fact _, .app 57 5 (grC (m ++ [_])) _ (m ++ [_]).length _, _]
      rw [← hm2, hg2]
      exact ⟨wkE_refl _, wkE_refl _, wkE_refl _, trivial⟩
   ·(first | refine wX ?_ | exact wZ)
    refine LoopN.intro (Nat × List (List UInt8) × BSt × List Int × BSt) (fun ⟨k, nms, o2, its, o⟩ => k ≤ 2 ∧ nms.length = k ∧ its.length = k ∧ (∀ y ∈ its, 0 ≤ y) ∧ (∀ s ∈ nms, s.length ≤ 2) ∧ o2.ok nms.length ∧ o.ok its.length)
     (fun ⟨k, nms, o2, its, o⟩ => mkS Tryz.f12.ntmps 0 [(0, .c (.v (.slice a L.length ca))), (3, .c (.v (.int .i64 (n : Int)))), (4, .c (.v (.slice (at0 ob) m.length oc))), (5, .c (.v (.int .i64 (i : Int)))), (6, .c (.v (.int .u64 x))), (7, .c (.lp 3 0)), (9, .c (.v (.int .i64 (k : Int))))])
     (fun ⟨k, nms, o2, its, o⟩ => [.fact (fun w => SlAt a (L.length * 1) (iC L) w), .app 57 5 (grC m) (at0 ob) m.length oc, .fact (fun w => ∀ p ∈ m, CellF p w), .blk 57 (vs (cellC ⟨⟨8, 0, [68], nms, its⟩, at0 o2.ob, o2.cap, at0 o.ob, o.cap⟩)), .dead, .app 9 1 (strC nms) (at0 o2.ob) nms.length o2.cap, .app 3 1 (iC its) (at0 o.ob) its.length o.cap]) (fun ⟨k, _, _, _, _⟩ => 3 - k) [.app 9 1 [] none 0 0, .app 3 1 [] none 0 0] rfl (fun ⟨_, _, _, _, _⟩ => rfl) (fun ⟨_, _, _, _, _⟩ => rfl) (fun ⟨_, _, _, _, _⟩ _ => okHB_eq rfl) ?_ ?_
    ·refine ⟨(0, [], ⟨none, 0⟩, [], ⟨none, 0⟩), ⟨Nat.zero_le _, rfl, rfl, (fun y h => by cases h), (fun y h => by cases h), ⟨fun _ => ⟨rfl, rfl⟩, Nat.le_refl _, fun _ => rfl⟩, fun _ => ⟨rfl, rfl⟩, Nat.le_refl _, fun _ => rfl⟩, ?_, wkE_refl _, wkE_refl _, wkE_refl _, wkE_refl _, trivial, wkE_refl _, wkE_refl _, trivial⟩
     exact wKK
    rintro ⟨k, nms, ⟨nb0, ncap⟩, its, ⟨ob0, ocap⟩⟩ ⟨hk, hnl, hil, hip, hnw, ho2, ho⟩
    (first | refine wX ?_ | exact wZ)
    refine brd_dec (fun h2 => ?_) (fun h2 => ?_)
    ·rw [hc3] at h2
     have hk01 : k = 0 ∨ k = 1 := by omega
     rcases hk01 with rfl | rfl
     ·-- a name and an item are put behind; [64, 97]: the name, 0: the round
      ((conv => whnf); (repeat ((first | refine VrN.keep ?_ | refine BoxN.own ?_ | refine RwN.own ?_); (conv => whnf))))
      refine DrawN.plan [0, 3] [(1, 1), (2, 0), (4, 1), (5, 1), (6, 0)] [(7, 0), (8, 0), (9, 0)] (by decide +kernel) ?_
      (first | refine wX ?_ | exact wZ)
      refine AppN.grow 5 (strC nms) [.string (bs [64, 97])] rfl rfl ⟨Nat.le_refl 1, ⟨by show (nms.length + 1) * 16 ≤ _; omega, by show nms.length + 1 < _; omega⟩, Nat.one_ne_zero⟩ fun xb xc hxc _ => ?_
      have hcn : strC nms ++ [.string (bs [64, 97])] = strC (nms ++ [[64, 97]]) := by simp [strC]
      have hln : nms.length + 1 = (nms ++ [([64, 97] : List UInt8)]).length := by simp
      rw [hcn, hln]
      rw [hln] at hxc
      (first | refine wX ?_ | exact wZ)
      refine DrawN.plan [0, 2, 4, 9] [(1, 1), (3, 1), (5, 1), (6, 1), (7, 1), (8, 1), (10, 1), (11, 0)] [(12, 0), (13, 0), (14, 0)] (by decide +kernel) ?_
      (first | refine wX ?_ | exact wZ)
      have hit := grw_item x 0 6 5 n hxb (by omega) (by decide) (by decide)
      simp only [Int.cast_ofNat_Int] at hit
      generalize hgi : (IntKind.i64.wrap (IntKind.u64.wrap (IntKind.u64.wrap (x.tdiv 6) + IntKind.u64.wrap (IntKind.u64.wrap (((0 : Nat) : Int)) * 5)))).tmod (n : Int) = it at *
      refine Nd.mk ⟨Nat.le_refl 1, rfl, rfl⟩ ?_
      (conv => whnf)
      refine AppN.grow 6 (iC its) [.int .i64 it] rfl rfl ⟨Nat.le_refl 1, ⟨by show (its.length + 1) * 8 ≤ _; omega, by show its.length + 1 < _; omega⟩, Nat.one_ne_zero⟩ fun wb wc hwc _ => ?_
      have hcl : iC its ++ [.int .i64 it] = iC (its ++ [it]) := by simp [iC]
      have hll : its.length + 1 = (its ++ [it]).length := by simp
      rw [hcl, hll]
      rw [hll] at hwc
      (first | refine wX ?_ | exact wZ)
      refine ⟨(0 + 1, nms ++ [([64, 97] : List UInt8)], ⟨some xb, xc⟩, its ++ [it], ⟨some wb, wc⟩), ⟨by omega, by rw [← hln, hnl], by rw [← hll, hil], ?_, ?_, ⟨(fun h => by cases h), hxc, fun h => by have : xc = 0 := h; omega⟩, (fun h => by cases h), hwc, fun h => by have : wc = 0 := h; omega⟩, by show 3 - (0 + 1) < 3 - 0; omega, ?_, wkE_refl _, wkE_refl _, wkE_refl _, wkE_refl _, trivial, wkE_refl _, wkE_refl _, trivial⟩
      ·intro y hy
       rcases List.mem_append.1 hy with hy | hy
       ·exact hip y hy
       ·rw [List.mem_singleton.1 hy]; exact hit
      ·intro y hy
       rcases List.mem_append.1 hy with hy | hy
       ·exact hnw y hy
       ·rw [List.mem_singleton.1 hy]; decide
      exact wKK
     ·-- a name and an item are put behind; [64, 98]: the name, 1: the round
      ((conv => whnf); (repeat ((first | refine VrN.keep ?_ | refine BoxN.own ?_ | refine RwN.own ?_); (conv => whnf))))
      refine DrawN.plan [0, 3] [(1, 1), (2, 0), (4, 1), (5, 1), (6, 0)] [(7, 0), (8, 0), (9, 0)] (by decide +kernel) ?_
      (first | refine wX ?_ | exact wZ)
      refine AppN.grow 5 (strC nms) [.string (bs [64, 98])] rfl rfl ⟨Nat.le_refl 1, ⟨by show (nms.length + 1) * 16 ≤ _; omega, by show nms.length + 1 < _; omega⟩, Nat.one_ne_zero⟩ fun xb xc hxc _ => ?_
      have hcn : strC nms ++ [.string (bs [64, 98])] = strC (nms ++ [[64, 98]]) := by simp [strC]
      have hln : nms.length + 1 = (nms ++ [([64, 98] : List UInt8)]).length := by simp
      rw [hcn, hln]
      rw [hln] at hxc
      (first | refine wX ?_ | exact wZ)
      refine DrawN.plan [0, 2, 4, 9] [(1, 1), (3, 1), (5, 1), (6, 1), (7, 1), (8, 1), (10, 1), (11, 0)] [(12, 0), (13, 0), (14, 0)] (by decide +kernel) ?_
      (first | refine wX ?_ | exact wZ)
      have hit := grw_item x 1 6 5 n hxb (by omega) (by decide) (by decide)
      simp only [Int.cast_ofNat_Int] at hit
      generalize hgi : (IntKind.i64.wrap (IntKind.u64.wrap (IntKind.u64.wrap (x.tdiv 6) + IntKind.u64.wrap (IntKind.u64.wrap (((1 : Nat) : Int)) * 5)))).tmod (n : Int) = it at *
      refine Nd.mk ⟨Nat.le_refl 1, rfl, rfl⟩ ?_
      (conv => whnf)
      refine AppN.grow 6 (iC its) [.int .i64 it] rfl rfl ⟨Nat.le_refl 1, ⟨by show (its.length + 1) * 8 ≤ _; omega, by show its.length + 1 < _; omega⟩, Nat.one_ne_zero⟩ fun wb wc hwc _ => ?_
      have hcl : iC its ++ [.int .i64 it] = iC (its ++ [it]) := by simp [iC]
      have hll : its.length + 1 = (its ++ [it]).length := by simp
      rw [hcl, hll]
      rw [hll] at hwc
      (first | refine wX ?_ | exact wZ)
      refine ⟨(1 + 1, nms ++ [([64, 98] : List UInt8)], ⟨some xb, xc⟩, its ++ [it], ⟨some wb, wc⟩), ⟨by omega, by rw [← hln, hnl], by rw [← hll, hil], ?_, ?_, ⟨(fun h => by cases h), hxc, fun h => by have : xc = 0 := h; omega⟩, (fun h => by cases h), hwc, fun h => by have : wc = 0 := h; omega⟩, by show 3 - (1 + 1) < 3 - 1; omega, ?_, wkE_refl _, wkE_refl _, wkE_refl _, wkE_refl _, trivial, wkE_refl _, wkE_refl _, trivial⟩
      ·intro y hy
       rcases List.mem_append.1 hy with hy | hy
       ·exact hip y hy
       ·rw [List.mem_singleton.1 hy]; exact hit
      ·intro y hy
       rcases List.mem_append.1 hy with hy | hy
       ·exact hnw y hy
       ·rw [List.mem_singleton.1 hy]; decide
      exact wKK
    ·clear hc3
     have hna : at0 ob0 = none → its = [] := fun h => by
      cases ob0 with
      | none => exact List.eq_nil_of_length_eq_zero (ho.1 rfl).1
      | some b => cases h
     have hnn : at0 nb0 = none → nms = [] := fun h => by
      cases nb0 with
      | none => exact List.eq_nil_of_length_eq_zero (ho2.1 rfl).1
      | some b => cases h
     have hoc2' : its.length ≤ ocap := ho.2.1
     have hnc2' : nms.length ≤ ncap := ho2.2.1
     (first | refine wX ?_ | exact wZ)
     try refine Nd.mk ⟨Nat.le_refl 1, rfl, rfl⟩ ?_
     (conv => whnf)
     refine AppN.grow 1 (grC m) (cellC (⟨⟨8, 0, [68], nms, its⟩, at0 nb0, ncap, at0 ob0, ocap⟩ : CellP)) rfl rfl ⟨Nat.le_refl 1, ⟨by show (m.length + 1) * 80 ≤ _; omega, by omega⟩, by decide⟩ fun ob2 oc2 hoc2 _ => ?_
     (first | refine wX ?_ | exact wZ)
     have hm2 : m.length + 1 = (m ++ [(⟨⟨8, 0, [68], nms, its⟩, at0 nb0, ncap, at0 ob0, ocap⟩ : CellP)]).length := by simp
     have hg2 := grC_snoc m ⟨⟨8, 0, [68], nms, its⟩, at0 nb0, ncap, at0 ob0, ocap⟩
     refine ⟨⟨i + 1, some ob2, oc2, m ++ [⟨⟨8, 0, [68], nms, its⟩, at0 nb0, ncap, at0 ob0, ocap⟩]⟩, ⟨by omega, by rw [← hm2, hml], ?_, (fun h => by cases h), by rw [← hm2]; exact hoc2⟩, by show n - (i + 1) < n - i; omega, ?_, [.fact (fun w => SlAt a (L.length * 1) (iC L) w), .app 57 5 (grC m ++ cellC ⟨⟨8, 0, [68], nms, its⟩, at0 nb0, ncap, at0 ob0, ocap⟩) (some ⟨ob2, 0, none⟩) (m.length + 1) oc2, .fact (fun w => ∀ q ∈ m ++ [(⟨⟨8, 0, [68], nms, its⟩, at0 nb0, ncap, at0 ob0, ocap⟩ : CellP)], CellF q w), .dead, .dead, .dead, .dead, .dead], turnS ⟨.inr (.inl rfl), .inr (.inl rfl), .inr (.inr ⟨_, rfl, fun w hw q hq => ?_⟩), by repeat (first | exact trivial | refine ⟨.inl rfl, ?_⟩)⟩, ?_⟩
     ·intro q hq
      rcases List.mem_append.1 hq with hq | hq
      ·exact hmo q hq
      ·rw [List.mem_singleton.1 hq]
       exact ⟨⟨hnn, hna, by show nms.length ≤ _; omega, by show its.length ≤ _; omega, (fun s h => Nat.le_trans (hnw s h) (by decide)), Nat.le_of_ble_eq_true rfl, hnc2', hoc2'⟩, hip, by show its.length ≤ 4; omega, by show nms.length ≤ 2; omega, Nat.le_of_ble_eq_true rfl⟩
     ·(repeat' (first | exact trivial | refine And.intro (by with_reducible rfl) ?_ | (with_reducible exact wkC_refl _) | (with_reducible exact wkCs_refl _) | refine And.intro ?_ ?_))
      all_goals first | rfl | exact av_int (by rw [wrap_i64 (by omega)]; omega) | (rw [hm2]; rfl)
     ·rcases List.mem_append.1 hq with hq | hq
      ·exact hw.2.1 q hq
      ·rw [List.mem_singleton.1 hq]
       exact ⟨hw.2.2.1, hw.2.2.2.1⟩
     ·show wkH _ [Ent.fact _, .app 57 5 (grC (m ++ [_])) _ (m ++ [_]).length _, _]
      rw [← hm2, hg2]
      exact ⟨wkE_refl _, wkE_refl _, wkE_refl _, trivial⟩
 ·have hin : i = n := by omega
  subst hin
  (first | refine wX ?_ | exact wZ)
  refine LoopN.introS (Nat × List CellP) (fun ⟨j, m⟩ => j ≤ i ∧ m.length = i ∧ (∀ p ∈ m, GrwC i p)) (fun ⟨j, m⟩ => mkS Tryz.f12.ntmps 0 [(0, .c (.v (.slice a L.length ca))), (3, .c (.v (.int .i64 (i : Int)))), (4, .c (.v (.slice (at0 ob) i oc))), (10, .c (.v (.int .i64 (j : Int))))]) (fun ⟨j, m⟩ => [.fact (fun w => SlAt a (L.length * 1) (iC L) w), .app 57 5 (grC m) (at0 ob) i oc, .fact (fun w => ∀ p ∈ m, CellF p w)]) (fun ⟨j, _⟩ => i - j) [] rfl (fun _ => rfl) (fun _ => rfl) (fun _ _ => ⟨trivial, trivial, trivial, trivial⟩) ?_ ?_
  ·refine ⟨(0, m), ⟨Nat.zero_le _, hml, hmo⟩, ?_, _, turn_refl _, wkE_refl _, ?_, wkE_refl _, trivial⟩
   ·(repeat' (first | exact trivial | refine And.intro (by with_reducible rfl) ?_ | (with_reducible exact wkC_refl _) | (with_reducible exact wkCs_refl _) | refine And.intro ?_ ?_))
    all_goals first | rfl | rw [hml]
   ·rw [← hml]; exact wkE_refl _
  rintro ⟨j, m2⟩ ⟨hj, hm2l, hm2o⟩
  (first | refine wX ?_ | exact wZ)
  refine brd_dec (fun h2 => ?_) (fun h2 => ?_)
  ·obtain ⟨p, hp⟩ : ∃ p, m2[j]? = some p := ⟨_, List.getElem?_eq_getElem (by omega)⟩
   obtain ⟨gb, rfl⟩ : ∃ gb, ob = some gb := by
    cases ob with
    | none => have := hoa rfl; subst this; simp only [List.length_nil] at hml; omega
    | some gb => exact ⟨gb, rfl⟩
   obtain ⟨z, hz⟩ : ∃ z, L[j]? = some z := ⟨_, List.getElem?_eq_getElem (by omega)⟩
   have hsa : a.isSome = true := by
    cases a with
    | none => rw [ha rfl] at hz; cases hz
    | some b => rfl
   (first | refine wX ?_ | exact wZ)
   refine Nd.mk ⟨rfl, by omega, by omega⟩ ?_
   (first | refine wX ?_ | exact wZ)
   refine LdN.fld (.int .i64 p.c.kind) rfl (fun w hw => hw.2.1) (by rw [Int.toNat_natCast]; exact grC_get m2 j 0 (by decide) hp) ?_
   (first | refine wX ?_ | exact wZ)
   refine brd_eq (fun h7 => ?_) (fun h7 => ?_)
   rotate_left
   ·(first | refine wX ?_ | exact wZ)
    refine ⟨(j + 1, m2), ⟨by omega, hm2l, hm2o⟩, by show i - (j + 1) < i - j; omega, ?_, _, turn_refl _, wkE_refl _, wkE_refl _, wkE_refl _, trivial⟩
    exact wKK
   (first | refine wX ?_ | exact wZ)
   refine Nd.mk ⟨hsa, by omega, by omega⟩ ?_
   (first | refine wX ?_ | exact wZ)
   refine LdN.one (.int .i64 z) rfl (fun w hw => hw.1) (by rw [Int.toNat_natCast]; show (iC L)[j * 1]? = _; rw [Nat.mul_one]; exact iC_get hz) ?_
   (first | refine wXR ?_ | exact wZR)
   have hXb := wrap_u64_bd z
   generalize IntKind.u64.wrap z = X at *
   have hx0 : IntKind.u64.wrap (X.tdiv 9) = X / 9 := by rw [Int.tdiv_eq_ediv_of_nonneg (by omega)]; exact wrap_u64 (by omega)
   rw [hx0]
   obtain ⟨x, hx⟩ : ∃ x, x = X / 9 := ⟨_, rfl⟩
   rw [← hx]
   have hxb : 0 ≤ x ∧ x ≤ 2049638230412172402 := by omega
   clear hx0 hXb
   refine DrawN.plan [0, 1, 2, 4, 6, 9] [(3, 1), (5, 1), (7, 1), (8, 1), (10, 1), (11, 0), (12, 1), (13, 1)] [(14, 0)] (by decide +kernel) ?_
   (first | refine wXR ?_ | exact wZR)
   obtain ⟨v1, hv1⟩ : ∃ v, v = (IntKind.i64.wrap x).tmod (i : Int) := ⟨_, rfl⟩
   obtain ⟨v2, hv2⟩ : ∃ v, v = (IntKind.i64.wrap (IntKind.u64.wrap (x.tdiv 3))).tmod (i : Int) := ⟨_, rfl⟩
   rw [← hv1, ← hv2]
   refine RwN.known [.int .i64 v1, .int .i64 v2] rfl fun ib => ?_
   (first | refine wXR ?_ | exact wZR)
   refine Nd.mk ⟨rfl, by omega, by omega⟩ ?_
   (first | refine wXR ?_ | exact wZR)
   have hgl2 : (grC m2).length = i * 5 := by rw [grC_len, hm2l]
   refine EffW.appTo (i := 1) (q := j * 5 + 4) (ys := [.slice (some ⟨ib, 0, none⟩) 2 2]) (grC (m2.set j (setI p [v1, v2] (some ⟨ib, 0, none⟩) 2))) 5 rfl (by rw [Int.toNat_natCast]; show AV.c (CV.v (Value.pointer (some (((⟨gb, 0, none⟩ : Addr).add (j * 5)).add 4)))) = _; rw [add_lit0, add_lit]) rfl rfl rfl rfl rfl (by show _ + 1 ≤ _ * 5; omega) (by rw [put_set _ (by omega)]; exact grC_set [v1, v2] _ 2 hp) rfl ?_
   have hpm := List.mem_of_getElem? hp
   have hq1 : 0 ≤ v1 := by rw [hv1, wrap_i64 (by omega)]; exact Int.tmod_nonneg _ (by omega)
   have hq2 : 0 ≤ v2 := by
    have : 0 ≤ x.tdiv 3 ∧ x.tdiv 3 ≤ x := by rw [Int.tdiv_eq_ediv_of_nonneg hxb.1]; omega
    rw [hv2, wrap_u64 (by omega), wrap_i64 (by omega)]
    exact Int.tmod_nonneg _ (by omega)
   clear hv1 hv2
   have hi12 : i ≤ 12 := by omega
   (first | refine wX ?_ | exact wZ)
   refine brd_dec (fun h3 => ?_) (fun h3 => ?_)
   rotate_left
   ·-- is it valid still? [v1, v2]: the items, ib: their block, 2: its capacity, , .dead, .dead, .dead: what is over, (by simp [hq1, hq2]): no item is below 0
    (first | refine wX ?_ | exact wZ)
    have hG : ∀ q ∈ m2.set j (setI p [v1, v2] (some ⟨ib, 0, none⟩) 2), GrwC i q := grw_set hm2o hpm ib 2 (by simp [hq1, hq2]) (Nat.le_of_ble_eq_true rfl) (Nat.le_refl 2)
    have hlen : (m2.set j (setI p [v1, v2] (some ⟨ib, 0, none⟩) 2)).length = i := by rw [List.length_set, hm2l]
    have has := as_o (at0 (some gb)) oc (m2.set j (setI p [v1, v2] (some ⟨ib, 0, none⟩) 2)) (fun h => by cases h) (grw_small hG (by omega)) (fun q hq => (hG q hq).ok)
    rw [hlen] at has
    refine factG (fun _ => rfl) has ?_ fun st hst => ?_
    ·exact fun w hw => ⟨by rw [hlen]; exact hw.2.1, set_rows hpm hw.2.2.1 hw.2.2.2.1⟩
    obtain ⟨t, ht1, ht2⟩ := Valid_b st.oa st.oc st.m hst.oa (by have := congrArg List.length hst.c; simp only [List.length_map] at this; omega) hst.ok
    (first | refine wX ?_ | exact wZ)
    refine call1 (ht2 _ (fun w hw => hst.gr hw.2.2.2.2.1 hw.2.2.2.2.2.1)) ?_
    cases t with
    | true =>
     (first | refine wX ?_ | exact wZ)
     refine ⟨(j + 1, m2.set j (setI p [v1, v2] (some ⟨ib, 0, none⟩) 2)), ⟨by omega, hlen, hG⟩, by show i - (j + 1) < i - j; omega, ?_, [.fact (fun w => SlAt a (L.length * 1) (iC L) w), .app 57 5 (grC (m2.set j (setI p [v1, v2] (some ⟨ib, 0, none⟩) 2))) (some ⟨gb, 0, none⟩) i oc, .fact (fun w => ∀ q ∈ m2.set j (setI p [v1, v2] (some ⟨ib, 0, none⟩) 2), CellF q w), .dead, .dead, .dead], turnS ⟨.inr (.inl rfl), .inr (.inl rfl), .inr (.inr ⟨_, rfl, fun w hw => set_rows hpm hw.2.1 hw.2.2.1⟩), by repeat (first | exact trivial | refine ⟨.inl rfl, ?_⟩)⟩, wkE_refl _, wkE_refl _, wkE_refl _, trivial⟩
     exact wKK
    | false =>
     have hp2 : (m2.set j (setI p [v1, v2] (some ⟨ib, 0, none⟩) 2))[j]? = some (setI p [v1, v2] (some ⟨ib, 0, none⟩) 2) := by rw [List.getElem?_set_self (by omega)]
     have hG2 : ∀ q ∈ m2.set j (setI p [v1, v2] (some ⟨ib, 0, none⟩) 2), GrwC i q := grw_set hm2o hpm ib 2 (by simp [hq1, hq2]) (Nat.le_of_ble_eq_true rfl) (by show 2 ≤ _; first | exact Nat.le_refl 2 | omega)
     have hlen2 : (m2.set j (setI p [v1, v2] (some ⟨ib, 0, none⟩) 2)).length = i := by rw [List.length_set, hm2l]
     have hgl3 : (grC (m2.set j (setI p [v1, v2] (some ⟨ib, 0, none⟩) 2))).length = i * 5 := by rw [grC_len, hlen]
     (first | refine wX ?_ | exact wZ)
     refine Nd.mk ⟨rfl, by omega, by omega⟩ ?_
     (first | refine wX ?_ | exact wZ)
     refine LdN.fld (.slice (some ⟨ib, 0, none⟩) (List.length [v1, v2]) 2) rfl (fun w hw => hw.2.1) (by rw [Int.toNat_natCast]; exact grC_get _ j 4 (by decide) hp2) ?_
     (first | refine wX ?_ | exact wZ)
     refine ReadW.slc_h (ob := some ib) rfl (by kernel_rfl) rfl rfl ⟨by decide, by first | decide | omega⟩ ?_
     (first | refine wX ?_ | exact wZ)
     refine Nd.mk ⟨rfl, by omega, by omega⟩ ?_
     (first | refine wX ?_ | exact wZ)
     refine EffW.appTo (i := 1) (q := j * 5 + 4) (ys := [.slice (some ⟨ib, 0, none⟩) 2 2]) (grC (m2.set j (setI p [v1, v2] (some ⟨ib, 0, none⟩) 2))) 5 rfl (by rw [Int.toNat_natCast]; show AV.c (CV.v (Value.pointer (some (((⟨gb, 0, none⟩ : Addr).add (j * 5)).add 4)))) = _; rw [add_lit0, add_lit]) rfl rfl rfl rfl rfl (by show _ + 1 ≤ _ * 5; omega) (by rw [put_set _ (by omega)]; have := grC_set [v1, v2] (some ⟨ib, 0, none⟩) 2 hp2; rw [List.set_set] at this; exact this) rfl ?_
     (first | refine wX ?_ | exact wZ)
     refine ⟨(j + 1, m2.set j (setI p [v1, v2] (some ⟨ib, 0, none⟩) 2)), ⟨by omega, hlen2, hG2⟩, by show i - (j + 1) < i - j; omega, ?_, [.fact (fun w => SlAt a (L.length * 1) (iC L) w), .app 57 5 (grC (m2.set j (setI p [v1, v2] (some ⟨ib, 0, none⟩) 2))) (some ⟨gb, 0, none⟩) i oc, .fact (fun w => ∀ q ∈ m2.set j (setI p [v1, v2] (some ⟨ib, 0, none⟩) 2), CellF q w), .dead, .dead, .dead], turnS ⟨.inr (.inl rfl), .inr (.inl rfl), .inr (.inr ⟨_, rfl, fun w hw => set_rows hpm hw.2.1 (SlAt.take (j := 2) hw.2.2.1 (Nat.le_of_ble_eq_true rfl))⟩), by repeat (first | exact trivial | refine ⟨.inl rfl, ?_⟩)⟩, wkE_refl _, wkE_refl _, wkE_refl _, trivial⟩
     exact wKK
   (first | refine wX ?_ | exact wZ)
   refine brd_eq (fun h4 => ?_) (fun h4 => ?_)
   rotate_left
   ·-- is it valid still? [v1, v2]: the items, ib: their block, 2: its capacity, , .dead, .dead, .dead: what is over, (by simp [hq1, hq2]): no item is below 0
    (first | refine wX ?_ | exact wZ)
    have hG : ∀ q ∈ m2.set j (setI p [v1, v2] (some ⟨ib, 0, none⟩) 2), GrwC i q := grw_set hm2o hpm ib 2 (by simp [hq1, hq2]) (Nat.le_of_ble_eq_true rfl) (Nat.le_refl 2)
    have hlen : (m2.set j (setI p [v1, v2] (some ⟨ib, 0, none⟩) 2)).length = i := by rw [List.length_set, hm2l]
    have has := as_o (at0 (some gb)) oc (m2.set j (setI p [v1, v2] (some ⟨ib, 0, none⟩) 2)) (fun h => by cases h) (grw_small hG (by omega)) (fun q hq => (hG q hq).ok)
    rw [hlen] at has
    refine factG (fun _ => rfl) has ?_ fun st hst => ?_
    ·exact fun w hw => ⟨by rw [hlen]; exact hw.2.1, set_rows hpm hw.2.2.1 hw.2.2.2.1⟩
    obtain ⟨t, ht1, ht2⟩ := Valid_b st.oa st.oc st.m hst.oa (by have := congrArg List.length hst.c; simp only [List.length_map] at this; omega) hst.ok
    (first | refine wX ?_ | exact wZ)
    refine call1 (ht2 _ (fun w hw => hst.gr hw.2.2.2.2.1 hw.2.2.2.2.2.1)) ?_
    cases t with
    | true =>
     (first | refine wX ?_ | exact wZ)
     refine ⟨(j + 1, m2.set j (setI p [v1, v2] (some ⟨ib, 0, none⟩) 2)), ⟨by omega, hlen, hG⟩, by show i - (j + 1) < i - j; omega, ?_, [.fact (fun w => SlAt a (L.length * 1) (iC L) w), .app 57 5 (grC (m2.set j (setI p [v1, v2] (some ⟨ib, 0, none⟩) 2))) (some ⟨gb, 0, none⟩) i oc, .fact (fun w => ∀ q ∈ m2.set j (setI p [v1, v2] (some ⟨ib, 0, none⟩) 2), CellF q w), .dead, .dead, .dead], turnS ⟨.inr (.inl rfl), .inr (.inl rfl), .inr (.inr ⟨_, rfl, fun w hw => set_rows hpm hw.2.1 hw.2.2.1⟩), by repeat (first | exact trivial | refine ⟨.inl rfl, ?_⟩)⟩, wkE_refl _, wkE_refl _, wkE_refl _, trivial⟩
     exact wKK
    | false =>
     have hp2 : (m2.set j (setI p [v1, v2] (some ⟨ib, 0, none⟩) 2))[j]? = some (setI p [v1, v2] (some ⟨ib, 0, none⟩) 2) := by rw [List.getElem?_set_self (by omega)]
     have hG2 : ∀ q ∈ m2.set j (setI p [v1, v2] (some ⟨ib, 0, none⟩) 2), GrwC i q := grw_set hm2o hpm ib 2 (by simp [hq1, hq2]) (Nat.le_of_ble_eq_true rfl) (by show 2 ≤ _; first | exact Nat.le_refl 2 | omega)
     have hlen2 : (m2.set j (setI p [v1, v2] (some ⟨ib, 0, none⟩) 2)).length = i := by rw [List.length_set, hm2l]
     have hgl3 : (grC (m2.set j (setI p [v1, v2] (some ⟨ib, 0, none⟩) 2))).length = i * 5 := by rw [grC_len, hlen]
     (first | refine wX ?_ | exact wZ)
     refine Nd.mk ⟨rfl, by omega, by omega⟩ ?_
     (first | refine wX ?_ | exact wZ)
     refine LdN.fld (.slice (some ⟨ib, 0, none⟩) (List.length [v1, v2]) 2) rfl (fun w hw => hw.2.1) (by rw [Int.toNat_natCast]; exact grC_get _ j 4 (by decide) hp2) ?_
     (first | refine wX ?_ | exact wZ)
     refine ReadW.slc_h (ob := some ib) rfl (by kernel_rfl) rfl rfl ⟨by decide, by first | decide | omega⟩ ?_
     (first | refine wX ?_ | exact wZ)
     refine Nd.mk ⟨rfl, by omega, by omega⟩ ?_
     (first | refine wX ?_ | exact wZ)
     refine EffW.appTo (i := 1) (q := j * 5 + 4) (ys := [.slice (some ⟨ib, 0, none⟩) 2 2]) (grC (m2.set j (setI p [v1, v2] (some ⟨ib, 0, none⟩) 2))) 5 rfl (by rw [Int.toNat_natCast]; show AV.c (CV.v (Value.pointer (some (((⟨gb, 0, none⟩ : Addr).add (j * 5)).add 4)))) = _; rw [add_lit0, add_lit]) rfl rfl rfl rfl rfl (by show _ + 1 ≤ _ * 5; omega) (by rw [put_set _ (by omega)]; have := grC_set [v1, v2] (some ⟨ib, 0, none⟩) 2 hp2; rw [List.set_set] at this; exact this) rfl ?_
     (first | refine wX ?_ | exact wZ)
     refine ⟨(j + 1, m2.set j (setI p [v1, v2] (some ⟨ib, 0, none⟩) 2)), ⟨by omega, hlen2, hG2⟩, by show i - (j + 1) < i - j; omega, ?_, [.fact (fun w => SlAt a (L.length * 1) (iC L) w), .app 57 5 (grC (m2.set j (setI p [v1, v2] (some ⟨ib, 0, none⟩) 2))) (some ⟨gb, 0, none⟩) i oc, .fact (fun w => ∀ q ∈ m2.set j (setI p [v1, v2] (some ⟨ib, 0, none⟩) 2), CellF q w), .dead, .dead, .dead], turnS ⟨.inr (.inl rfl), .inr (.inl rfl), .inr (.inr ⟨_, rfl, fun w hw => set_rows hpm hw.2.1 (SlAt.take (j := 2) hw.2.2.1 (Nat.le_of_ble_eq_true rfl))⟩), by repeat (first | exact trivial | refine ⟨.inl rfl, ?_⟩)⟩, wkE_refl _, wkE_refl _, wkE_refl _, trivial⟩
     exact wKK
   have hp1 : (m2.set j (setI p [v1, v2] (some ⟨ib, 0, none⟩) 2))[j]? = some (setI p [v1, v2] (some ⟨ib, 0, none⟩) 2) := by rw [List.getElem?_set_self (by omega)]
   have hgl4 : (grC (m2.set j (setI p [v1, v2] (some ⟨ib, 0, none⟩) 2))).length = i * 5 := by rw [grC_len, List.length_set, hm2l]
   (first | refine wX ?_ | exact wZ)
   refine DrawN.plan [0, 1, 2, 3, 7, 10, 12, 15] [(4, 1), (5, 1), (6, 1), (8, 1), (9, 1), (11, 1), (13, 1), (14, 1), (16, 1), (17, 0)] [(18, 0), (19, 0), (20, 0), (21, 0)] (by decide +kernel) ?_
   (first | refine wX ?_ | exact wZ)
   refine Nd.mk ⟨rfl, by omega, by omega⟩ ?_
   (first | refine wX ?_ | exact wZ)
   refine LdN.fld (.slice (some ⟨ib, 0, none⟩) 2 2) rfl (fun w hw => hw.2.1) (by rw [Int.toNat_natCast]; exact grC_get _ j 4 (by decide) hp1) ?_
   (first | refine wX ?_ | exact wZ)
   obtain ⟨w1, hw1⟩ : ∃ v, v = (IntKind.i64.wrap (IntKind.u64.wrap (x.tdiv 5))).tmod (i : Int) := ⟨_, rfl⟩
   obtain ⟨w2, hw2⟩ : ∃ v, v = (IntKind.i64.wrap (IntKind.u64.wrap (x.tdiv 7))).tmod (i : Int) := ⟨_, rfl⟩
   rw [← hw1, ← hw2]
   have hq3 : 0 ≤ w1 := by
    have : 0 ≤ x.tdiv 5 ∧ x.tdiv 5 ≤ x := by rw [Int.tdiv_eq_ediv_of_nonneg hxb.1]; omega
    rw [hw1, wrap_u64 (by omega), wrap_i64 (by omega)]
    exact Int.tmod_nonneg _ (by omega)
   have hq4 : 0 ≤ w2 := by
    have : 0 ≤ x.tdiv 7 ∧ x.tdiv 7 ≤ x := by rw [Int.tdiv_eq_ediv_of_nonneg hxb.1]; omega
    rw [hw2, wrap_u64 (by omega), wrap_i64 (by omega)]
    exact Int.tmod_nonneg _ (by omega)
   clear hw1 hw2
   refine Nd.mk ⟨Nat.le_of_ble_eq_true rfl, rfl, rfl⟩ ?_
   (conv => whnf)
   refine AppN.grow 3 [.int .i64 v1, .int .i64 v2] [.int .i64 w1, .int .i64 w2] rfl rfl ⟨Nat.le_of_ble_eq_true rfl, ⟨by decide, by decide⟩, Nat.one_ne_zero⟩ fun wb wc hwc _ => ?_
   (first | refine wX ?_ | exact wZ)
   refine Nd.mk ⟨rfl, by omega, by omega⟩ ?_
   (first | refine wX ?_ | exact wZ)
   refine EffW.appTo (i := 1) (q := j * 5 + 4) (ys := [.slice (some ⟨wb, 0, none⟩) 4 wc]) (grC (m2.set j (setI p [v1, v2, w1, w2] (some ⟨wb, 0, none⟩) wc))) 5 rfl (by rw [Int.toNat_natCast]; show AV.c (CV.v (Value.pointer (some (((⟨gb, 0, none⟩ : Addr).add (j * 5)).add 4)))) = _; rw [add_lit0, add_lit]) rfl rfl rfl rfl rfl (by show _ + 1 ≤ _ * 5; omega) (by rw [put_set _ (by omega)]; have := grC_set [v1, v2, w1, w2] (some ⟨wb, 0, none⟩) wc hp1; rw [List.set_set] at this; exact this) rfl ?_
   (first | refine wX ?_ | exact wZ)
   have hG : ∀ q ∈ m2.set j (setI p [v1, v2, w1, w2] (some ⟨wb, 0, none⟩) wc), GrwC i q := grw_set hm2o hpm wb wc (by simp [hq1, hq2, hq3, hq4]) (Nat.le_of_ble_eq_true rfl) hwc
   have hlen : (m2.set j (setI p [v1, v2, w1, w2] (some ⟨wb, 0, none⟩) wc)).length = i := by rw [List.length_set, hm2l]
   have has := as_o (at0 (some gb)) oc (m2.set j (setI p [v1, v2, w1, w2] (some ⟨wb, 0, none⟩) wc)) (fun h => by cases h) (grw_small hG (by omega)) (fun q hq => (hG q hq).ok)
   rw [hlen] at has
   refine factG (fun _ => rfl) has ?_ fun st hst => ?_
   ·exact fun w hw => ⟨by rw [hlen]; exact hw.2.1, set_rows hpm hw.2.2.1 hw.2.2.2.1⟩
   obtain ⟨t, ht1, ht2⟩ := Valid_b st.oa st.oc st.m hst.oa (by have := congrArg List.length hst.c; simp only [List.length_map] at this; omega) hst.ok
   (first | refine wX ?_ | exact wZ)
   refine call1 (ht2 _ (fun w hw => hst.gr hw.2.2.2.2.1 hw.2.2.2.2.2.1)) ?_
   cases t with
   | true =>
    (first | refine wX ?_ | exact wZ)
    refine ⟨(j + 1, m2.set j (setI p [v1, v2, w1, w2] (some ⟨wb, 0, none⟩) wc)), ⟨by omega, hlen, hG⟩, by show i - (j + 1) < i - j; omega, ?_, [.fact (fun w => SlAt a (L.length * 1) (iC L) w), .app 57 5 (grC (m2.set j (setI p [v1, v2, w1, w2] (some ⟨wb, 0, none⟩) wc))) (some ⟨gb, 0, none⟩) i oc, .fact (fun w => ∀ q ∈ m2.set j (setI p [v1, v2, w1, w2] (some ⟨wb, 0, none⟩) wc), CellF q w), .dead, .dead, .dead, .dead], turnS ⟨.inr (.inl rfl), .inr (.inl rfl), .inr (.inr ⟨_, rfl, fun w hw => set_rows hpm hw.2.1 hw.2.2.1⟩), by repeat (first | exact trivial | refine ⟨.inl rfl, ?_⟩)⟩, wkE_refl _, wkE_refl _, wkE_refl _, trivial⟩
    exact wKK
   | false =>
    have hp2 : (m2.set j (setI p [v1, v2, w1, w2] (some ⟨wb, 0, none⟩) wc))[j]? = some (setI p [v1, v2, w1, w2] (some ⟨wb, 0, none⟩) wc) := by rw [List.getElem?_set_self (by omega)]
    have hG2 : ∀ q ∈ m2.set j (setI p [v1, v2] (some ⟨wb, 0, none⟩) wc), GrwC i q := grw_set hm2o hpm wb wc (by simp [hq1, hq2]) (Nat.le_of_ble_eq_true rfl) (by show 2 ≤ _; first | exact Nat.le_refl 2 | omega)
    have hlen2 : (m2.set j (setI p [v1, v2] (some ⟨wb, 0, none⟩) wc)).length = i := by rw [List.length_set, hm2l]
    have hgl3 : (grC (m2.set j (setI p [v1, v2, w1, w2] (some ⟨wb, 0, none⟩) wc))).length = i * 5 := by rw [grC_len, hlen]
    (first | refine wX ?_ | exact wZ)
    refine Nd.mk ⟨rfl, by omega, by omega⟩ ?_
    (first | refine wX ?_ | exact wZ)
    refine LdN.fld (.slice (some ⟨wb, 0, none⟩) (List.length [v1, v2, w1, w2]) wc) rfl (fun w hw => hw.2.1) (by rw [Int.toNat_natCast]; exact grC_get _ j 4 (by decide) hp2) ?_
    (first | refine wX ?_ | exact wZ)
    refine ReadW.slc_h (ob := some wb) rfl (by kernel_rfl) rfl rfl ⟨by decide, by first | decide | omega⟩ ?_
    (first | refine wX ?_ | exact wZ)
    refine Nd.mk ⟨rfl, by omega, by omega⟩ ?_
    (first | refine wX ?_ | exact wZ)
    refine EffW.appTo (i := 1) (q := j * 5 + 4) (ys := [.slice (some ⟨wb, 0, none⟩) 2 wc]) (grC (m2.set j (setI p [v1, v2] (some ⟨wb, 0, none⟩) wc))) 5 rfl (by rw [Int.toNat_natCast]; show AV.c (CV.v (Value.pointer (some (((⟨gb, 0, none⟩ : Addr).add (j * 5)).add 4)))) = _; rw [add_lit0, add_lit]) rfl rfl rfl rfl rfl (by show _ + 1 ≤ _ * 5; omega) (by rw [put_set _ (by omega)]; have := grC_set [v1, v2] (some ⟨wb, 0, none⟩) wc hp2; rw [List.set_set] at this; exact this) rfl ?_
    (first | refine wX ?_ | exact wZ)
    refine ⟨(j + 1, m2.set j (setI p [v1, v2] (some ⟨wb, 0, none⟩) wc)), ⟨by omega, hlen2, hG2⟩, by show i - (j + 1) < i - j; omega, ?_, [.fact (fun w => SlAt a (L.length * 1) (iC L) w), .app 57 5 (grC (m2.set j (setI p [v1, v2] (some ⟨wb, 0, none⟩) wc))) (some ⟨gb, 0, none⟩) i oc, .fact (fun w => ∀ q ∈ m2.set j (setI p [v1, v2] (some ⟨wb, 0, none⟩) wc), CellF q w), .dead, .dead, .dead, .dead], turnS ⟨.inr (.inl rfl), .inr (.inl rfl), .inr (.inr ⟨_, rfl, fun w hw => set_rows hpm hw.2.1 (SlAt.take (j := 2) hw.2.2.1 (Nat.le_of_ble_eq_true rfl))⟩), by repeat (first | exact trivial | refine ⟨.inl rfl, ?_⟩)⟩, wkE_refl _, wkE_refl _, wkE_refl _, trivial⟩
    exact wKK
  ·have hjn : j = i := by omega
   subst hjn
   have hob : at0 ob = none → m2 = [] := fun h => by
    cases ob with
    | none =>
     have := hoa rfl
     subst this
     simp only [List.length_nil] at hml
     exact List.eq_nil_of_length_eq_zero (by omega)
    | some b => cases h
   have hs2 := grw_small hm2o (by omega)
   (first | refine wX ?_ | exact wZ)
   refine loopS Nat (fun k => k ≤ j) (fun k => mkS Tryz.f12.ntmps 0 [(3, .c (.v (.int .i64 (j : Int)))), (4, .c (.v (.slice (at0 ob) j oc))), (12, .c (.v (.int .i64 (k : Int))))]) (fun k => j - k) rfl (fun _ => rfl) 0 (Nat.zero_le _) ?_ ?_
   ·exact wKK
   intro k hk
   (first | refine wX ?_ | exact wZ)
   refine brd_dec (fun h3 => ?_) (fun h3 => ?_)
   ·obtain ⟨p, hp⟩ : ∃ p, m2[k]? = some p := ⟨_, List.getElem?_eq_getElem (by omega)⟩
    have hpm := List.mem_of_getElem? hp
    have hpo := hm2o p hpm
    have hpl := hpo.il
    have hsg : (at0 ob).isSome = true := by
     cases hq : at0 ob with
     | none => rw [hob hq] at hp; cases hp
     | some b => rfl
    (first | refine wX ?_ | exact wZ)
    refine loopS Nat (fun e => e ≤ p.c.items.length) (fun e => mkS Tryz.f12.ntmps 0 [(3, .c (.v (.int .i64 (j : Int)))), (4, .c (.v (.slice (at0 ob) j oc))), (12, .c (.v (.int .i64 (k : Int)))), (13, .c (.v (.int .i64 (e : Int))))]) (fun e => p.c.items.length - e) rfl (fun _ => rfl) 0 (Nat.zero_le _) ?_ ?_
    ·exact wKK
    intro e he
    (first | refine wX ?_ | exact wZ)
    refine Nd.mk ⟨hsg, by omega, by omega⟩ ?_
    (first | refine wX ?_ | exact wZ)
    refine LdN.fld (.slice p.ia p.c.items.length p.ic) rfl (fun w hw => hw.2.1) (by rw [Int.toNat_natCast]; exact grC_get m2 k 4 (by decide) hp) ?_
    (first | refine wX ?_ | exact wZ)
    refine brd_dec (fun h4 => ?_) (fun h4 => ?_)
    ·obtain ⟨y, hy⟩ : ∃ z, p.c.items[e]? = some z := ⟨_, List.getElem?_eq_getElem (by omega)⟩
     have hya : p.ia.isSome = true := by
      cases hq : p.ia with
      | none => rw [hpo.ok.ia hq] at hy; cases hy
      | some b => rfl
     (first | refine wX ?_ | exact wZ)
     refine Nd.mk ⟨hsg, by omega, by omega⟩ ?_
     (first | refine wX ?_ | exact wZ)
     refine LdN.fld (.slice p.ia p.c.items.length p.ic) rfl (fun w hw => hw.2.1) (by rw [Int.toNat_natCast]; exact grC_get m2 k 4 (by decide) hp) ?_
     (first | refine wX ?_ | exact wZ)
     refine Nd.mk ⟨hya, by omega, by omega⟩ ?_
     (first | refine wX ?_ | exact wZ)
     refine LdN.one (.int .i64 y) rfl (fun w hw => (hw.2.2.1 p hpm).2) (by rw [Int.toNat_natCast]; show (iC p.c.items)[e * 1]? = _; rw [Nat.mul_one]; exact iC_get hy) ?_
     (first | refine wX ?_ | exact wZ)
     refine brd_dec (fun h5 => absurd h5 (by have := hpo.it y (List.mem_of_getElem? hy); omega)) (fun h5 => ?_)
     (first | refine wX ?_ | exact wZ)
     refine ⟨e + 1, by omega, by omega, ?_, wHH⟩
     exact wKK
    ·(first | refine wX ?_ | exact wZ)
     refine ⟨k + 1, by omega, by omega, ?_, wHH⟩
     exact wKK
   ·(first | refine wX ?_ | exact wZ)
    have has := as_o (at0 ob) oc m2 hob hs2 (fun q hq => (hm2o q hq).ok)
    rw [hm2l] at has
    refine factG (fun _ => rfl) has ?_ fun st hst => ?_
    ·exact fun w hw => ⟨by rw [hm2l]; exact hw.2.1, hw.2.2.1⟩
    obtain ⟨t, ht1, ht2⟩ := Valid_b st.oa st.oc st.m hst.oa (by have := congrArg List.length hst.c; simp only [List.length_map] at this; omega) hst.ok
    (first | refine wX ?_ | exact wZ)
    refine call1 (ht2 _ (fun w hw => hst.gr hw.2.2.2.1 hw.2.2.2.2.1)) ?_
    cases t with
    | false =>
     (first | refine wX ?_ | exact wZ)
     exact fin_p (fun _ => True) ⟨none, 0, [], rfl, fun _ => rfl, (fun p h => by cases h), ⟨Nat.zero_le _, fun p h => by cases h⟩, .inl rfl, ⟨Nat.zero_le _, fun p h => by cases h⟩, fun w _ => ⟨SlAt.nil, fun p h => by cases h⟩⟩ fun w hw => trivial
    | true =>
     (first | refine wX ?_ | exact wZ)
     exact fin_p (GrF (at0 ob) m2) ⟨at0 ob, oc, m2, by rw [hm2l], hob, (fun p hp => (hm2o p hp).ok), hs2, .inr (by rw [← hst.c]; exact ht1.1 rfl), ⟨by omega, fun p hp => ⟨(hm2o p hp).il, (hm2o p hp).nl, (hm2o p hp).tl⟩⟩, fun w hw => hw⟩ fun w hw => ⟨by rw [hm2l]; exact hw.2.1, hw.2.2.1⟩
end Go.Proofs.YtgogonnnojcioaaGreatDoor

/-
 Contract: bytes that were written, cut off anywhere, or with a byte behind them (law).
-/
namespace Go.Proofs.YtgogonnnojcioaaGreatDoor
open Go.AX Go.RowKit Go.Core Go.Marshal
set_option maxRecDepth 20000

end Go.Proofs.YtgogonnnojcioaaGreatDoor

/-
 Contracts: what is reached, whether a circle is, how deep (document).
-/
namespace Go.Proofs.YtgogonnnojcioaaGreatDoor
open Go.AX Go.RowKit Go.Core
set_option maxRecDepth 20000

def rdH (F : World → Prop) (L : List Int) (o : BSt) : List Ent := [.app 3 1 (iC L) (at0 o.ob) L.length o.cap, .fact F]
theorem rdH_ok (F : World → Prop) (L : List Int) (o : BSt) : okH (rdH F L o).length (rdH F L o) := okHB_eq rfl
set_option maxHeartbeats 4000000 in
theorem reached_c (a : Option Addr) (ca : Nat) (l : List CellP) (ha : a = none → l = []) (hs : Small l) (hok : ∀ p ∈ l, CellOk p) (hg : InG (l.map (·.c))) : ∀ (n : Nat) (L : List Int) (o : BSt) (i : Int), InI (l.map (·.c)) i → freeN (l.map (·.c)) L < n → L.length + freeN (l.map (·.c)) L ≤ 3000 → o.ok L.length →
  SpecH Tryz.prog 50 (pvs [.slice a l.length ca, .int .i64 i, .slice (at0 o.ob) L.length o.cap]) (rdH (GrF a l) L o) (RetG (ι := BSt) (fun o => o.ok (reachF (l.map (·.c)) n L i).length) (fun o => .slice (at0 o.ob) (reachF (l.map (·.c)) n L i).length o.cap) (fun o => rdH (GrF a l) (reachF (l.map (·.c)) n L i) o)) := by
 intro n
 induction n with
 | zero => intro L o i _ h; omega
 | succ n ih =>
  rintro L ⟨ob0, ocap⟩ i0 hi hn hlen ho
  obtain ⟨i, rfl⟩ : ∃ i : Nat, i0 = (i : Int) := ⟨i0.toNat, by have := hi.1; omega⟩
  have hil : i < l.length := by have := hi.2; simp only [List.length_map] at this; omega
  obtain ⟨p, hp⟩ : ∃ x, l[i]? = some x := ⟨_, List.getElem?_eq_getElem hil⟩
  have hpm := List.mem_of_getElem? hp
  have hpo := hok p hpm
  have hps := hs.2 p hpm
  have hl := hs.1
  have hsa : a.isSome = true := by
   cases a with
   | none => rw [ha rfl] at hil; exact absurd hil (Nat.not_lt_zero _)
   | some b => rfl
  refine ownC hm Tryz.func50 (by kernel_rfl) rfl rfl (fun _ _ => rdH_ok _ _ _) (fun _ _ => Nat.le_refl _) ?_
  (first | refine wX ?_ | exact wZ)
  refine call1 (rHas_c (at0 ob0) ocap L (i : Int) (fun h => by cases ob0 with | none => exact List.eq_nil_of_length_eq_zero (ho.1 rfl).1 | some b => cases h) (by omega) _ (fun w hw => hw.1)) ?_
  cases hmem : decide ((i : Int) ∈ L) with
  | true =>
   have hsf : reachF (l.map (·.c)) (n + 1) L (i : Int) = L := by unfold reachF; rw [if_pos (of_decide_eq_true hmem)]
   rw [hsf]
   (first | refine wX ?_ | exact wZ)
   exact ⟨⟨ob0, ocap⟩, ho, rfl, wkH_refl _⟩
  | false =>
  have hmem2 : ¬ (i : Int) ∈ L := of_decide_eq_false hmem
  have hsf : reachF (l.map (·.c)) (n + 1) L (i : Int) = (outs (l.map (·.c)) (i : Int)).foldl (reachF (l.map (·.c)) n) (L ++ [(i : Int)]) := by
   conv => lhs; unfold reachF
   rw [if_neg hmem2]
  rw [hsf, show outs (l.map (·.c)) (i : Int) = p.c.items by unfold outs; rw [at_map hp]]
  have hlt := free_lt hi hmem2 (t := L ++ [(i : Int)]) (fun x hx => by simp [hx]) (by simp)
  (first | refine wX ?_ | exact wZ)
  try refine Nd.mk ⟨Nat.le_refl 1, rfl, rfl⟩ ?_
  (conv => whnf)
  refine AppN.grow 0 (iC L) [.int .i64 (i : Int)] rfl rfl ⟨Nat.le_refl 1, ⟨by show (L.length + 1) * 8 ≤ _; omega, by omega⟩, Nat.one_ne_zero⟩ fun wb wc hwc _ => ?_
  have hcl : iC L ++ [.int .i64 (i : Int)] = iC (L ++ [(i : Int)]) := by simp [iC]
  have hll : L.length + 1 = (L ++ [(i : Int)]).length := by simp
  have hlen2 : (L ++ [(i : Int)]).length + freeN (l.map (·.c)) (L ++ [(i : Int)]) ≤ 3000 := by rw [← hll]; omega
  rw [hcl, hll]
  have hwc2 : (L ++ [(i : Int)]).length ≤ wc := by rw [← hll]; exact hwc
  generalize L ++ [(i : Int)] = L2 at *
  have hitem : ∀ x ∈ p.c.items, InI (l.map (·.c)) x := fun x hx => outs_in hg hi (by unfold outs; rw [at_map hp]; exact hx)
  obtain ⟨f, hf⟩ : ∃ f, f = reachF (l.map (·.c)) n := ⟨_, rfl⟩
  have hfl : ∀ k, ((p.c.items.take k).foldl f L2).length + freeN (l.map (·.c)) ((p.c.items.take k).foldl f L2) ≤ 3000 := fun k => by
   rw [hf]
   have := fold_len (g := l.map (·.c)) (fun L k hk => reach_len hg n L k hk) (p.c.items.take k) L2 (fun x hx => hitem x (List.mem_of_mem_take hx))
   omega
  have hff : ∀ k, freeN (l.map (·.c)) ((p.c.items.take k).foldl f L2) < n := fun k => by
   rw [hf]
   have := free_mono (g := l.map (·.c)) (s := L2) (t := (p.c.items.take k).foldl (reachF (l.map (·.c)) n) L2) (fun x hx => fold_sub _ n x _ _ hx)
   omega
  rw [← hf] at ih ⊢
  (first | refine wX ?_ | exact wZ)
  refine LoopN.intro (Nat × BSt) (fun ⟨k, o⟩ => k ≤ p.c.items.length ∧ o.ok ((p.c.items.take k).foldl f L2).length)
   (fun ⟨k, o⟩ => mkS Tryz.f50.ntmps 0 [(0, .c (.v (.slice a l.length ca))), (1, .c (.v (.int .i64 (i : Int)))), (2, .c (.v (.slice (at0 o.ob) ((p.c.items.take k).foldl f L2).length o.cap))), (7, .c (.v (.int .i64 (k : Int))))])
   (fun ⟨k, o⟩ => rdH (GrF a l) ((p.c.items.take k).foldl f L2) o ++ [.dead]) (fun ⟨k, _⟩ => p.c.items.length - k) [] rfl (fun ⟨_, _⟩ => rfl) (fun ⟨_, _⟩ => rfl) (fun ⟨_, _⟩ _ => okHB_eq rfl) ?_ ?_
  ·refine ⟨(0, ⟨some wb, wc⟩), ⟨Nat.zero_le _, (fun h => by cases h), hwc2, fun h => by have : wc = 0 := h; omega⟩, ?_, wkE_refl _, wkE_refl _, trivial, trivial⟩
   exact wKK
  rintro ⟨k, o⟩ ⟨hk3, hst⟩
  (first | refine wX ?_ | exact wZ)
  refine Nd.mk ⟨hsa, by omega, by omega⟩ ?_
  (first | refine wX ?_ | exact wZ)
  refine LdN.fld (.slice p.ia p.c.items.length p.ic) rfl (fun w hw => hw.2.1.1) (by rw [Int.toNat_natCast]; exact grC_get l i 4 (by decide) hp) ?_
  (first | refine wX ?_ | exact wZ)
  refine brd_dec (fun h1 => ?_) (fun h1 => ?_)
  ·obtain ⟨x, hx⟩ : ∃ z, p.c.items[k]? = some z := ⟨_, List.getElem?_eq_getElem (by omega)⟩
   have hxa : p.ia.isSome = true := by
    cases hq : p.ia with
    | none => rw [hpo.ia hq] at hx; cases hx
    | some b => rfl
   (first | refine wX ?_ | exact wZ)
   refine Nd.mk ⟨hsa, by omega, by omega⟩ ?_
   (first | refine wX ?_ | exact wZ)
   refine LdN.fld (.slice p.ia p.c.items.length p.ic) rfl (fun w hw => hw.2.1.1) (by rw [Int.toNat_natCast]; exact grC_get l i 4 (by decide) hp) ?_
   (first | refine wX ?_ | exact wZ)
   refine Nd.mk ⟨hxa, by omega, by omega⟩ ?_
   (first | refine wX ?_ | exact wZ)
   refine LdN.one (.int .i64 x) rfl (fun w hw => (hw.2.1.2 p hpm).2) (by rw [Int.toNat_natCast]; show (iC p.c.items)[k * 1]? = _; rw [Nat.mul_one]; exact iC_get hx) ?_
   (first | refine wX ?_ | exact wZ)
   refine callG (ih ((p.c.items.take k).foldl f L2) o x (hitem x (List.mem_of_getElem? hx)) (hff k) (hfl k) hst) [0, 1] rfl ⟨rfl, rfl, trivial⟩ rfl fun o2 hst2 => ?_
   have hnx : f ((p.c.items.take k).foldl f L2) x = (p.c.items.take (k + 1)).foldl f L2 := (foldl_take hx).symm
   rw [hnx] at hst2 ⊢
   (first | refine wX ?_ | exact wZ)
   refine ⟨(k + 1, o2), ⟨by omega, hst2⟩, by show p.c.items.length - (k + 1) < p.c.items.length - k; omega, ?_, wkH_refl _⟩
   exact wKK
  ·have hkl : k = p.c.items.length := by omega
   subst hkl
   rw [List.take_length] at hst ⊢
   (first | refine wX ?_ | exact wZ)
   exact ⟨o, hst, rfl, wkE_refl _, wkE_refl _, trivial⟩
end Go.Proofs.YtgogonnnojcioaaGreatDoor

/-
 Contract: whether a circle is reached (document).
-/
namespace Go.Core
end Go.Core
namespace Go.Proofs.YtgogonnnojcioaaGreatDoor
open Go.AX Go.RowKit Go.Core
set_option maxRecDepth 20000

end Go.Proofs.YtgogonnnojcioaaGreatDoor

/-
 Contract: how deep (document).
-/
namespace Go.Core
def KnD (g : List Cell) (S : List Int) : Prop := S.length = g.length ∧ ∀ (j : Nat) (v : Int), S[j]? = some v → v = 0 ∨ (v = (dep g (j : Int) : Int) ∧ 0 < v)
theorem KnD.none (g : List Cell) : KnD g (List.replicate g.length 0) := ⟨by simp, fun j v h => by
 rw [List.getElem?_replicate] at h
 split at h
 ·exact .inl (Option.some.inj h).symm
 ·cases h⟩
theorem KnD.put {g : List Cell} {S : List Int} (h : KnD g S) {i : Nat} (hp : 0 < dep g (i : Int)) : KnD g (S.set i (dep g (i : Int) : Int)) := by
 refine ⟨by rw [List.length_set, h.1], fun j v hj => ?_⟩
 by_cases e : i = j
 ·subst e
  rw [List.getElem?_set] at hj
  simp only [if_true] at hj
  split at hj
  ·cases hj; exact .inr ⟨rfl, by omega⟩
  ·cases hj
 ·rw [List.getElem?_set_ne e] at hj
  exact h.2 j v hj
end Go.Core
namespace Go.Proofs.YtgogonnnojcioaaGreatDoor
open Go.AX Go.RowKit Go.Core
set_option maxRecDepth 20000

end Go.Proofs.YtgogonnnojcioaaGreatDoor

/-
 Contracts: Reach, Circular (document), as in chapter 21.
-/
namespace Go.Proofs.YtgogonnnojcioaaGreatDoor
open Go.AX Go.RowKit Go.Core
set_option maxRecDepth 20000

set_option maxHeartbeats 4000000 in
theorem RReach_c {a : Option Addr} (ca : Nat) {l : List CellP} (ha : a = none → l = []) (hs : Small l) (hok : ∀ p ∈ l, CellOk p) (u : Int) :
  ∃ e : Bool, (e = true ↔ AskP (l.map (·.c)) [u]) ∧ SpecF Tryz.prog 29 [.slice a l.length ca, .int .i64 u] (GrF a l) (IntE e (if e then reachL (l.map (·.c)) u else [])) := by
 obtain ⟨e, he⟩ := ask_bool (l.map (·.c)) [u]
 refine ⟨e, he, ?_⟩
 have hl := hs.1
 refine specF hm Tryz.func29 (by kernel_rfl) rfl rfl ?_
 (first | refine wX ?_ | exact wZ)
 obtain ⟨t, ht1, ht2⟩ := RIs_c a ca l ha (by omega) hok u [.fact (GrF a l)] (fun w hw => hw.1)
 obtain rfl : t = e := by rw [Bool.eq_iff_iff, ht1, he]
 refine call1 ht2 ?_
 cases t with
 | false =>
  (first | refine wX ?_ | exact wZ)
  exact fin_p (fun _ => True) ⟨_, _, rfl, fun _ => rfl, fun w _ => SlAt.nil⟩ fun w hw => trivial
 | true =>
  have hask := he.1 rfl
  have hin := valid_in hask.1
  have hfr := free_le (l.map (·.c)) []
  have hgl : (l.map (·.c)).length = l.length := by simp
  (first | refine wX ?_ | exact wZ)
  refine SpecH.pad [.app 3 1 [] none 0 0] rfl ?_
  refine callG (reached_c a ca l ha hs hok hin ((l.map (·.c)).length + 1) [] ⟨none, 0⟩ u (hask.2 u (by simp)) (by omega) (by simp only [List.length_nil]; omega) ⟨fun _ => ⟨rfl, rfl⟩, Nat.le_refl _, fun _ => rfl⟩) [1, 0] rfl ⟨rfl, rfl, trivial⟩ rfl fun o ho => ?_
  obtain ⟨ob0, ocap⟩ := o
  rw [show reachF (l.map (·.c)) ((l.map (·.c)).length + 1) [] u = reachL (l.map (·.c)) u from rfl] at ho ⊢
  (first | refine wX ?_ | exact wZ)
  refine fin_p (SlAt (at0 ob0) ((reachL (l.map fun p : CellP => p.c) u).length * 1) (iC (reachL (l.map fun p : CellP => p.c) u))) ⟨_, _, rfl, fun h => ?_, fun w hw => hw⟩ fun w hw => ?_
  ·cases ob0 with
   | none => exact List.eq_nil_of_length_eq_zero (ho.1 rfl).1
   | some b => cases h
  ·exact hw.2.1
end Go.Proofs.YtgogonnnojcioaaGreatDoor

/-
 Contract: slices.Clone, with memory of the caller's own.
-/
namespace Go.Proofs.YtgogonnnojcioaaGreatDoor
open Go.AX Go.RowKit Go.Core
set_option maxRecDepth 20000

end Go.Proofs.YtgogonnnojcioaaGreatDoor

/-
 AX, fifty-sixth text: a row that may be nil is put into a family.
-/
namespace Go.AX

end Go.AX

/-
 Plain: a graph whose cells are changed one by one, and its rows; graphs in whose arrays b stands for a are valid.
-/
namespace Go.Core
theorem set_same {α : Type} {l : List α} {k : Nat} {x : α} (h : l[k]? = some x) : l.set k x = l := by
 obtain ⟨hk, rfl⟩ := List.getElem?_eq_some_iff.1 h
 exact List.set_getElem_self hk
end Go.Core
namespace Go.Proofs.YtgogonnnojcioaaGreatDoor
open Go.AX Go.RowKit Go.Core
set_option maxRecDepth 20000

end Go.Proofs.YtgogonnnojcioaaGreatDoor

/-
 Contract: the graph of what is reached (program), with memory of the caller's own.
-/
namespace Go.Proofs.YtgogonnnojcioaaGreatDoor
open Go.AX Go.RowKit Go.Core
set_option maxRecDepth 20000

end Go.Proofs.YtgogonnnojcioaaGreatDoor

/-
 Plain: the text of an array is that of its items.
-/
namespace Go.Core
end Go.Core

/-
 Plain: a copy is valid, begins with the cell that was asked for, is the copy of itself, and writes the same text.
-/
namespace Go.Core
open Go.Proofs.YtgogonnnojcioaaGreatDoor
theorem reachL_head {g : List Cell} (u : Int) : (reachL g u)[0]? = some u := by
 unfold reachL reachF
 rw [if_neg (by simp), List.nil_append]
 have h : ∀ (n : Nat) (ks l : List Int), ∃ r, ks.foldl (reachF g n) l = l ++ r := by
  intro n ks
  induction ks with
  | nil => exact fun l => ⟨[], by simp⟩
  | cons k ks ih =>
   intro l
   obtain ⟨r, hr⟩ := reach_pre (g := g) n l k
   obtain ⟨r2, hr2⟩ := ih (reachF g n l k)
   exact ⟨r ++ r2, by rw [List.foldl_cons, hr2, hr, List.append_assoc]⟩
 obtain ⟨r, hr⟩ := h g.length (outs g u) [u]
 rw [hr]
 rfl
theorem reachL_facts {g : List Cell} (hg : InG g) {u : Int} (hu : InI g u) : (reachL g u).Nodup ∧ (∀ i ∈ reachL g u, ∀ k ∈ outs g i, k ∈ reachL g u) ∧ (∀ i ∈ reachL g u, InI g i) ∧ (reachL g u).length ≤ g.length ∧ u ∈ reachL g u ∧ place (reachL g u) u = 0 := by
 have hLi : ∀ x, x ∈ reachL g u ↔ To g u x := fun x => reach_iff hg (Nat.lt_succ_self _) hu x
 have hn : (reachL g u).Nodup := reach_nodup _ _ _ List.nodup_nil
 refine ⟨hn, fun x hx y hy => (hLi y).2 (((hLi x).1 hx).trans (.step hy (.refl y))), fun x hx => Go.Core.to_in hg ((hLi x).1 hx) hu, ?_, (hLi u).2 (.refl u), ?_⟩
 ·have h1 := reach_len hg (g.length + 1) [] u hu
  have h2 := free_le g []
  unfold reachL
  simp only [List.length_nil] at h1
  omega
 ·exact place_at hn (reachL_head u)
end Go.Core

/-
 Contract: what is one stays one (law).
-/
namespace Go.Proofs.YtgogonnnojcioaaGreatDoor
open Go.AX Go.RowKit Go.Core Go.Marshal
set_option maxRecDepth 20000

set_option maxHeartbeats 4000000 in
theorem MarshalShares_c (a : Option Addr) (ca : Nat) (L : List Int) (ha : a = none → L = []) (hl : L.length ≤ 200000000000000) : ∀ H, (∀ w, Facts H w → SlAt a (L.length * 1) (iC L) w) → SpecH Tryz.prog 9 (pvs [.slice a L.length ca]) H (Ret (.bool true) H) := by
 refine factC hm Tryz.func9 (by kernel_rfl) rfl rfl ?_
 ((conv => whnf); (repeat ((first | refine VrN.keep ?_ | refine BoxN.own ?_ | refine RwN.own ?_); (conv => whnf))))
 refine SpecF.call (Grown_c a ca L ha hl) (fun w hw => hw.1) fun v G hR => ?_
 obtain ⟨oa, oc, m, rfl, hoa, hok, hs, hv, ⟨hl12, hsm⟩, hG⟩ := hR
 (first | refine wX ?_ | exact wZ)
 by_cases hm0 : m = []
 ·subst hm0
  (first | refine wX ?_ | exact wZ)
  refine call1 (sane_m _) ?_
  (first | refine wX ?_ | exact wZ)
 have hmp : 0 < m.length := by cases m with
  | nil => exact absurd rfl hm0
  | cons _ _ => simp
 have hvm : ValidP (m.map (·.c)) := hv.resolve_left hm0
 have tiny : Tiny (m.map (·.c)) := ⟨hvm, by rw [List.length_map]; exact hl12, fun c hc => by
  obtain ⟨q, hq, rfl⟩ := List.mem_map.1 hc
  exact hsm q hq⟩
 have hkin : InI (m.map (·.c)) 0 := ⟨by omega, by rw [List.length_map]; omega⟩
 have hask : AskP (m.map (·.c)) [0] := ⟨hvm, fun x hx => by obtain rfl := List.mem_singleton.1 hx; exact hkin⟩
 obtain ⟨q, org, cs, hload, himg, hql, hcs, hnd, hcm⟩ := tiny.load hkin
 have hsh := shares_eq (tiny.dmp hkin) hcs hnd hcm (n := (m.map (·.c)).length + 1) (Nat.lt_succ_self _)
 rw [show ((m.length : Int) == 0) = false by rw [beq_eq_false_iff_ne]; omega]
 ((conv => whnf); (repeat ((first | refine VrN.keep ?_ | refine BoxN.own ?_ | refine RwN.own ?_); (conv => whnf))))
 refine SpecF.call (as_m oa oc m hoa hs.wide hok) (fun w hw => hG w hw.2.1) fun v2 G2 hR2 => ?_
 obtain ⟨pa, pc, m2, rfl, hpa, hmc, hmo, hG2⟩ := hR2
 have hms : Small m2 := small_as hs hmc
 obtain ⟨e, he, hes⟩ := RReach_c pc hpa hms hmo 0
 rw [hmc] at he hes
 obtain rfl : e = true := he.2 hask
 ((conv => whnf); (repeat ((first | refine VrN.keep ?_ | refine BoxN.own ?_ | refine RwN.own ?_); (conv => whnf))))
 refine SpecF.call hes (fun w hw => hG2 w hw.2.2.1) fun v3 G3 hR3 => ?_
 obtain ⟨ra, rc, rfl, hra, hG3⟩ := hR3
 rw [show (if true = true then reachL (m.map (·.c)) 0 else []) = reachF (m.map (·.c)) ((m.map (·.c)).length + 1) [] 0 from rfl] at hra hG3 ⊢
 have hrin : ∀ x ∈ reachF (m.map (·.c)) ((m.map (·.c)).length + 1) [] 0, InI (m.map (·.c)) x := (reachL_facts (valid_in hvm) hkin).2.2.1
 have hrl : (reachF (m.map (·.c)) ((m.map (·.c)).length + 1) [] 0).length ≤ 500 := by
  have h1 := (reachL_facts (valid_in hvm) hkin).2.2.2.1
  have h2 := hvm.1
  exact Nat.le_trans h1 h2
 generalize reachF (m.map (·.c)) ((m.map (·.c)).length + 1) [] 0 = R at hra hG3 hrin hrl hsh ⊢
 obtain ⟨e2, he2, hes2⟩ := Deep_c oc hoa hs hok 0
 obtain rfl : e2 = true := he2.2 hask
 rw [show (if true = true then loadS (dumpS (m.map (·.c)) 0) else .error 1) = loadS (dumpS (m.map (·.c)) 0) from rfl, hload] at hes2
 ((conv => whnf); (repeat ((first | refine VrN.keep ?_ | refine BoxN.own ?_ | refine RwN.own ?_); (conv => whnf))))
 refine SpecF.call hes2 (fun w hw => hG w hw.2.1) fun v4 G4 hR4 => ?_
 obtain ⟨v1, rfl, da, dc, d, rfl, hdg, hda, hdo, hG4⟩ := hR4
 (first | refine wX ?_ | exact wZ)
 have hdl : d.length ≤ 500 := by
  have h1 := tiny.len
  have h2 : wgt iT (m.map (·.c)) [] ≤ (m.map (·.c)).length * 4 := wgt_le (fun i hi => by
   have := tiny.cell _ (at_mem hi)
   unfold iT
   omega) []
  rw [← hdg, List.length_map] at hql
  omega
 refine loopS Nat (fun i => i ≤ R.length) (fun i => mkS Tryz.f9.ntmps 0 [(3, .c (.v (.slice oa m.length oc))), (4, .c (.v (.slice ra R.length rc))), (6, .c (.v (.slice da d.length dc))), (8, .c (.v (.int .i64 (((R.take i).filter fun x => shB (at_ (m.map (·.c)) x)).length : Int)))), (9, .c (.v (.int .i64 0))), (10, .c (.v (.int .i64 (i : Int))))]) (fun i => R.length - i) rfl (fun _ => rfl) 0 (Nat.zero_le _) ?_ ?_
 ·exact wKK
 intro i hi
 have hcl : ((R.take i).filter fun x => shB (at_ (m.map (·.c)) x)).length ≤ 500 := Nat.le_trans (List.length_filter_le _ _) (by rw [List.length_take]; omega)
 (first | refine wX ?_ | exact wZ)
 refine brd_dec (fun h1 => ?_) (fun h1 => ?_)
 ·obtain ⟨x, hx⟩ : ∃ x, R[i]? = some x := ⟨_, List.getElem?_eq_getElem (by omega)⟩
  have hin := hrin x (List.mem_of_getElem? hx)
  have hin2 : x < (m.length : Int) := by have := hin.2; rw [List.length_map] at this; exact this
  obtain ⟨p, hp⟩ : ∃ p, m[x.toNat]? = some p := ⟨_, List.getElem?_eq_getElem (by have := hin.1; omega)⟩
  have hat : at_ (m.map (·.c)) x = p.c := by
   have := at_get (h := m.map (·.c)) (j := x.toNat) (c := p.c) (by rw [List.getElem?_map, hp]; rfl)
   rw [Int.toNat_of_nonneg hin.1] at this
   exact this
  have hsr : ra.isSome = true := by
   cases ra with
   | none => rw [hra rfl] at hx; cases hx
   | some b => rfl
  have hso : oa.isSome = true := by
   cases oa with
   | none => exact absurd (hoa rfl) hm0
   | some b => rfl
  have hst : ((R.take (i + 1)).filter fun x => shB (at_ (m.map (·.c)) x)).length = ((R.take i).filter fun x => shB (at_ (m.map (·.c)) x)).length + (if shB p.c = true then 1 else 0) := by
   rw [List.take_add_one, hx, List.filter_append, List.length_append]
   simp only [Option.toList_some, List.filter_cons, hat, List.filter_nil]
   split <;> rfl
  (first | refine wX ?_ | exact wZ)
  refine Nd.mk ⟨hsr, by omega, by omega⟩ ?_
  (first | refine wX ?_ | exact wZ)
  refine LdN.one (.int .i64 x) rfl (fun w hw => hG3 w hw.2.2.2.1) (by show (iC R)[Int.toNat _ * 1]? = _; rw [Int.toNat_natCast, Nat.mul_one]; exact iC_get hx) ?_
  (first | refine wX ?_ | exact wZ)
  refine Nd.mk ⟨hso, hin.1, hin2⟩ ?_
  (first | refine wX ?_ | exact wZ)
  refine LdN.one (.int .i64 p.c.kind) rfl (fun w hw => (hG w hw.2.1).1) (by show (grC m)[x.toNat * 5 + 0]? = _; rw [grC_get m _ 0 (by decide) hp]; rfl) ?_
  (first | refine wX ?_ | exact wZ)
  by_cases h4 : p.c.kind = 4
  ·have hsb : shB p.c = true := by unfold shB; rw [decide_eq_true h4]; rfl
   rw [if_pos hsb] at hst
   rw [show (p.c.kind == 4) = true by rw [h4]; rfl]
   (first | refine wX ?_ | exact wZ)
   refine ⟨i + 1, by omega, by omega, ?_, wHH⟩
   (repeat' (first | exact trivial | refine And.intro (by with_reducible rfl) ?_ | (with_reducible exact wkC_refl _) | (with_reducible exact wkCs_refl _) | refine And.intro ?_ ?_))
   all_goals first | rfl | exact av_int (by rw [hst]; first | rfl | (rw [wrap_i64 (by omega)]; omega))
  ·rw [show (p.c.kind == 4) = false by simpa using h4]
   (first | refine wX ?_ | exact wZ)
   refine brd_dec (fun h6 => ?_) (fun h6 => ?_)
   ·have hsb : shB p.c = true := by unfold shB; rw [decide_eq_true (show 6 ≤ p.c.kind from h6), Bool.or_true]
    rw [if_pos hsb] at hst
    (first | refine wX ?_ | exact wZ)
    refine ⟨i + 1, by omega, by omega, ?_, wHH⟩
    (repeat' (first | exact trivial | refine And.intro (by with_reducible rfl) ?_ | (with_reducible exact wkC_refl _) | (with_reducible exact wkCs_refl _) | refine And.intro ?_ ?_))
    all_goals first | rfl | exact av_int (by rw [hst]; first | rfl | (rw [wrap_i64 (by omega)]; omega))
   ·have hsb : shB p.c = false := by unfold shB; rw [decide_eq_false h4, decide_eq_false (show ¬ 6 ≤ p.c.kind from h6)]; rfl
    rw [if_neg (by rw [hsb]; decide)] at hst
    (first | refine wX ?_ | exact wZ)
    refine ⟨i + 1, by omega, by omega, ?_, wHH⟩
    (repeat' (first | exact trivial | refine And.intro (by with_reducible rfl) ?_ | (with_reducible exact wkC_refl _) | (with_reducible exact wkCs_refl _) | refine And.intro ?_ ?_))
    all_goals first | rfl | exact av_int (by rw [hst]; first | rfl | (rw [wrap_i64 (by omega)]; omega))
 ·obtain rfl : i = R.length := by omega
  rw [List.take_length, hsh]
  have hcd : ((d.filter fun p => shB p.c)).length = (q.filter shB).length := by rw [← hdg, List.filter_map, List.length_map]; rfl
  rw [← hcd]
  have hfl : (d.filter fun p => shB p.c).length ≤ 500 := Nat.le_trans (List.length_filter_le _ _) hdl
  generalize hW : (d.filter fun p => shB p.c).length = W at hfl ⊢
  (first | refine wX ?_ | exact wZ)
  refine loopS Nat (fun i => i ≤ d.length) (fun i => mkS Tryz.f9.ntmps 0 [(6, .c (.v (.slice da d.length dc))), (8, .c (.v (.int .i64 (W : Int)))), (9, .c (.v (.int .i64 (((d.take i).filter fun p => shB p.c).length : Int)))), (12, .c (.v (.int .i64 (i : Int))))]) (fun i => d.length - i) rfl (fun _ => rfl) 0 (Nat.zero_le _) ?_ ?_
  ·exact wKK
  intro i hi
  have hcl : ((d.take i).filter fun p => shB p.c).length ≤ 500 := Nat.le_trans (List.length_filter_le _ _) (by rw [List.length_take]; omega)
  (first | refine wX ?_ | exact wZ)
  refine brd_dec (fun h1 => ?_) (fun h1 => ?_)
  ·obtain ⟨p, hp⟩ : ∃ p, d[i]? = some p := ⟨_, List.getElem?_eq_getElem (by omega)⟩
   have hsd : da.isSome = true := by
    cases da with
    | none => rw [hda rfl] at hp; cases hp
    | some b => rfl
   have hst : ((d.take (i + 1)).filter fun p => shB p.c).length = ((d.take i).filter fun p => shB p.c).length + (if shB p.c = true then 1 else 0) := by
    rw [List.take_add_one, hp, List.filter_append, List.length_append]
    simp only [Option.toList_some, List.filter_cons, List.filter_nil]
    split <;> rfl
   have hkd : (grC d)[(i : Int).toNat * 5 + 0]? = some (.int .i64 p.c.kind) := by rw [Int.toNat_natCast, grC_get d _ 0 (by decide) hp]; rfl
   (first | refine wX ?_ | exact wZ)
   refine Nd.mk ⟨hsd, by omega, by omega⟩ ?_
   (first | refine wX ?_ | exact wZ)
   refine LdN.one (.int .i64 p.c.kind) rfl (fun w hw => (hG4 w hw.2.2.2.2.1).1) hkd ?_
   (first | refine wX ?_ | exact wZ)
   by_cases h4 : p.c.kind = 4
   ·have hsb : shB p.c = true := by unfold shB; rw [decide_eq_true h4]; rfl
    rw [if_pos hsb] at hst
    rw [show (p.c.kind == 4) = true by rw [h4]; rfl]
    (first | refine wX ?_ | exact wZ)
    refine ⟨i + 1, by omega, by omega, ?_, wHH⟩
    (repeat' (first | exact trivial | refine And.intro (by with_reducible rfl) ?_ | (with_reducible exact wkC_refl _) | (with_reducible exact wkCs_refl _) | refine And.intro ?_ ?_))
    all_goals first | rfl | exact av_int (by rw [hst]; first | rfl | (rw [wrap_i64 (by omega)]; omega))
   ·rw [show (p.c.kind == 4) = false by simpa using h4]
    (first | refine wX ?_ | exact wZ)
    refine Nd.mk ⟨hsd, by omega, by omega⟩ ?_
    (first | refine wX ?_ | exact wZ)
    refine LdN.one (.int .i64 p.c.kind) rfl (fun w hw => (hG4 w hw.2.2.2.2.1).1) hkd ?_
    (first | refine wX ?_ | exact wZ)
    refine brd_dec (fun h6 => ?_) (fun h6 => ?_)
    ·have hsb : shB p.c = true := by unfold shB; rw [decide_eq_true (show 6 ≤ p.c.kind from h6), Bool.or_true]
     rw [if_pos hsb] at hst
     (first | refine wX ?_ | exact wZ)
     refine ⟨i + 1, by omega, by omega, ?_, wHH⟩
     (repeat' (first | exact trivial | refine And.intro (by with_reducible rfl) ?_ | (with_reducible exact wkC_refl _) | (with_reducible exact wkCs_refl _) | refine And.intro ?_ ?_))
     all_goals first | rfl | exact av_int (by rw [hst]; first | rfl | (rw [wrap_i64 (by omega)]; omega))
    ·have hsb : shB p.c = false := by unfold shB; rw [decide_eq_false h4, decide_eq_false (show ¬ 6 ≤ p.c.kind from h6)]; rfl
     rw [if_neg (by rw [hsb]; decide)] at hst
     (first | refine wX ?_ | exact wZ)
     refine ⟨i + 1, by omega, by omega, ?_, wHH⟩
     (repeat' (first | exact trivial | refine And.intro (by with_reducible rfl) ?_ | (with_reducible exact wkC_refl _) | (with_reducible exact wkCs_refl _) | refine And.intro ?_ ?_))
     all_goals first | rfl | exact av_int (by rw [hst]; first | rfl | (rw [wrap_i64 (by omega)]; omega))
  ·obtain rfl : i = d.length := by omega
   rw [List.take_length, hW]
   (first | refine wX ?_ | exact wZ)
   rw [show ((W : Int) == (W : Int)) = true from beq_self_eq_true _]
   (first | refine wX ?_ | exact wZ)
   refine call1 (sane_m _) ?_
   (first | refine wX ?_ | exact wZ)
end Go.Proofs.YtgogonnnojcioaaGreatDoor

/-
 MarshalSharesCardSaid is proved: of every numbers MarshalShares returns true; the listed tables are tied to the program's text.
-/
namespace Go.Proofs.YtgogonnnojcioaaGreatDoor
open Go.ChangeShapes Go.WideShapes Go.ChangeAt Go.RowKit Go.AX Go.Core
set_option maxRecDepth 100000

namespace MarshalShares
theorem own : ownKnob Tryz.prog.godebug = none := own0
theorem walk {H : Type} {enc : TypeId × Value → H} (W : World) (base : Nat) (args : Array Value) (ds : List (DataW H)) (p : List MemPlace) (k : Known enc Tryz.prog Tryz.f9 W base args ds p) (_hL : laidMetH Tryz.prog laid3 W) : Walk Tryz.prog 9 args W := by
 obtain ⟨u, rfl⟩ := arr1 (trodAll_len k.trod).2
 obtain ⟨a, l, cap, rfl, ⟨_hq, ha, hs⟩, _, _⟩ := k.low.ints (e := 3) (i := .i64) 0 rfl rfl (by kernel_rfl) (by kernel_rfl) (by kernel_rfl) (by decide +kernel)
 have nil_of : ∀ {a : Option Addr} {l : List Int}, a.isSome = true ∨ l.length = 0 → a = none → l = [] := fun {a l} h e => by
  rcases h with h | h
  ·rw [e] at h; cases h
  ·exact List.eq_nil_of_length_eq_zero h
 exact walkH [.fact (SlAt a (l.length * 1) (iC l))] (fun _ he => ⟨_, List.mem_singleton.1 he, by rw [Nat.mul_one]; exact hs⟩) (MarshalShares_c a cap l (nil_of ha) _hq _ fun w hw => hw.1)

theorem lifted (os : Os) (started : os.Started) (H : Type) (enc : TypeId × Value → H) :
  ReturnsInHanded {} Tryz.checked os 9 .any (fun w args => (Rows.marshalSharesSpec.pre enc Tryz.prog Tryz.f9 [] false w args ∧ laidMetH Tryz.prog laid3 w) ∧ sizedMet enc Tryz.prog Tryz.f9 (OpenSpec.ofChange Rows.marshalSharesSpec) false w args) (Rows.marshalSharesSpec.post enc Tryz.prog Tryz.f9 false true false false) := by
 refine liftS (C := Tryz.checked) own started (by kernel_rfl) Tryz.func9
  (ChangeSpec.witness_shaped (enc := enc) (C := Tryz.checked) (os := os) (X := fun w _ => laidMetH Tryz.prog laid3 w) false (World.laidAll Tryz.prog os laid3) #[.slice none 0 0] 8 (World.laidAll_os _ _ _) (World.shaped_of_ZipB (by kernel_rfl) (by kernel_rfl)) (by kernel_rfl) (by kernel_rfl) (by kernel_rfl) (door_met os _))
  laidOut rfl (t := _) rfl (by kernel_rfl) (by kernel_rfl) ?_ walk
 intro ds hd
 match ds, hd with
 | [d0], _ => rfl

theorem over : Rows.marshalSharesRow.holds Tryz.pinned (OpenSpec.ofChange Rows.marshalSharesSpec) :=
 OpenClaim.holds_of_wide 9 Tryz.f9 rfl rfl rfl rfl rfl rfl rfl ⟨rfl, rfl, rfl, rfl, rfl⟩ rfl rfl rfl rfl rfl (by kernel_rfl) Tryz.func9 (by kernel_rfl)
  (of_decide_eq_true (by kernel_rfl)) (by unfold Func.isWrapper; first | (rw [if_pos (by decide +kernel)]; kernel_rfl) | (rw [if_neg (by decide +kernel)]; exact ⟨rfl, rfl⟩))
  (fun os started H enc _ => lifted os started H enc)

theorem proved : Rows.MarshalSharesCardSaid :=
 Claim7.holds_tied_plain_at .later [] [.data, .pinned] true (true, "92e2ed60dd5b2613fe6e0d172a7e2bd0782f276a49ab098c444f4227433a6c5a") false
  over (fun _ h => by cases h) (by kernel_rfl) (fun _ h => by cases h) marshalShares_row_tie rfl ⟨rfl, rfl⟩ (by kernel_rfl) rfl
  (fun f fn hf hfn => by
   obtain rfl : f = 9 := Option.some.inj ((show Tryz.prog.funcNamed "cabochon/cabochonlaw29.MarshalShares" = some 9 by kernel_rfl).symm.trans hf) |>.symm
   obtain rfl : fn = Tryz.f9 := (Option.some.inj (Tryz.func9.symm.trans hfn)).symm
   exact ⟨by kernel_rfl, fun j t ht => by
    have hm : t ∈ Tryz.f9.params.toList := by simpa using Array.mem_of_getElem? ht
    have hall : (Tryz.f9.params.toList.all fun u => !Tryz.prog.wantsStandIn u) = true := by kernel_rfl
    exact (show Tryz.prog.wantsStandIn t = false by simpa using List.all_eq_true.1 hall t hm)⟩)
  (by kernel_rfl)
#print axioms proved
end MarshalShares
end Go.Proofs.YtgogonnnojcioaaGreatDoor
