/-
  Lemmas (G1 P18 E2 Y1 Y2 Z5 E3 Z6 Z7 Z8 Z9 E4 E5 E10 Ax57 E11 E12 E13 E6 E7 P16).
-/
import Derived.Test.YtahjbnfbilkbcaaGreatDoorJoi8
set_option linter.unusedVariables false
set_option linter.unusedSimpArgs false
/-
  Contract: the graphs that numbers make (law).
-/
namespace Go.Proofs.YtahjbnfbilkbcaaGreatDoor
open Go.AX Go.RowKit Go.Core
set_option maxRecDepth 20000

/-- A cell that numbers make. -/
structure GrwC (n : Nat) (p : CellP) : Prop where
  ok : CellOk p
  it : ∀ y ∈ p.c.items, 0 ≤ y
  il : p.c.items.length ≤ 4
  nl : p.c.names.length ≤ 2
theorem grw_plain (n : Nat) (k nu : Int) (t : List UInt8) (ht : t.length ≤ 2) : GrwC n ⟨⟨k, nu, t, [], []⟩, none, 0, none, 0⟩ :=
  ⟨⟨fun _ => rfl, fun _ => rfl, Nat.zero_le _, Nat.zero_le _, (fun s h => (by cases h)), (by show t.length ≤ _; omega), Nat.le_refl _, Nat.le_refl _⟩, (fun y h => (by cases h)), Nat.zero_le _, Nat.zero_le _⟩
theorem grw_item (x : Int) (k d e n : Nat) (hx : 0 ≤ x ∧ x ≤ 2049638230412172402) (hk : k ≤ 3) (hd : 1 ≤ d) (he : e ≤ 10) : 0 ≤ (IntKind.i64.wrap (IntKind.u64.wrap (IntKind.u64.wrap (x.tdiv (d : Int)) + IntKind.u64.wrap (IntKind.u64.wrap (k : Int) * (e : Int))))).tmod (n : Int) := by
  have h1 : 0 ≤ x.tdiv (d : Int) ∧ x.tdiv (d : Int) ≤ x := by
    rw [Int.tdiv_eq_ediv_of_nonneg hx.1]
    exact ⟨Int.ediv_nonneg hx.1 (by omega), Int.ediv_le_self _ hx.1⟩
  have h2 : 0 ≤ (k : Int) * (e : Int) ∧ (k : Int) * (e : Int) ≤ 30 := by
    have := Nat.mul_le_mul hk he
    rw [← Int.natCast_mul]
    omega
  rw [wrap_u64 (x := x.tdiv (d : Int)) (by omega), wrap_u64 (x := (k : Int)) (by omega), wrap_u64 (x := (k : Int) * (e : Int)) (by omega), wrap_u64 (by omega), wrap_i64 (by omega)]
  exact Int.tmod_nonneg _ (by omega)
/-- A cell with other items. -/
def setI (p : CellP) (its : List Int) (ia : Option Addr) (ic : Nat) : CellP := ⟨{ p.c with items := its }, p.na, p.nc, ia, ic⟩
theorem grC_set : ∀ {m : List CellP} {j : Nat} {p : CellP} (its : List Int) (ia : Option Addr) (ic : Nat), m[j]? = some p → (grC m).set (j * 5 + 4) (.slice ia its.length ic) = grC (m.set j (setI p its ia ic))
  | [], _, _, _, _, _, h => by cases h
  | q :: m, 0, p, its, ia, ic, h => by
    obtain rfl := Option.some.inj h
    rfl
  | q :: m, j + 1, p, its, ia, ic, h => by
    have ih := grC_set its ia ic (show m[j]? = some p from h)
    have e : ∀ q : CellP, grC (q :: m) = cellC q ++ grC m := fun q => by unfold grC; rw [List.flatMap_cons]
    rw [e, List.set_cons_succ, show (j + 1) * 5 + 4 = (j * 5 + 4) + 5 by omega]
    have e2 : grC (q :: m.set j (setI p its ia ic)) = cellC q ++ grC (m.set j (setI p its ia ic)) := by unfold grC; rw [List.flatMap_cons]
    rw [e2, ← ih]
    rfl
theorem SlAt.take {a : Option Addr} {k j : Nat} {xs : List Value} {w : World} (h : SlAt a k xs w) (hj : j ≤ k) : SlAt a j (xs.take j) w :=
  ⟨by rw [List.length_take, h.1]; omega, fun h0 => h.2.1 (by omega), fun i hi => by rw [h.2.2 i (by omega), List.getElem?_take_of_lt hi]⟩
theorem grw_set {n : Nat} {m : List CellP} (h : ∀ p ∈ m, GrwC n p) {j : Nat} {p : CellP} (hp : p ∈ m) {its : List Int} (b ic : Nat) (h0 : ∀ y ∈ its, 0 ≤ y) (hl : its.length ≤ 4) (hc : its.length ≤ ic) : ∀ q ∈ m.set j (setI p its (some ⟨b, 0, none⟩) ic), GrwC n q := fun q hq => by
  rcases List.mem_or_eq_of_mem_set hq with hq | rfl
  · exact h q hq
  · have g := h p hp
    exact ⟨⟨g.ok.na, (fun h => by cases h), g.ok.nl, (by show its.length ≤ _; omega), g.ok.nw, g.ok.tl, g.ok.nb, hc⟩, h0, hl, g.nl⟩
theorem grw_small {n : Nat} {m : List CellP} (h : ∀ p ∈ m, GrwC n p) (hl : m.length ≤ 12) : Small m :=
  ⟨by omega, fun p hp => ⟨by have := (h p hp).nl; omega, by have := (h p hp).il; omega⟩⟩
theorem Valid_b (a : Option Addr) (ca : Nat) (l : List CellP) (ha : a = none → l = []) (hl : l.length ≤ 200000000000000) (hok : ∀ p ∈ l, CellOk p) :
    ∃ b : Bool, (b = true ↔ ValidP (l.map (·.c))) ∧ ∀ H, (∀ w, Facts H w → GrF a l w) → SpecH Tryz.prog 17 (pvs [.slice a l.length ca]) H (Ret (.bool b) H) := by
  obtain ⟨b, hb⟩ : ∃ b : Bool, b = true ↔ ValidP (l.map (·.c)) := by
    by_cases h : ValidP (l.map (·.c))
    · exact ⟨true, fun _ => h, fun _ => rfl⟩
    · exact ⟨false, (fun h => by cases h), fun h2 => absurd h2 h⟩
  refine ⟨b, hb, fun H hH => ?_⟩
  obtain ⟨b2, hb2, h⟩ := Valid_c a ca l ha hl hok H hH
  obtain rfl : b2 = b := by rw [Bool.eq_iff_iff, hb, hb2]
  exact h
theorem set_rows {m : List CellP} {j : Nat} {p : CellP} (hp : p ∈ m) {its : List Int} {ia : Option Addr} {ic : Nat} {w : World} (h : ∀ q ∈ m, CellF q w) (hi : SlAt ia (its.length * 1) (iC its) w) : ∀ q ∈ m.set j (setI p its ia ic), CellF q w := fun q hq => by
  rcases List.mem_or_eq_of_mem_set hq with hq | rfl
  · exact h q hq
  · exact ⟨(h p hp).1, hi⟩
/-- A graph that numbers make. -/
def GrwR (v : Value) (G : World → Prop) : Prop := ∃ (oa : Option Addr) (oc : Nat) (m : List CellP), v = .slice oa m.length oc ∧ (oa = none → m = []) ∧ (∀ p ∈ m, CellOk p) ∧ Small m ∧ (m = [] ∨ ValidP (m.map (·.c))) ∧ m.length ≤ 12 ∧ ∀ w, G w → GrF oa m w
structure GSt where
  i : Nat
  ob : Option Nat
  oc : Nat
  m : List CellP
set_option maxHeartbeats 4000000 in
theorem Grown_c (a : Option Addr) (ca : Nat) (L : List Int) (ha : a = none → L = []) (hl : L.length ≤ 200000000000000) : SpecF Tryz.prog 22 [.slice a L.length ca] (fun w => SlAt a (L.length * 1) (iC L) w) GrwR := by
  refine specF hm Tryz.func22 (by kernel_rfl) rfl rfl ?_
  (first | refine wX ?_ | exact wZ)
  obtain ⟨n, hn⟩ : ∃ n, n = min L.length 12 := ⟨_, rfl⟩
  refine LoopN.introS GSt (fun ⟨i, ob, oc, m⟩ => i ≤ n ∧ m.length = i ∧ (∀ p ∈ m, GrwC n p) ∧ (ob = none → m = []) ∧ m.length ≤ oc) (fun ⟨i, ob, oc, m⟩ => mkS Tryz.f22.ntmps 0 [(0, .c (.v (.slice a L.length ca))), (3, .c (.v (.int .i64 (n : Int)))), (4, .c (.v (.slice (at0 ob) m.length oc))), (5, .c (.v (.int .i64 (i : Int))))]) (fun ⟨i, ob, oc, m⟩ => [.fact (fun w => SlAt a (L.length * 1) (iC L) w), .app 42 5 (grC m) (at0 ob) m.length oc, .fact (fun w => ∀ p ∈ m, CellF p w)]) (fun ⟨i, _, _, _⟩ => n - i) [.app 42 5 [] none 0 0, .dead] rfl (fun _ => rfl) (fun _ => rfl) (fun _ _ => ⟨trivial, trivial, trivial, trivial⟩) ?_ ?_
  · refine ⟨⟨0, none, 0, []⟩, ⟨Nat.zero_le _, rfl, (fun p h => by cases h), (fun _ => rfl), Nat.le_refl _⟩, ?_, [.fact (fun w => SlAt a (L.length * 1) (iC L) w), .app 42 5 [] none 0 0, .fact (fun w => ∀ p ∈ [], CellF p w)], turnS ⟨.inr (.inl rfl), .inr (.inl rfl), .inr (.inr ⟨_, rfl, fun w _ p hp => by cases hp⟩), trivial⟩, wkH_refl _⟩
    (repeat' (first | exact trivial | refine And.intro (by with_reducible rfl) ?_ | (with_reducible exact wkC_refl _) | (with_reducible exact wkCs_refl _) | refine And.intro ?_ ?_))
    all_goals first | rfl | exact av_int (by rw [hn]; unfold Go.AX.minI; split <;> omega)
  rintro ⟨i, ob, oc, m⟩ ⟨hi, hml, hmo, hoa, hoc⟩
  (first | refine wX ?_ | exact wZ)
  refine brd_dec (fun h1 => ?_) (fun h1 => ?_)
  · obtain ⟨z, hz⟩ : ∃ z, L[i]? = some z := ⟨_, List.getElem?_eq_getElem (by omega)⟩
    have hsa : a.isSome = true := by
      cases a with
      | none => rw [ha rfl] at hz; cases hz
      | some b => rfl
    (first | refine wX ?_ | exact wZ)
    refine Nd.mk ⟨hsa, by omega, by omega⟩ ?_
    (first | refine wX ?_ | exact wZ)
    refine LdN.one (.int .i64 z) rfl (fun w hw => hw.1) (by rw [Int.toNat_natCast]; show (iC L)[i * 1]? = _; rw [Nat.mul_one]; exact iC_get hz) ?_
    (first | refine wX ?_ | exact wZ)
    have hXb := wrap_u64_bd z
    generalize IntKind.u64.wrap z = X at *
    have hx0 : IntKind.u64.wrap (X.tdiv 9) = X / 9 := by rw [Int.tdiv_eq_ediv_of_nonneg (by omega)]; exact wrap_u64 (by omega)
    have hk0 : IntKind.i64.wrap (X.tmod 9) = X % 9 := by rw [Int.tmod_eq_emod_of_nonneg (by omega)]; exact wrap_i64 (by omega)
    rw [hx0, hk0]
    obtain ⟨x, hx⟩ : ∃ x, x = X / 9 := ⟨_, rfl⟩
    obtain ⟨kd, hkd⟩ : ∃ kd, kd = X % 9 := ⟨_, rfl⟩
    rw [← hx, ← hkd]
    have hxb : 0 ≤ x ∧ x ≤ 2049638230412172402 := by omega
    have hkb : 0 ≤ kd ∧ kd ≤ 8 := by omega
    clear hx0 hk0
    have hkk : kd = 0 ∨ kd = 1 ∨ kd = 2 ∨ kd = 3 ∨ kd = 4 ∨ kd = 5 ∨ kd = 6 ∨ kd = 7 ∨ kd = 8 := by omega
    clear hkd hkb hXb
    rcases hkk with rfl | rfl | rfl | rfl | rfl | rfl | rfl | rfl | rfl
    · -- the cell is put behind the graph; ⟨⟨0, 0, [], [], []⟩, none, 0, none, 0⟩: the cell, , .dead, .dead: what else is over, ⟨SlAt.nil, SlAt.nil⟩: its rows
      (first | refine wX ?_ | exact wZ)
      try refine Nd.mk ⟨Nat.le_refl 1, rfl, rfl⟩ ?_
      (conv => whnf)
      refine AppN.grow 1 (grC m) (cellC (⟨⟨0, 0, [], [], []⟩, none, 0, none, 0⟩ : CellP)) rfl rfl ⟨Nat.le_refl 1, ⟨by show (m.length + 1) * 80 ≤ _; omega, by omega⟩, by decide⟩ fun ob2 oc2 hoc2 _ => ?_
      (first | refine wX ?_ | exact wZ)
      have hm2 : m.length + 1 = (m ++ [(⟨⟨0, 0, [], [], []⟩, none, 0, none, 0⟩ : CellP)]).length := by simp
      have hg2 := grC_snoc m ⟨⟨0, 0, [], [], []⟩, none, 0, none, 0⟩
      refine ⟨⟨i + 1, some ob2, oc2, m ++ [⟨⟨0, 0, [], [], []⟩, none, 0, none, 0⟩]⟩, ⟨by omega, by rw [← hm2, hml], ?_, (fun h => by cases h), by rw [← hm2]; exact hoc2⟩, by show n - (i + 1) < n - i; omega, ?_, [.fact (fun w => SlAt a (L.length * 1) (iC L) w), .app 42 5 (grC m ++ cellC ⟨⟨0, 0, [], [], []⟩, none, 0, none, 0⟩) (some ⟨ob2, 0, none⟩) (m.length + 1) oc2, .fact (fun w => ∀ q ∈ m ++ [(⟨⟨0, 0, [], [], []⟩, none, 0, none, 0⟩ : CellP)], CellF q w), .dead, .dead], turnS ⟨.inr (.inl rfl), .inr (.inl rfl), .inr (.inr ⟨_, rfl, fun w hw q hq => ?_⟩), by repeat (first | exact trivial | refine ⟨.inl rfl, ?_⟩)⟩, ?_⟩
      · intro q hq
        rcases List.mem_append.1 hq with hq | hq
        · exact hmo q hq
        · rw [List.mem_singleton.1 hq]
          exact grw_plain n _ _ _ (by decide)
      · (repeat' (first | exact trivial | refine And.intro (by with_reducible rfl) ?_ | (with_reducible exact wkC_refl _) | (with_reducible exact wkCs_refl _) | refine And.intro ?_ ?_))
        all_goals first | rfl | exact av_int (by rw [wrap_i64 (by omega)]; omega) | (rw [hm2]; rfl)
      · rcases List.mem_append.1 hq with hq | hq
        · exact hw.2.1 q hq
        · rw [List.mem_singleton.1 hq]
          exact ⟨SlAt.nil, SlAt.nil⟩
      · show wkH _ [Ent.fact _, .app 42 5 (grC (m ++ [_])) _ (m ++ [_]).length _, _]
        rw [← hm2, hg2]
        exact ⟨wkE_refl _, wkE_refl _, wkE_refl _, trivial⟩
    · -- the cell is put behind the graph; ⟨⟨1, 0, [], [], []⟩, none, 0, none, 0⟩: the cell, , .dead, .dead: what else is over, ⟨SlAt.nil, SlAt.nil⟩: its rows
      (first | refine wX ?_ | exact wZ)
      try refine Nd.mk ⟨Nat.le_refl 1, rfl, rfl⟩ ?_
      (conv => whnf)
      refine AppN.grow 1 (grC m) (cellC (⟨⟨1, 0, [], [], []⟩, none, 0, none, 0⟩ : CellP)) rfl rfl ⟨Nat.le_refl 1, ⟨by show (m.length + 1) * 80 ≤ _; omega, by omega⟩, by decide⟩ fun ob2 oc2 hoc2 _ => ?_
      (first | refine wX ?_ | exact wZ)
      have hm2 : m.length + 1 = (m ++ [(⟨⟨1, 0, [], [], []⟩, none, 0, none, 0⟩ : CellP)]).length := by simp
      have hg2 := grC_snoc m ⟨⟨1, 0, [], [], []⟩, none, 0, none, 0⟩
      refine ⟨⟨i + 1, some ob2, oc2, m ++ [⟨⟨1, 0, [], [], []⟩, none, 0, none, 0⟩]⟩, ⟨by omega, by rw [← hm2, hml], ?_, (fun h => by cases h), by rw [← hm2]; exact hoc2⟩, by show n - (i + 1) < n - i; omega, ?_, [.fact (fun w => SlAt a (L.length * 1) (iC L) w), .app 42 5 (grC m ++ cellC ⟨⟨1, 0, [], [], []⟩, none, 0, none, 0⟩) (some ⟨ob2, 0, none⟩) (m.length + 1) oc2, .fact (fun w => ∀ q ∈ m ++ [(⟨⟨1, 0, [], [], []⟩, none, 0, none, 0⟩ : CellP)], CellF q w), .dead, .dead], turnS ⟨.inr (.inl rfl), .inr (.inl rfl), .inr (.inr ⟨_, rfl, fun w hw q hq => ?_⟩), by repeat (first | exact trivial | refine ⟨.inl rfl, ?_⟩)⟩, ?_⟩
      · intro q hq
        rcases List.mem_append.1 hq with hq | hq
        · exact hmo q hq
        · rw [List.mem_singleton.1 hq]
          exact grw_plain n _ _ _ (by decide)
      · (repeat' (first | exact trivial | refine And.intro (by with_reducible rfl) ?_ | (with_reducible exact wkC_refl _) | (with_reducible exact wkCs_refl _) | refine And.intro ?_ ?_))
        all_goals first | rfl | exact av_int (by rw [wrap_i64 (by omega)]; omega) | (rw [hm2]; rfl)
      · rcases List.mem_append.1 hq with hq | hq
        · exact hw.2.1 q hq
        · rw [List.mem_singleton.1 hq]
          exact ⟨SlAt.nil, SlAt.nil⟩
      · show wkH _ [Ent.fact _, .app 42 5 (grC (m ++ [_])) _ (m ++ [_]).length _, _]
        rw [← hm2, hg2]
        exact ⟨wkE_refl _, wkE_refl _, wkE_refl _, trivial⟩
    · -- the cell is put behind the graph; ⟨⟨2, 0, [], [], []⟩, none, 0, none, 0⟩: the cell, , .dead, .dead: what else is over, ⟨SlAt.nil, SlAt.nil⟩: its rows
      (first | refine wX ?_ | exact wZ)
      try refine Nd.mk ⟨Nat.le_refl 1, rfl, rfl⟩ ?_
      (conv => whnf)
      refine AppN.grow 1 (grC m) (cellC (⟨⟨2, 0, [], [], []⟩, none, 0, none, 0⟩ : CellP)) rfl rfl ⟨Nat.le_refl 1, ⟨by show (m.length + 1) * 80 ≤ _; omega, by omega⟩, by decide⟩ fun ob2 oc2 hoc2 _ => ?_
      (first | refine wX ?_ | exact wZ)
      have hm2 : m.length + 1 = (m ++ [(⟨⟨2, 0, [], [], []⟩, none, 0, none, 0⟩ : CellP)]).length := by simp
      have hg2 := grC_snoc m ⟨⟨2, 0, [], [], []⟩, none, 0, none, 0⟩
      refine ⟨⟨i + 1, some ob2, oc2, m ++ [⟨⟨2, 0, [], [], []⟩, none, 0, none, 0⟩]⟩, ⟨by omega, by rw [← hm2, hml], ?_, (fun h => by cases h), by rw [← hm2]; exact hoc2⟩, by show n - (i + 1) < n - i; omega, ?_, [.fact (fun w => SlAt a (L.length * 1) (iC L) w), .app 42 5 (grC m ++ cellC ⟨⟨2, 0, [], [], []⟩, none, 0, none, 0⟩) (some ⟨ob2, 0, none⟩) (m.length + 1) oc2, .fact (fun w => ∀ q ∈ m ++ [(⟨⟨2, 0, [], [], []⟩, none, 0, none, 0⟩ : CellP)], CellF q w), .dead, .dead], turnS ⟨.inr (.inl rfl), .inr (.inl rfl), .inr (.inr ⟨_, rfl, fun w hw q hq => ?_⟩), by repeat (first | exact trivial | refine ⟨.inl rfl, ?_⟩)⟩, ?_⟩
      · intro q hq
        rcases List.mem_append.1 hq with hq | hq
        · exact hmo q hq
        · rw [List.mem_singleton.1 hq]
          exact grw_plain n _ _ _ (by decide)
      · (repeat' (first | exact trivial | refine And.intro (by with_reducible rfl) ?_ | (with_reducible exact wkC_refl _) | (with_reducible exact wkCs_refl _) | refine And.intro ?_ ?_))
        all_goals first | rfl | exact av_int (by rw [wrap_i64 (by omega)]; omega) | (rw [hm2]; rfl)
      · rcases List.mem_append.1 hq with hq | hq
        · exact hw.2.1 q hq
        · rw [List.mem_singleton.1 hq]
          exact ⟨SlAt.nil, SlAt.nil⟩
      · show wkH _ [Ent.fact _, .app 42 5 (grC (m ++ [_])) _ (m ++ [_]).length _, _]
        rw [← hm2, hg2]
        exact ⟨wkE_refl _, wkE_refl _, wkE_refl _, trivial⟩
    · (first | refine wX ?_ | exact wZ)
      generalize IntKind.i64.wrap (IntKind.i64.wrap (x.tmod 5) - 2) = nu at *
      -- the cell is put behind the graph; ⟨⟨3, nu, [], [], []⟩, none, 0, none, 0⟩: the cell, , .dead, .dead: what else is over, ⟨SlAt.nil, SlAt.nil⟩: its rows
      (first | refine wX ?_ | exact wZ)
      try refine Nd.mk ⟨Nat.le_refl 1, rfl, rfl⟩ ?_
      (conv => whnf)
      refine AppN.grow 1 (grC m) (cellC (⟨⟨3, nu, [], [], []⟩, none, 0, none, 0⟩ : CellP)) rfl rfl ⟨Nat.le_refl 1, ⟨by show (m.length + 1) * 80 ≤ _; omega, by omega⟩, by decide⟩ fun ob2 oc2 hoc2 _ => ?_
      (first | refine wX ?_ | exact wZ)
      have hm2 : m.length + 1 = (m ++ [(⟨⟨3, nu, [], [], []⟩, none, 0, none, 0⟩ : CellP)]).length := by simp
      have hg2 := grC_snoc m ⟨⟨3, nu, [], [], []⟩, none, 0, none, 0⟩
      refine ⟨⟨i + 1, some ob2, oc2, m ++ [⟨⟨3, nu, [], [], []⟩, none, 0, none, 0⟩]⟩, ⟨by omega, by rw [← hm2, hml], ?_, (fun h => by cases h), by rw [← hm2]; exact hoc2⟩, by show n - (i + 1) < n - i; omega, ?_, [.fact (fun w => SlAt a (L.length * 1) (iC L) w), .app 42 5 (grC m ++ cellC ⟨⟨3, nu, [], [], []⟩, none, 0, none, 0⟩) (some ⟨ob2, 0, none⟩) (m.length + 1) oc2, .fact (fun w => ∀ q ∈ m ++ [(⟨⟨3, nu, [], [], []⟩, none, 0, none, 0⟩ : CellP)], CellF q w), .dead, .dead], turnS ⟨.inr (.inl rfl), .inr (.inl rfl), .inr (.inr ⟨_, rfl, fun w hw q hq => ?_⟩), by repeat (first | exact trivial | refine ⟨.inl rfl, ?_⟩)⟩, ?_⟩
      · intro q hq
        rcases List.mem_append.1 hq with hq | hq
        · exact hmo q hq
        · rw [List.mem_singleton.1 hq]
          exact grw_plain n _ _ _ (by decide)
      · (repeat' (first | exact trivial | refine And.intro (by with_reducible rfl) ?_ | (with_reducible exact wkC_refl _) | (with_reducible exact wkCs_refl _) | refine And.intro ?_ ?_))
        all_goals first | rfl | exact av_int (by rw [wrap_i64 (by omega)]; omega) | (rw [hm2]; rfl)
      · rcases List.mem_append.1 hq with hq | hq
        · exact hw.2.1 q hq
        · rw [List.mem_singleton.1 hq]
          exact ⟨SlAt.nil, SlAt.nil⟩
      · show wkH _ [Ent.fact _, .app 42 5 (grC (m ++ [_])) _ (m ++ [_]).length _, _]
        rw [← hm2, hg2]
        exact ⟨wkE_refl _, wkE_refl _, wkE_refl _, trivial⟩
    · (first | refine wX ?_ | exact wZ)
      rw [show x.tmod 4 = x % 4 by rw [Int.tmod_eq_emod_of_nonneg (by omega)]]
      have hj : x % 4 = 0 ∨ x % 4 = 1 ∨ x % 4 = 2 ∨ x % 4 = 3 := by omega
      rcases hj with e | e | e | e <;> rw [e]
      · -- the cell is put behind the graph; ⟨⟨4, 0, [97], [], []⟩, none, 0, none, 0⟩: the cell, , .dead, .dead, .dead: what else is over, ⟨SlAt.nil, SlAt.nil⟩: its rows
        (first | refine wX ?_ | exact wZ)
        try refine Nd.mk ⟨Nat.le_refl 1, rfl, rfl⟩ ?_
        (conv => whnf)
        refine AppN.grow 1 (grC m) (cellC (⟨⟨4, 0, [97], [], []⟩, none, 0, none, 0⟩ : CellP)) rfl rfl ⟨Nat.le_refl 1, ⟨by show (m.length + 1) * 80 ≤ _; omega, by omega⟩, by decide⟩ fun ob2 oc2 hoc2 _ => ?_
        (first | refine wX ?_ | exact wZ)
        have hm2 : m.length + 1 = (m ++ [(⟨⟨4, 0, [97], [], []⟩, none, 0, none, 0⟩ : CellP)]).length := by simp
        have hg2 := grC_snoc m ⟨⟨4, 0, [97], [], []⟩, none, 0, none, 0⟩
        refine ⟨⟨i + 1, some ob2, oc2, m ++ [⟨⟨4, 0, [97], [], []⟩, none, 0, none, 0⟩]⟩, ⟨by omega, by rw [← hm2, hml], ?_, (fun h => by cases h), by rw [← hm2]; exact hoc2⟩, by show n - (i + 1) < n - i; omega, ?_, [.fact (fun w => SlAt a (L.length * 1) (iC L) w), .app 42 5 (grC m ++ cellC ⟨⟨4, 0, [97], [], []⟩, none, 0, none, 0⟩) (some ⟨ob2, 0, none⟩) (m.length + 1) oc2, .fact (fun w => ∀ q ∈ m ++ [(⟨⟨4, 0, [97], [], []⟩, none, 0, none, 0⟩ : CellP)], CellF q w), .dead, .dead, .dead], turnS ⟨.inr (.inl rfl), .inr (.inl rfl), .inr (.inr ⟨_, rfl, fun w hw q hq => ?_⟩), by repeat (first | exact trivial | refine ⟨.inl rfl, ?_⟩)⟩, ?_⟩
        · intro q hq
          rcases List.mem_append.1 hq with hq | hq
          · exact hmo q hq
          · rw [List.mem_singleton.1 hq]
            exact grw_plain n _ _ _ (by decide)
        · (repeat' (first | exact trivial | refine And.intro (by with_reducible rfl) ?_ | (with_reducible exact wkC_refl _) | (with_reducible exact wkCs_refl _) | refine And.intro ?_ ?_))
          all_goals first | rfl | exact av_int (by rw [wrap_i64 (by omega)]; omega) | (rw [hm2]; rfl)
        · rcases List.mem_append.1 hq with hq | hq
          · exact hw.2.1 q hq
          · rw [List.mem_singleton.1 hq]
            exact ⟨SlAt.nil, SlAt.nil⟩
        · show wkH _ [Ent.fact _, .app 42 5 (grC (m ++ [_])) _ (m ++ [_]).length _, _]
          rw [← hm2, hg2]
          exact ⟨wkE_refl _, wkE_refl _, wkE_refl _, trivial⟩
      · -- the cell is put behind the graph; ⟨⟨4, 0, [98], [], []⟩, none, 0, none, 0⟩: the cell, , .dead, .dead, .dead: what else is over, ⟨SlAt.nil, SlAt.nil⟩: its rows
        (first | refine wX ?_ | exact wZ)
        try refine Nd.mk ⟨Nat.le_refl 1, rfl, rfl⟩ ?_
        (conv => whnf)
        refine AppN.grow 1 (grC m) (cellC (⟨⟨4, 0, [98], [], []⟩, none, 0, none, 0⟩ : CellP)) rfl rfl ⟨Nat.le_refl 1, ⟨by show (m.length + 1) * 80 ≤ _; omega, by omega⟩, by decide⟩ fun ob2 oc2 hoc2 _ => ?_
        (first | refine wX ?_ | exact wZ)
        have hm2 : m.length + 1 = (m ++ [(⟨⟨4, 0, [98], [], []⟩, none, 0, none, 0⟩ : CellP)]).length := by simp
        have hg2 := grC_snoc m ⟨⟨4, 0, [98], [], []⟩, none, 0, none, 0⟩
        refine ⟨⟨i + 1, some ob2, oc2, m ++ [⟨⟨4, 0, [98], [], []⟩, none, 0, none, 0⟩]⟩, ⟨by omega, by rw [← hm2, hml], ?_, (fun h => by cases h), by rw [← hm2]; exact hoc2⟩, by show n - (i + 1) < n - i; omega, ?_, [.fact (fun w => SlAt a (L.length * 1) (iC L) w), .app 42 5 (grC m ++ cellC ⟨⟨4, 0, [98], [], []⟩, none, 0, none, 0⟩) (some ⟨ob2, 0, none⟩) (m.length + 1) oc2, .fact (fun w => ∀ q ∈ m ++ [(⟨⟨4, 0, [98], [], []⟩, none, 0, none, 0⟩ : CellP)], CellF q w), .dead, .dead, .dead], turnS ⟨.inr (.inl rfl), .inr (.inl rfl), .inr (.inr ⟨_, rfl, fun w hw q hq => ?_⟩), by repeat (first | exact trivial | refine ⟨.inl rfl, ?_⟩)⟩, ?_⟩
        · intro q hq
          rcases List.mem_append.1 hq with hq | hq
          · exact hmo q hq
          · rw [List.mem_singleton.1 hq]
            exact grw_plain n _ _ _ (by decide)
        · (repeat' (first | exact trivial | refine And.intro (by with_reducible rfl) ?_ | (with_reducible exact wkC_refl _) | (with_reducible exact wkCs_refl _) | refine And.intro ?_ ?_))
          all_goals first | rfl | exact av_int (by rw [wrap_i64 (by omega)]; omega) | (rw [hm2]; rfl)
        · rcases List.mem_append.1 hq with hq | hq
          · exact hw.2.1 q hq
          · rw [List.mem_singleton.1 hq]
            exact ⟨SlAt.nil, SlAt.nil⟩
        · show wkH _ [Ent.fact _, .app 42 5 (grC (m ++ [_])) _ (m ++ [_]).length _, _]
          rw [← hm2, hg2]
          exact ⟨wkE_refl _, wkE_refl _, wkE_refl _, trivial⟩
      · -- the cell is put behind the graph; ⟨⟨4, 0, [35], [], []⟩, none, 0, none, 0⟩: the cell, , .dead, .dead, .dead: what else is over, ⟨SlAt.nil, SlAt.nil⟩: its rows
        (first | refine wX ?_ | exact wZ)
        try refine Nd.mk ⟨Nat.le_refl 1, rfl, rfl⟩ ?_
        (conv => whnf)
        refine AppN.grow 1 (grC m) (cellC (⟨⟨4, 0, [35], [], []⟩, none, 0, none, 0⟩ : CellP)) rfl rfl ⟨Nat.le_refl 1, ⟨by show (m.length + 1) * 80 ≤ _; omega, by omega⟩, by decide⟩ fun ob2 oc2 hoc2 _ => ?_
        (first | refine wX ?_ | exact wZ)
        have hm2 : m.length + 1 = (m ++ [(⟨⟨4, 0, [35], [], []⟩, none, 0, none, 0⟩ : CellP)]).length := by simp
        have hg2 := grC_snoc m ⟨⟨4, 0, [35], [], []⟩, none, 0, none, 0⟩
        refine ⟨⟨i + 1, some ob2, oc2, m ++ [⟨⟨4, 0, [35], [], []⟩, none, 0, none, 0⟩]⟩, ⟨by omega, by rw [← hm2, hml], ?_, (fun h => by cases h), by rw [← hm2]; exact hoc2⟩, by show n - (i + 1) < n - i; omega, ?_, [.fact (fun w => SlAt a (L.length * 1) (iC L) w), .app 42 5 (grC m ++ cellC ⟨⟨4, 0, [35], [], []⟩, none, 0, none, 0⟩) (some ⟨ob2, 0, none⟩) (m.length + 1) oc2, .fact (fun w => ∀ q ∈ m ++ [(⟨⟨4, 0, [35], [], []⟩, none, 0, none, 0⟩ : CellP)], CellF q w), .dead, .dead, .dead], turnS ⟨.inr (.inl rfl), .inr (.inl rfl), .inr (.inr ⟨_, rfl, fun w hw q hq => ?_⟩), by repeat (first | exact trivial | refine ⟨.inl rfl, ?_⟩)⟩, ?_⟩
        · intro q hq
          rcases List.mem_append.1 hq with hq | hq
          · exact hmo q hq
          · rw [List.mem_singleton.1 hq]
            exact grw_plain n _ _ _ (by decide)
        · (repeat' (first | exact trivial | refine And.intro (by with_reducible rfl) ?_ | (with_reducible exact wkC_refl _) | (with_reducible exact wkCs_refl _) | refine And.intro ?_ ?_))
          all_goals first | rfl | exact av_int (by rw [wrap_i64 (by omega)]; omega) | (rw [hm2]; rfl)
        · rcases List.mem_append.1 hq with hq | hq
          · exact hw.2.1 q hq
          · rw [List.mem_singleton.1 hq]
            exact ⟨SlAt.nil, SlAt.nil⟩
        · show wkH _ [Ent.fact _, .app 42 5 (grC (m ++ [_])) _ (m ++ [_]).length _, _]
          rw [← hm2, hg2]
          exact ⟨wkE_refl _, wkE_refl _, wkE_refl _, trivial⟩
      · -- the cell is put behind the graph; ⟨⟨4, 0, [97, 97], [], []⟩, none, 0, none, 0⟩: the cell, , .dead, .dead, .dead: what else is over, ⟨SlAt.nil, SlAt.nil⟩: its rows
        (first | refine wX ?_ | exact wZ)
        try refine Nd.mk ⟨Nat.le_refl 1, rfl, rfl⟩ ?_
        (conv => whnf)
        refine AppN.grow 1 (grC m) (cellC (⟨⟨4, 0, [97, 97], [], []⟩, none, 0, none, 0⟩ : CellP)) rfl rfl ⟨Nat.le_refl 1, ⟨by show (m.length + 1) * 80 ≤ _; omega, by omega⟩, by decide⟩ fun ob2 oc2 hoc2 _ => ?_
        (first | refine wX ?_ | exact wZ)
        have hm2 : m.length + 1 = (m ++ [(⟨⟨4, 0, [97, 97], [], []⟩, none, 0, none, 0⟩ : CellP)]).length := by simp
        have hg2 := grC_snoc m ⟨⟨4, 0, [97, 97], [], []⟩, none, 0, none, 0⟩
        refine ⟨⟨i + 1, some ob2, oc2, m ++ [⟨⟨4, 0, [97, 97], [], []⟩, none, 0, none, 0⟩]⟩, ⟨by omega, by rw [← hm2, hml], ?_, (fun h => by cases h), by rw [← hm2]; exact hoc2⟩, by show n - (i + 1) < n - i; omega, ?_, [.fact (fun w => SlAt a (L.length * 1) (iC L) w), .app 42 5 (grC m ++ cellC ⟨⟨4, 0, [97, 97], [], []⟩, none, 0, none, 0⟩) (some ⟨ob2, 0, none⟩) (m.length + 1) oc2, .fact (fun w => ∀ q ∈ m ++ [(⟨⟨4, 0, [97, 97], [], []⟩, none, 0, none, 0⟩ : CellP)], CellF q w), .dead, .dead, .dead], turnS ⟨.inr (.inl rfl), .inr (.inl rfl), .inr (.inr ⟨_, rfl, fun w hw q hq => ?_⟩), by repeat (first | exact trivial | refine ⟨.inl rfl, ?_⟩)⟩, ?_⟩
        · intro q hq
          rcases List.mem_append.1 hq with hq | hq
          · exact hmo q hq
          · rw [List.mem_singleton.1 hq]
            exact grw_plain n _ _ _ (by decide)
        · (repeat' (first | exact trivial | refine And.intro (by with_reducible rfl) ?_ | (with_reducible exact wkC_refl _) | (with_reducible exact wkCs_refl _) | refine And.intro ?_ ?_))
          all_goals first | rfl | exact av_int (by rw [wrap_i64 (by omega)]; omega) | (rw [hm2]; rfl)
        · rcases List.mem_append.1 hq with hq | hq
          · exact hw.2.1 q hq
          · rw [List.mem_singleton.1 hq]
            exact ⟨SlAt.nil, SlAt.nil⟩
        · show wkH _ [Ent.fact _, .app 42 5 (grC (m ++ [_])) _ (m ++ [_]).length _, _]
          rw [← hm2, hg2]
          exact ⟨wkE_refl _, wkE_refl _, wkE_refl _, trivial⟩
    · (first | refine wX ?_ | exact wZ)
      rw [show x.tmod 4 = x % 4 by rw [Int.tmod_eq_emod_of_nonneg (by omega)]]
      have hj : x % 4 = 0 ∨ x % 4 = 1 ∨ x % 4 = 2 ∨ x % 4 = 3 := by omega
      rcases hj with e | e | e | e <;> rw [e]
      · -- the cell is put behind the graph; ⟨⟨5, 0, [97], [], []⟩, none, 0, none, 0⟩: the cell, , .dead, .dead, .dead: what else is over, ⟨SlAt.nil, SlAt.nil⟩: its rows
        (first | refine wX ?_ | exact wZ)
        try refine Nd.mk ⟨Nat.le_refl 1, rfl, rfl⟩ ?_
        (conv => whnf)
        refine AppN.grow 1 (grC m) (cellC (⟨⟨5, 0, [97], [], []⟩, none, 0, none, 0⟩ : CellP)) rfl rfl ⟨Nat.le_refl 1, ⟨by show (m.length + 1) * 80 ≤ _; omega, by omega⟩, by decide⟩ fun ob2 oc2 hoc2 _ => ?_
        (first | refine wX ?_ | exact wZ)
        have hm2 : m.length + 1 = (m ++ [(⟨⟨5, 0, [97], [], []⟩, none, 0, none, 0⟩ : CellP)]).length := by simp
        have hg2 := grC_snoc m ⟨⟨5, 0, [97], [], []⟩, none, 0, none, 0⟩
        refine ⟨⟨i + 1, some ob2, oc2, m ++ [⟨⟨5, 0, [97], [], []⟩, none, 0, none, 0⟩]⟩, ⟨by omega, by rw [← hm2, hml], ?_, (fun h => by cases h), by rw [← hm2]; exact hoc2⟩, by show n - (i + 1) < n - i; omega, ?_, [.fact (fun w => SlAt a (L.length * 1) (iC L) w), .app 42 5 (grC m ++ cellC ⟨⟨5, 0, [97], [], []⟩, none, 0, none, 0⟩) (some ⟨ob2, 0, none⟩) (m.length + 1) oc2, .fact (fun w => ∀ q ∈ m ++ [(⟨⟨5, 0, [97], [], []⟩, none, 0, none, 0⟩ : CellP)], CellF q w), .dead, .dead, .dead], turnS ⟨.inr (.inl rfl), .inr (.inl rfl), .inr (.inr ⟨_, rfl, fun w hw q hq => ?_⟩), by repeat (first | exact trivial | refine ⟨.inl rfl, ?_⟩)⟩, ?_⟩
        · intro q hq
          rcases List.mem_append.1 hq with hq | hq
          · exact hmo q hq
          · rw [List.mem_singleton.1 hq]
            exact grw_plain n _ _ _ (by decide)
        · (repeat' (first | exact trivial | refine And.intro (by with_reducible rfl) ?_ | (with_reducible exact wkC_refl _) | (with_reducible exact wkCs_refl _) | refine And.intro ?_ ?_))
          all_goals first | rfl | exact av_int (by rw [wrap_i64 (by omega)]; omega) | (rw [hm2]; rfl)
        · rcases List.mem_append.1 hq with hq | hq
          · exact hw.2.1 q hq
          · rw [List.mem_singleton.1 hq]
            exact ⟨SlAt.nil, SlAt.nil⟩
        · show wkH _ [Ent.fact _, .app 42 5 (grC (m ++ [_])) _ (m ++ [_]).length _, _]
          rw [← hm2, hg2]
          exact ⟨wkE_refl _, wkE_refl _, wkE_refl _, trivial⟩
      · -- the cell is put behind the graph; ⟨⟨5, 0, [98], [], []⟩, none, 0, none, 0⟩: the cell, , .dead, .dead, .dead: what else is over, ⟨SlAt.nil, SlAt.nil⟩: its rows
        (first | refine wX ?_ | exact wZ)
        try refine Nd.mk ⟨Nat.le_refl 1, rfl, rfl⟩ ?_
        (conv => whnf)
        refine AppN.grow 1 (grC m) (cellC (⟨⟨5, 0, [98], [], []⟩, none, 0, none, 0⟩ : CellP)) rfl rfl ⟨Nat.le_refl 1, ⟨by show (m.length + 1) * 80 ≤ _; omega, by omega⟩, by decide⟩ fun ob2 oc2 hoc2 _ => ?_
        (first | refine wX ?_ | exact wZ)
        have hm2 : m.length + 1 = (m ++ [(⟨⟨5, 0, [98], [], []⟩, none, 0, none, 0⟩ : CellP)]).length := by simp
        have hg2 := grC_snoc m ⟨⟨5, 0, [98], [], []⟩, none, 0, none, 0⟩
        refine ⟨⟨i + 1, some ob2, oc2, m ++ [⟨⟨5, 0, [98], [], []⟩, none, 0, none, 0⟩]⟩, ⟨by omega, by rw [← hm2, hml], ?_, (fun h => by cases h), by rw [← hm2]; exact hoc2⟩, by show n - (i + 1) < n - i; omega, ?_, [.fact (fun w => SlAt a (L.length * 1) (iC L) w), .app 42 5 (grC m ++ cellC ⟨⟨5, 0, [98], [], []⟩, none, 0, none, 0⟩) (some ⟨ob2, 0, none⟩) (m.length + 1) oc2, .fact (fun w => ∀ q ∈ m ++ [(⟨⟨5, 0, [98], [], []⟩, none, 0, none, 0⟩ : CellP)], CellF q w), .dead, .dead, .dead], turnS ⟨.inr (.inl rfl), .inr (.inl rfl), .inr (.inr ⟨_, rfl, fun w hw q hq => ?_⟩), by repeat (first | exact trivial | refine ⟨.inl rfl, ?_⟩)⟩, ?_⟩
        · intro q hq
          rcases List.mem_append.1 hq with hq | hq
          · exact hmo q hq
          · rw [List.mem_singleton.1 hq]
            exact grw_plain n _ _ _ (by decide)
        · (repeat' (first | exact trivial | refine And.intro (by with_reducible rfl) ?_ | (with_reducible exact wkC_refl _) | (with_reducible exact wkCs_refl _) | refine And.intro ?_ ?_))
          all_goals first | rfl | exact av_int (by rw [wrap_i64 (by omega)]; omega) | (rw [hm2]; rfl)
        · rcases List.mem_append.1 hq with hq | hq
          · exact hw.2.1 q hq
          · rw [List.mem_singleton.1 hq]
            exact ⟨SlAt.nil, SlAt.nil⟩
        · show wkH _ [Ent.fact _, .app 42 5 (grC (m ++ [_])) _ (m ++ [_]).length _, _]
          rw [← hm2, hg2]
          exact ⟨wkE_refl _, wkE_refl _, wkE_refl _, trivial⟩
      · -- the cell is put behind the graph; ⟨⟨5, 0, [35], [], []⟩, none, 0, none, 0⟩: the cell, , .dead, .dead, .dead: what else is over, ⟨SlAt.nil, SlAt.nil⟩: its rows
        (first | refine wX ?_ | exact wZ)
        try refine Nd.mk ⟨Nat.le_refl 1, rfl, rfl⟩ ?_
        (conv => whnf)
        refine AppN.grow 1 (grC m) (cellC (⟨⟨5, 0, [35], [], []⟩, none, 0, none, 0⟩ : CellP)) rfl rfl ⟨Nat.le_refl 1, ⟨by show (m.length + 1) * 80 ≤ _; omega, by omega⟩, by decide⟩ fun ob2 oc2 hoc2 _ => ?_
        (first | refine wX ?_ | exact wZ)
        have hm2 : m.length + 1 = (m ++ [(⟨⟨5, 0, [35], [], []⟩, none, 0, none, 0⟩ : CellP)]).length := by simp
        have hg2 := grC_snoc m ⟨⟨5, 0, [35], [], []⟩, none, 0, none, 0⟩
        refine ⟨⟨i + 1, some ob2, oc2, m ++ [⟨⟨5, 0, [35], [], []⟩, none, 0, none, 0⟩]⟩, ⟨by omega, by rw [← hm2, hml], ?_, (fun h => by cases h), by rw [← hm2]; exact hoc2⟩, by show n - (i + 1) < n - i; omega, ?_, [.fact (fun w => SlAt a (L.length * 1) (iC L) w), .app 42 5 (grC m ++ cellC ⟨⟨5, 0, [35], [], []⟩, none, 0, none, 0⟩) (some ⟨ob2, 0, none⟩) (m.length + 1) oc2, .fact (fun w => ∀ q ∈ m ++ [(⟨⟨5, 0, [35], [], []⟩, none, 0, none, 0⟩ : CellP)], CellF q w), .dead, .dead, .dead], turnS ⟨.inr (.inl rfl), .inr (.inl rfl), .inr (.inr ⟨_, rfl, fun w hw q hq => ?_⟩), by repeat (first | exact trivial | refine ⟨.inl rfl, ?_⟩)⟩, ?_⟩
        · intro q hq
          rcases List.mem_append.1 hq with hq | hq
          · exact hmo q hq
          · rw [List.mem_singleton.1 hq]
            exact grw_plain n _ _ _ (by decide)
        · (repeat' (first | exact trivial | refine And.intro (by with_reducible rfl) ?_ | (with_reducible exact wkC_refl _) | (with_reducible exact wkCs_refl _) | refine And.intro ?_ ?_))
          all_goals first | rfl | exact av_int (by rw [wrap_i64 (by omega)]; omega) | (rw [hm2]; rfl)
        · rcases List.mem_append.1 hq with hq | hq
          · exact hw.2.1 q hq
          · rw [List.mem_singleton.1 hq]
            exact ⟨SlAt.nil, SlAt.nil⟩
        · show wkH _ [Ent.fact _, .app 42 5 (grC (m ++ [_])) _ (m ++ [_]).length _, _]
          rw [← hm2, hg2]
          exact ⟨wkE_refl _, wkE_refl _, wkE_refl _, trivial⟩
      · -- the cell is put behind the graph; ⟨⟨5, 0, [97, 97], [], []⟩, none, 0, none, 0⟩: the cell, , .dead, .dead, .dead: what else is over, ⟨SlAt.nil, SlAt.nil⟩: its rows
        (first | refine wX ?_ | exact wZ)
        try refine Nd.mk ⟨Nat.le_refl 1, rfl, rfl⟩ ?_
        (conv => whnf)
        refine AppN.grow 1 (grC m) (cellC (⟨⟨5, 0, [97, 97], [], []⟩, none, 0, none, 0⟩ : CellP)) rfl rfl ⟨Nat.le_refl 1, ⟨by show (m.length + 1) * 80 ≤ _; omega, by omega⟩, by decide⟩ fun ob2 oc2 hoc2 _ => ?_
        (first | refine wX ?_ | exact wZ)
        have hm2 : m.length + 1 = (m ++ [(⟨⟨5, 0, [97, 97], [], []⟩, none, 0, none, 0⟩ : CellP)]).length := by simp
        have hg2 := grC_snoc m ⟨⟨5, 0, [97, 97], [], []⟩, none, 0, none, 0⟩
        refine ⟨⟨i + 1, some ob2, oc2, m ++ [⟨⟨5, 0, [97, 97], [], []⟩, none, 0, none, 0⟩]⟩, ⟨by omega, by rw [← hm2, hml], ?_, (fun h => by cases h), by rw [← hm2]; exact hoc2⟩, by show n - (i + 1) < n - i; omega, ?_, [.fact (fun w => SlAt a (L.length * 1) (iC L) w), .app 42 5 (grC m ++ cellC ⟨⟨5, 0, [97, 97], [], []⟩, none, 0, none, 0⟩) (some ⟨ob2, 0, none⟩) (m.length + 1) oc2, .fact (fun w => ∀ q ∈ m ++ [(⟨⟨5, 0, [97, 97], [], []⟩, none, 0, none, 0⟩ : CellP)], CellF q w), .dead, .dead, .dead], turnS ⟨.inr (.inl rfl), .inr (.inl rfl), .inr (.inr ⟨_, rfl, fun w hw q hq => ?_⟩), by repeat (first | exact trivial | refine ⟨.inl rfl, ?_⟩)⟩, ?_⟩
        · intro q hq
          rcases List.mem_append.1 hq with hq | hq
          · exact hmo q hq
          · rw [List.mem_singleton.1 hq]
            exact grw_plain n _ _ _ (by decide)
        · (repeat' (first | exact trivial | refine And.intro (by with_reducible rfl) ?_ | (with_reducible exact wkC_refl _) | (with_reducible exact wkCs_refl _) | refine And.intro ?_ ?_))
          all_goals first | rfl | exact av_int (by rw [wrap_i64 (by omega)]; omega) | (rw [hm2]; rfl)
        · rcases List.mem_append.1 hq with hq | hq
          · exact hw.2.1 q hq
          · rw [List.mem_singleton.1 hq]
            exact ⟨SlAt.nil, SlAt.nil⟩
        · show wkH _ [Ent.fact _, .app 42 5 (grC (m ++ [_])) _ (m ++ [_]).length _, _]
          rw [← hm2, hg2]
          exact ⟨wkE_refl _, wkE_refl _, wkE_refl _, trivial⟩
    · (first | refine wX ?_ | exact wZ)
      have hc4 : IntKind.i64.wrap (x.tmod 4) = x % 4 := by rw [Int.tmod_eq_emod_of_nonneg (by omega)]; exact wrap_i64 (by omega)
      refine LoopN.intro (Nat × List Int × BSt) (fun ⟨k, its, o⟩ => k ≤ 3 ∧ its.length = k ∧ (∀ y ∈ its, 0 ≤ y) ∧ o.ok its.length)
        (fun ⟨k, its, o⟩ => mkS Tryz.f22.ntmps 0 [(0, .c (.v (.slice a L.length ca))), (3, .c (.v (.int .i64 (n : Int)))), (4, .c (.v (.slice (at0 ob) m.length oc))), (5, .c (.v (.int .i64 (i : Int)))), (6, .c (.v (.int .u64 x))), (7, .c (.lp 3 0)), (8, .c (.v (.int .i64 (k : Int))))])
        (fun ⟨k, its, o⟩ => [.fact (fun w => SlAt a (L.length * 1) (iC L) w), .app 42 5 (grC m) (at0 ob) m.length oc, .fact (fun w => ∀ p ∈ m, CellF p w), .blk 42 (vs (cellC ⟨⟨6, 0, [], [], its⟩, none, 0, at0 o.ob, o.cap⟩)), .app 3 1 (iC its) (at0 o.ob) its.length o.cap]) (fun ⟨k, _, _⟩ => 4 - k) [.app 3 1 [] none 0 0] rfl (fun ⟨_, _, _⟩ => rfl) (fun ⟨_, _, _⟩ => rfl) (fun ⟨_, _, _⟩ _ => okHB_eq rfl) ?_ ?_
      · refine ⟨(0, [], ⟨none, 0⟩), ⟨Nat.zero_le _, rfl, (fun y h => by cases h), fun _ => ⟨rfl, rfl⟩, Nat.le_refl _, fun _ => rfl⟩, ?_, wkE_refl _, wkE_refl _, wkE_refl _, wkE_refl _, wkE_refl _, trivial⟩
        (repeat' (first | exact trivial | refine And.intro (by with_reducible rfl) ?_ | (with_reducible exact wkC_refl _) | (with_reducible exact wkCs_refl _) | refine And.intro ?_ ?_))
        all_goals rfl
      rintro ⟨k, its, ⟨ob0, ocap⟩⟩ ⟨hk, hil, hip, ho⟩
      (first | refine wX ?_ | exact wZ)
      refine brd_dec (fun h2 => ?_) (fun h2 => ?_)
      · rw [hc4] at h2
        ((conv => whnf); (repeat ((first | refine VrN.keep ?_ | refine BoxN.own ?_ | refine RwN.own ?_); (conv => whnf))))
        refine DrawN.plan [0, 2, 4, 9] [(1, 1), (3, 1), (5, 1), (6, 1), (7, 1), (8, 1), (10, 1), (11, 0)] [(12, 0), (13, 0), (14, 0)] (by decide +kernel) ?_
        (first | refine wX ?_ | exact wZ)
        have hit := grw_item x k 4 7 n hxb (by omega) (by decide) (by decide)
        simp only [Int.cast_ofNat_Int] at hit
        generalize (IntKind.i64.wrap (IntKind.u64.wrap (IntKind.u64.wrap (x.tdiv 4) + IntKind.u64.wrap (IntKind.u64.wrap (k : Int) * 7)))).tmod (n : Int) = it at *
        refine Nd.mk ⟨Nat.le_refl 1, rfl, rfl⟩ ?_
        (conv => whnf)
        refine AppN.grow 4 (iC its) [.int .i64 it] rfl rfl ⟨Nat.le_refl 1, ⟨by show (its.length + 1) * 8 ≤ _; omega, by show its.length + 1 < _; omega⟩, Nat.one_ne_zero⟩ fun wb wc hwc _ => ?_
        have hcl : iC its ++ [.int .i64 it] = iC (its ++ [it]) := by simp [iC]
        have hll : its.length + 1 = (its ++ [it]).length := by simp
        rw [hcl, hll]
        rw [hll] at hwc
        (first | refine wX ?_ | exact wZ)
        refine ⟨(k + 1, its ++ [it], ⟨some wb, wc⟩), ⟨by omega, by rw [← hll, hil], ?_, (fun h => by cases h), hwc, fun h => by have : wc = 0 := h; omega⟩, by show 4 - (k + 1) < 4 - k; omega, ?_, wkE_refl _, wkE_refl _, wkE_refl _, wkE_refl _, wkE_refl _, trivial⟩
        · intro y hy
          rcases List.mem_append.1 hy with hy | hy
          · exact hip y hy
          · rw [List.mem_singleton.1 hy]; exact hit
        (repeat' (first | exact trivial | refine And.intro (by with_reducible rfl) ?_ | (with_reducible exact wkC_refl _) | (with_reducible exact wkCs_refl _) | refine And.intro ?_ ?_))
        all_goals first | rfl | exact av_int (by rw [wrap_i64 (by omega)]; omega)
      · clear hc4
        have hna : at0 ob0 = none → its = [] := fun h => by
          cases ob0 with
          | none => exact List.eq_nil_of_length_eq_zero (ho.1 rfl).1
          | some b => cases h
        have hoc2' : its.length ≤ ocap := ho.2.1
        -- the cell is put behind the graph; ⟨⟨6, 0, [], [], its⟩, none, 0, at0 ob0, ocap⟩: the cell, , .dead, .dead, .dead: what else is over, ⟨SlAt.nil, hw.2.2.1⟩: its rows
        (first | refine wX ?_ | exact wZ)
        try refine Nd.mk ⟨Nat.le_refl 1, rfl, rfl⟩ ?_
        (conv => whnf)
        refine AppN.grow 1 (grC m) (cellC (⟨⟨6, 0, [], [], its⟩, none, 0, at0 ob0, ocap⟩ : CellP)) rfl rfl ⟨Nat.le_refl 1, ⟨by show (m.length + 1) * 80 ≤ _; omega, by omega⟩, by decide⟩ fun ob2 oc2 hoc2 _ => ?_
        (first | refine wX ?_ | exact wZ)
        have hm2 : m.length + 1 = (m ++ [(⟨⟨6, 0, [], [], its⟩, none, 0, at0 ob0, ocap⟩ : CellP)]).length := by simp
        have hg2 := grC_snoc m ⟨⟨6, 0, [], [], its⟩, none, 0, at0 ob0, ocap⟩
        refine ⟨⟨i + 1, some ob2, oc2, m ++ [⟨⟨6, 0, [], [], its⟩, none, 0, at0 ob0, ocap⟩]⟩, ⟨by omega, by rw [← hm2, hml], ?_, (fun h => by cases h), by rw [← hm2]; exact hoc2⟩, by show n - (i + 1) < n - i; omega, ?_, [.fact (fun w => SlAt a (L.length * 1) (iC L) w), .app 42 5 (grC m ++ cellC ⟨⟨6, 0, [], [], its⟩, none, 0, at0 ob0, ocap⟩) (some ⟨ob2, 0, none⟩) (m.length + 1) oc2, .fact (fun w => ∀ q ∈ m ++ [(⟨⟨6, 0, [], [], its⟩, none, 0, at0 ob0, ocap⟩ : CellP)], CellF q w), .dead, .dead, .dead], turnS ⟨.inr (.inl rfl), .inr (.inl rfl), .inr (.inr ⟨_, rfl, fun w hw q hq => ?_⟩), by repeat (first | exact trivial | refine ⟨.inl rfl, ?_⟩)⟩, ?_⟩
        · intro q hq
          rcases List.mem_append.1 hq with hq | hq
          · exact hmo q hq
          · rw [List.mem_singleton.1 hq]
            exact ⟨⟨fun _ => rfl, hna, Nat.zero_le _, by show its.length ≤ _; omega, (fun s h => (by cases h)), Nat.zero_le _, Nat.le_refl _, hoc2'⟩, hip, by show its.length ≤ 4; omega, Nat.zero_le _⟩
        · (repeat' (first | exact trivial | refine And.intro (by with_reducible rfl) ?_ | (with_reducible exact wkC_refl _) | (with_reducible exact wkCs_refl _) | refine And.intro ?_ ?_))
          all_goals first | rfl | exact av_int (by rw [wrap_i64 (by omega)]; omega) | (rw [hm2]; rfl)
        · rcases List.mem_append.1 hq with hq | hq
          · exact hw.2.1 q hq
          · rw [List.mem_singleton.1 hq]
            exact ⟨SlAt.nil, hw.2.2.1⟩
        · show wkH _ [Ent.fact _, .app 42 5 (grC (m ++ [_])) _ (m ++ [_]).length _, _]
          rw [← hm2, hg2]
          exact ⟨wkE_refl _, wkE_refl _, wkE_refl _, trivial⟩
    · -- the cell is put behind the graph; ⟨⟨7, 0, [], [], []⟩, none, 0, none, 0⟩: the cell, , .dead, .dead: what else is over, ⟨SlAt.nil, SlAt.nil⟩: its rows
      (first | refine wX ?_ | exact wZ)
      try refine Nd.mk ⟨Nat.le_refl 1, rfl, rfl⟩ ?_
      (conv => whnf)
      refine AppN.grow 1 (grC m) (cellC (⟨⟨7, 0, [], [], []⟩, none, 0, none, 0⟩ : CellP)) rfl rfl ⟨Nat.le_refl 1, ⟨by show (m.length + 1) * 80 ≤ _; omega, by omega⟩, by decide⟩ fun ob2 oc2 hoc2 _ => ?_
      (first | refine wX ?_ | exact wZ)
      have hm2 : m.length + 1 = (m ++ [(⟨⟨7, 0, [], [], []⟩, none, 0, none, 0⟩ : CellP)]).length := by simp
      have hg2 := grC_snoc m ⟨⟨7, 0, [], [], []⟩, none, 0, none, 0⟩
      refine ⟨⟨i + 1, some ob2, oc2, m ++ [⟨⟨7, 0, [], [], []⟩, none, 0, none, 0⟩]⟩, ⟨by omega, by rw [← hm2, hml], ?_, (fun h => by cases h), by rw [← hm2]; exact hoc2⟩, by show n - (i + 1) < n - i; omega, ?_, [.fact (fun w => SlAt a (L.length * 1) (iC L) w), .app 42 5 (grC m ++ cellC ⟨⟨7, 0, [], [], []⟩, none, 0, none, 0⟩) (some ⟨ob2, 0, none⟩) (m.length + 1) oc2, .fact (fun w => ∀ q ∈ m ++ [(⟨⟨7, 0, [], [], []⟩, none, 0, none, 0⟩ : CellP)], CellF q w), .dead, .dead], turnS ⟨.inr (.inl rfl), .inr (.inl rfl), .inr (.inr ⟨_, rfl, fun w hw q hq => ?_⟩), by repeat (first | exact trivial | refine ⟨.inl rfl, ?_⟩)⟩, ?_⟩
      · intro q hq
        rcases List.mem_append.1 hq with hq | hq
        · exact hmo q hq
        · rw [List.mem_singleton.1 hq]
          exact grw_plain n _ _ _ (by decide)
      · (repeat' (first | exact trivial | refine And.intro (by with_reducible rfl) ?_ | (with_reducible exact wkC_refl _) | (with_reducible exact wkCs_refl _) | refine And.intro ?_ ?_))
        all_goals first | rfl | exact av_int (by rw [wrap_i64 (by omega)]; omega) | (rw [hm2]; rfl)
      · rcases List.mem_append.1 hq with hq | hq
        · exact hw.2.1 q hq
        · rw [List.mem_singleton.1 hq]
          exact ⟨SlAt.nil, SlAt.nil⟩
      · show wkH _ [Ent.fact _, .app 42 5 (grC (m ++ [_])) _ (m ++ [_]).length _, _]
        rw [← hm2, hg2]
        exact ⟨wkE_refl _, wkE_refl _, wkE_refl _, trivial⟩
    · (first | refine wX ?_ | exact wZ)
      have hq2 : IntKind.u64.wrap (x.tdiv 2) = x / 2 := by rw [Int.tdiv_eq_ediv_of_nonneg (by omega)]; exact wrap_u64 (by omega)
      have hc3 : IntKind.i64.wrap ((IntKind.u64.wrap (x.tdiv 2)).tmod 3) = x / 2 % 3 := by rw [hq2, Int.tmod_eq_emod_of_nonneg (by omega)]; exact wrap_i64 (by omega)
      rw [show x.tmod 2 = x % 2 by rw [Int.tmod_eq_emod_of_nonneg (by omega)]]
      have hj : x % 2 = 0 ∨ x % 2 = 1 := by omega
      rcases hj with e | e <;> rw [e]
      · (first | refine wX ?_ | exact wZ)
        refine LoopN.intro (Nat × List (List UInt8) × BSt × List Int × BSt) (fun ⟨k, nms, o2, its, o⟩ => k ≤ 2 ∧ nms.length = k ∧ its.length = k ∧ (∀ y ∈ its, 0 ≤ y) ∧ (∀ s ∈ nms, s.length ≤ 2) ∧ o2.ok nms.length ∧ o.ok its.length)
          (fun ⟨k, nms, o2, its, o⟩ => mkS Tryz.f22.ntmps 0 [(0, .c (.v (.slice a L.length ca))), (3, .c (.v (.int .i64 (n : Int)))), (4, .c (.v (.slice (at0 ob) m.length oc))), (5, .c (.v (.int .i64 (i : Int)))), (6, .c (.v (.int .u64 x))), (7, .c (.lp 3 0)), (9, .c (.v (.int .i64 (k : Int))))])
          (fun ⟨k, nms, o2, its, o⟩ => [.fact (fun w => SlAt a (L.length * 1) (iC L) w), .app 42 5 (grC m) (at0 ob) m.length oc, .fact (fun w => ∀ p ∈ m, CellF p w), .blk 42 (vs (cellC ⟨⟨8, 0, [67], nms, its⟩, at0 o2.ob, o2.cap, at0 o.ob, o.cap⟩)), .dead, .app 9 1 (strC nms) (at0 o2.ob) nms.length o2.cap, .app 3 1 (iC its) (at0 o.ob) its.length o.cap]) (fun ⟨k, _, _, _, _⟩ => 3 - k) [.app 9 1 [] none 0 0, .app 3 1 [] none 0 0] rfl (fun ⟨_, _, _, _, _⟩ => rfl) (fun ⟨_, _, _, _, _⟩ => rfl) (fun ⟨_, _, _, _, _⟩ _ => okHB_eq rfl) ?_ ?_
        · refine ⟨(0, [], ⟨none, 0⟩, [], ⟨none, 0⟩), ⟨Nat.zero_le _, rfl, rfl, (fun y h => by cases h), (fun y h => by cases h), ⟨fun _ => ⟨rfl, rfl⟩, Nat.le_refl _, fun _ => rfl⟩, fun _ => ⟨rfl, rfl⟩, Nat.le_refl _, fun _ => rfl⟩, ?_, wkE_refl _, wkE_refl _, wkE_refl _, wkE_refl _, trivial, wkE_refl _, wkE_refl _, trivial⟩
          (repeat' (first | exact trivial | refine And.intro (by with_reducible rfl) ?_ | (with_reducible exact wkC_refl _) | (with_reducible exact wkCs_refl _) | refine And.intro ?_ ?_))
          all_goals rfl
        rintro ⟨k, nms, ⟨nb0, ncap⟩, its, ⟨ob0, ocap⟩⟩ ⟨hk, hnl, hil, hip, hnw, ho2, ho⟩
        (first | refine wX ?_ | exact wZ)
        refine brd_dec (fun h2 => ?_) (fun h2 => ?_)
        · rw [hc3] at h2
          have hk01 : k = 0 ∨ k = 1 := by omega
          rcases hk01 with rfl | rfl
          · -- a name and an item are put behind; [64, 97]: the name, 0: the round
            ((conv => whnf); (repeat ((first | refine VrN.keep ?_ | refine BoxN.own ?_ | refine RwN.own ?_); (conv => whnf))))
            refine DrawN.plan [0, 3] [(1, 1), (2, 0), (4, 1), (5, 1), (6, 0)] [(7, 0), (8, 0), (9, 0)] (by decide +kernel) ?_
            (first | refine wX ?_ | exact wZ)
            refine AppN.grow 5 (strC nms) [.string (bs [64, 97])] rfl rfl ⟨Nat.le_refl 1, ⟨by show (nms.length + 1) * 16 ≤ _; omega, by show nms.length + 1 < _; omega⟩, Nat.one_ne_zero⟩ fun xb xc hxc _ => ?_
            have hcn : strC nms ++ [.string (bs [64, 97])] = strC (nms ++ [[64, 97]]) := by simp [strC]
            have hln : nms.length + 1 = (nms ++ [([64, 97] : List UInt8)]).length := by simp
            rw [hcn, hln]
            rw [hln] at hxc
            (first | refine wX ?_ | exact wZ)
            refine DrawN.plan [0, 2, 4, 9] [(1, 1), (3, 1), (5, 1), (6, 1), (7, 1), (8, 1), (10, 1), (11, 0)] [(12, 0), (13, 0), (14, 0)] (by decide +kernel) ?_
            (first | refine wX ?_ | exact wZ)
            have hit := grw_item x 0 6 5 n hxb (by omega) (by decide) (by decide)
            simp only [Int.cast_ofNat_Int] at hit
            generalize hgi : (IntKind.i64.wrap (IntKind.u64.wrap (IntKind.u64.wrap (x.tdiv 6) + IntKind.u64.wrap (IntKind.u64.wrap (((0 : Nat) : Int)) * 5)))).tmod (n : Int) = it at *
            refine Nd.mk ⟨Nat.le_refl 1, rfl, rfl⟩ ?_
            (conv => whnf)
            refine AppN.grow 6 (iC its) [.int .i64 it] rfl rfl ⟨Nat.le_refl 1, ⟨by show (its.length + 1) * 8 ≤ _; omega, by show its.length + 1 < _; omega⟩, Nat.one_ne_zero⟩ fun wb wc hwc _ => ?_
            have hcl : iC its ++ [.int .i64 it] = iC (its ++ [it]) := by simp [iC]
            have hll : its.length + 1 = (its ++ [it]).length := by simp
            rw [hcl, hll]
            rw [hll] at hwc
            (first | refine wX ?_ | exact wZ)
            refine ⟨(0 + 1, nms ++ [([64, 97] : List UInt8)], ⟨some xb, xc⟩, its ++ [it], ⟨some wb, wc⟩), ⟨by omega, by rw [← hln, hnl], by rw [← hll, hil], ?_, ?_, ⟨(fun h => by cases h), hxc, fun h => by have : xc = 0 := h; omega⟩, (fun h => by cases h), hwc, fun h => by have : wc = 0 := h; omega⟩, by show 3 - (0 + 1) < 3 - 0; omega, ?_, wkE_refl _, wkE_refl _, wkE_refl _, wkE_refl _, trivial, wkE_refl _, wkE_refl _, trivial⟩
            · intro y hy
              rcases List.mem_append.1 hy with hy | hy
              · exact hip y hy
              · rw [List.mem_singleton.1 hy]; exact hit
            · intro y hy
              rcases List.mem_append.1 hy with hy | hy
              · exact hnw y hy
              · rw [List.mem_singleton.1 hy]; decide
            (repeat' (first | exact trivial | refine And.intro (by with_reducible rfl) ?_ | (with_reducible exact wkC_refl _) | (with_reducible exact wkCs_refl _) | refine And.intro ?_ ?_))
            all_goals first | rfl | exact av_int (by rw [wrap_i64 (by omega)]; omega)
          · -- a name and an item are put behind; [64, 98]: the name, 1: the round
            ((conv => whnf); (repeat ((first | refine VrN.keep ?_ | refine BoxN.own ?_ | refine RwN.own ?_); (conv => whnf))))
            refine DrawN.plan [0, 3] [(1, 1), (2, 0), (4, 1), (5, 1), (6, 0)] [(7, 0), (8, 0), (9, 0)] (by decide +kernel) ?_
            (first | refine wX ?_ | exact wZ)
            refine AppN.grow 5 (strC nms) [.string (bs [64, 98])] rfl rfl ⟨Nat.le_refl 1, ⟨by show (nms.length + 1) * 16 ≤ _; omega, by show nms.length + 1 < _; omega⟩, Nat.one_ne_zero⟩ fun xb xc hxc _ => ?_
            have hcn : strC nms ++ [.string (bs [64, 98])] = strC (nms ++ [[64, 98]]) := by simp [strC]
            have hln : nms.length + 1 = (nms ++ [([64, 98] : List UInt8)]).length := by simp
            rw [hcn, hln]
            rw [hln] at hxc
            (first | refine wX ?_ | exact wZ)
            refine DrawN.plan [0, 2, 4, 9] [(1, 1), (3, 1), (5, 1), (6, 1), (7, 1), (8, 1), (10, 1), (11, 0)] [(12, 0), (13, 0), (14, 0)] (by decide +kernel) ?_
            (first | refine wX ?_ | exact wZ)
            have hit := grw_item x 1 6 5 n hxb (by omega) (by decide) (by decide)
            simp only [Int.cast_ofNat_Int] at hit
            generalize hgi : (IntKind.i64.wrap (IntKind.u64.wrap (IntKind.u64.wrap (x.tdiv 6) + IntKind.u64.wrap (IntKind.u64.wrap (((1 : Nat) : Int)) * 5)))).tmod (n : Int) = it at *
            refine Nd.mk ⟨Nat.le_refl 1, rfl, rfl⟩ ?_
            (conv => whnf)
            refine AppN.grow 6 (iC its) [.int .i64 it] rfl rfl ⟨Nat.le_refl 1, ⟨by show (its.length + 1) * 8 ≤ _; omega, by show its.length + 1 < _; omega⟩, Nat.one_ne_zero⟩ fun wb wc hwc _ => ?_
            have hcl : iC its ++ [.int .i64 it] = iC (its ++ [it]) := by simp [iC]
            have hll : its.length + 1 = (its ++ [it]).length := by simp
            rw [hcl, hll]
            rw [hll] at hwc
            (first | refine wX ?_ | exact wZ)
            refine ⟨(1 + 1, nms ++ [([64, 98] : List UInt8)], ⟨some xb, xc⟩, its ++ [it], ⟨some wb, wc⟩), ⟨by omega, by rw [← hln, hnl], by rw [← hll, hil], ?_, ?_, ⟨(fun h => by cases h), hxc, fun h => by have : xc = 0 := h; omega⟩, (fun h => by cases h), hwc, fun h => by have : wc = 0 := h; omega⟩, by show 3 - (1 + 1) < 3 - 1; omega, ?_, wkE_refl _, wkE_refl _, wkE_refl _, wkE_refl _, trivial, wkE_refl _, wkE_refl _, trivial⟩
            · intro y hy
              rcases List.mem_append.1 hy with hy | hy
              · exact hip y hy
              · rw [List.mem_singleton.1 hy]; exact hit
            · intro y hy
              rcases List.mem_append.1 hy with hy | hy
              · exact hnw y hy
              · rw [List.mem_singleton.1 hy]; decide
            (repeat' (first | exact trivial | refine And.intro (by with_reducible rfl) ?_ | (with_reducible exact wkC_refl _) | (with_reducible exact wkCs_refl _) | refine And.intro ?_ ?_))
            all_goals first | rfl | exact av_int (by rw [wrap_i64 (by omega)]; omega)
        · clear hc3
          have hna : at0 ob0 = none → its = [] := fun h => by
            cases ob0 with
            | none => exact List.eq_nil_of_length_eq_zero (ho.1 rfl).1
            | some b => cases h
          have hnn : at0 nb0 = none → nms = [] := fun h => by
            cases nb0 with
            | none => exact List.eq_nil_of_length_eq_zero (ho2.1 rfl).1
            | some b => cases h
          have hoc2' : its.length ≤ ocap := ho.2.1
          have hnc2' : nms.length ≤ ncap := ho2.2.1
          -- the cell is put behind the graph; ⟨⟨8, 0, [67], nms, its⟩, at0 nb0, ncap, at0 ob0, ocap⟩: the cell, , .dead, .dead, .dead, .dead, .dead: what else is over, ⟨hw.2.2.1, hw.2.2.2.1⟩: its rows
          (first | refine wX ?_ | exact wZ)
          try refine Nd.mk ⟨Nat.le_refl 1, rfl, rfl⟩ ?_
          (conv => whnf)
          refine AppN.grow 1 (grC m) (cellC (⟨⟨8, 0, [67], nms, its⟩, at0 nb0, ncap, at0 ob0, ocap⟩ : CellP)) rfl rfl ⟨Nat.le_refl 1, ⟨by show (m.length + 1) * 80 ≤ _; omega, by omega⟩, by decide⟩ fun ob2 oc2 hoc2 _ => ?_
          (first | refine wX ?_ | exact wZ)
          have hm2 : m.length + 1 = (m ++ [(⟨⟨8, 0, [67], nms, its⟩, at0 nb0, ncap, at0 ob0, ocap⟩ : CellP)]).length := by simp
          have hg2 := grC_snoc m ⟨⟨8, 0, [67], nms, its⟩, at0 nb0, ncap, at0 ob0, ocap⟩
          refine ⟨⟨i + 1, some ob2, oc2, m ++ [⟨⟨8, 0, [67], nms, its⟩, at0 nb0, ncap, at0 ob0, ocap⟩]⟩, ⟨by omega, by rw [← hm2, hml], ?_, (fun h => by cases h), by rw [← hm2]; exact hoc2⟩, by show n - (i + 1) < n - i; omega, ?_, [.fact (fun w => SlAt a (L.length * 1) (iC L) w), .app 42 5 (grC m ++ cellC ⟨⟨8, 0, [67], nms, its⟩, at0 nb0, ncap, at0 ob0, ocap⟩) (some ⟨ob2, 0, none⟩) (m.length + 1) oc2, .fact (fun w => ∀ q ∈ m ++ [(⟨⟨8, 0, [67], nms, its⟩, at0 nb0, ncap, at0 ob0, ocap⟩ : CellP)], CellF q w), .dead, .dead, .dead, .dead, .dead], turnS ⟨.inr (.inl rfl), .inr (.inl rfl), .inr (.inr ⟨_, rfl, fun w hw q hq => ?_⟩), by repeat (first | exact trivial | refine ⟨.inl rfl, ?_⟩)⟩, ?_⟩
          · intro q hq
            rcases List.mem_append.1 hq with hq | hq
            · exact hmo q hq
            · rw [List.mem_singleton.1 hq]
              exact ⟨⟨hnn, hna, by show nms.length ≤ _; omega, by show its.length ≤ _; omega, (fun s h => Nat.le_trans (hnw s h) (by decide)), Nat.le_of_ble_eq_true rfl, hnc2', hoc2'⟩, hip, by show its.length ≤ 4; omega, by show nms.length ≤ 2; omega⟩
          · (repeat' (first | exact trivial | refine And.intro (by with_reducible rfl) ?_ | (with_reducible exact wkC_refl _) | (with_reducible exact wkCs_refl _) | refine And.intro ?_ ?_))
            all_goals first | rfl | exact av_int (by rw [wrap_i64 (by omega)]; omega) | (rw [hm2]; rfl)
          · rcases List.mem_append.1 hq with hq | hq
            · exact hw.2.1 q hq
            · rw [List.mem_singleton.1 hq]
              exact ⟨hw.2.2.1, hw.2.2.2.1⟩
          · show wkH _ [Ent.fact _, .app 42 5 (grC (m ++ [_])) _ (m ++ [_]).length _, _]
            rw [← hm2, hg2]
            exact ⟨wkE_refl _, wkE_refl _, wkE_refl _, trivial⟩
      · (first | refine wX ?_ | exact wZ)
        refine LoopN.intro (Nat × List (List UInt8) × BSt × List Int × BSt) (fun ⟨k, nms, o2, its, o⟩ => k ≤ 2 ∧ nms.length = k ∧ its.length = k ∧ (∀ y ∈ its, 0 ≤ y) ∧ (∀ s ∈ nms, s.length ≤ 2) ∧ o2.ok nms.length ∧ o.ok its.length)
          (fun ⟨k, nms, o2, its, o⟩ => mkS Tryz.f22.ntmps 0 [(0, .c (.v (.slice a L.length ca))), (3, .c (.v (.int .i64 (n : Int)))), (4, .c (.v (.slice (at0 ob) m.length oc))), (5, .c (.v (.int .i64 (i : Int)))), (6, .c (.v (.int .u64 x))), (7, .c (.lp 3 0)), (9, .c (.v (.int .i64 (k : Int))))])
          (fun ⟨k, nms, o2, its, o⟩ => [.fact (fun w => SlAt a (L.length * 1) (iC L) w), .app 42 5 (grC m) (at0 ob) m.length oc, .fact (fun w => ∀ p ∈ m, CellF p w), .blk 42 (vs (cellC ⟨⟨8, 0, [68], nms, its⟩, at0 o2.ob, o2.cap, at0 o.ob, o.cap⟩)), .dead, .app 9 1 (strC nms) (at0 o2.ob) nms.length o2.cap, .app 3 1 (iC its) (at0 o.ob) its.length o.cap]) (fun ⟨k, _, _, _, _⟩ => 3 - k) [.app 9 1 [] none 0 0, .app 3 1 [] none 0 0] rfl (fun ⟨_, _, _, _, _⟩ => rfl) (fun ⟨_, _, _, _, _⟩ => rfl) (fun ⟨_, _, _, _, _⟩ _ => okHB_eq rfl) ?_ ?_
        · refine ⟨(0, [], ⟨none, 0⟩, [], ⟨none, 0⟩), ⟨Nat.zero_le _, rfl, rfl, (fun y h => by cases h), (fun y h => by cases h), ⟨fun _ => ⟨rfl, rfl⟩, Nat.le_refl _, fun _ => rfl⟩, fun _ => ⟨rfl, rfl⟩, Nat.le_refl _, fun _ => rfl⟩, ?_, wkE_refl _, wkE_refl _, wkE_refl _, wkE_refl _, trivial, wkE_refl _, wkE_refl _, trivial⟩
          (repeat' (first | exact trivial | refine And.intro (by with_reducible rfl) ?_ | (with_reducible exact wkC_refl _) | (with_reducible exact wkCs_refl _) | refine And.intro ?_ ?_))
          all_goals rfl
        rintro ⟨k, nms, ⟨nb0, ncap⟩, its, ⟨ob0, ocap⟩⟩ ⟨hk, hnl, hil, hip, hnw, ho2, ho⟩
        (first | refine wX ?_ | exact wZ)
        refine brd_dec (fun h2 => ?_) (fun h2 => ?_)
        · rw [hc3] at h2
          have hk01 : k = 0 ∨ k = 1 := by omega
          rcases hk01 with rfl | rfl
          · -- a name and an item are put behind; [64, 97]: the name, 0: the round
            ((conv => whnf); (repeat ((first | refine VrN.keep ?_ | refine BoxN.own ?_ | refine RwN.own ?_); (conv => whnf))))
            refine DrawN.plan [0, 3] [(1, 1), (2, 0), (4, 1), (5, 1), (6, 0)] [(7, 0), (8, 0), (9, 0)] (by decide +kernel) ?_
            (first | refine wX ?_ | exact wZ)
            refine AppN.grow 5 (strC nms) [.string (bs [64, 97])] rfl rfl ⟨Nat.le_refl 1, ⟨by show (nms.length + 1) * 16 ≤ _; omega, by show nms.length + 1 < _; omega⟩, Nat.one_ne_zero⟩ fun xb xc hxc _ => ?_
            have hcn : strC nms ++ [.string (bs [64, 97])] = strC (nms ++ [[64, 97]]) := by simp [strC]
            have hln : nms.length + 1 = (nms ++ [([64, 97] : List UInt8)]).length := by simp
            rw [hcn, hln]
            rw [hln] at hxc
            (first | refine wX ?_ | exact wZ)
            refine DrawN.plan [0, 2, 4, 9] [(1, 1), (3, 1), (5, 1), (6, 1), (7, 1), (8, 1), (10, 1), (11, 0)] [(12, 0), (13, 0), (14, 0)] (by decide +kernel) ?_
            (first | refine wX ?_ | exact wZ)
            have hit := grw_item x 0 6 5 n hxb (by omega) (by decide) (by decide)
            simp only [Int.cast_ofNat_Int] at hit
            generalize hgi : (IntKind.i64.wrap (IntKind.u64.wrap (IntKind.u64.wrap (x.tdiv 6) + IntKind.u64.wrap (IntKind.u64.wrap (((0 : Nat) : Int)) * 5)))).tmod (n : Int) = it at *
            refine Nd.mk ⟨Nat.le_refl 1, rfl, rfl⟩ ?_
            (conv => whnf)
            refine AppN.grow 6 (iC its) [.int .i64 it] rfl rfl ⟨Nat.le_refl 1, ⟨by show (its.length + 1) * 8 ≤ _; omega, by show its.length + 1 < _; omega⟩, Nat.one_ne_zero⟩ fun wb wc hwc _ => ?_
            have hcl : iC its ++ [.int .i64 it] = iC (its ++ [it]) := by simp [iC]
            have hll : its.length + 1 = (its ++ [it]).length := by simp
            rw [hcl, hll]
            rw [hll] at hwc
            (first | refine wX ?_ | exact wZ)
            refine ⟨(0 + 1, nms ++ [([64, 97] : List UInt8)], ⟨some xb, xc⟩, its ++ [it], ⟨some wb, wc⟩), ⟨by omega, by rw [← hln, hnl], by rw [← hll, hil], ?_, ?_, ⟨(fun h => by cases h), hxc, fun h => by have : xc = 0 := h; omega⟩, (fun h => by cases h), hwc, fun h => by have : wc = 0 := h; omega⟩, by show 3 - (0 + 1) < 3 - 0; omega, ?_, wkE_refl _, wkE_refl _, wkE_refl _, wkE_refl _, trivial, wkE_refl _, wkE_refl _, trivial⟩
            · intro y hy
              rcases List.mem_append.1 hy with hy | hy
              · exact hip y hy
              · rw [List.mem_singleton.1 hy]; exact hit
            · intro y hy
              rcases List.mem_append.1 hy with hy | hy
              · exact hnw y hy
              · rw [List.mem_singleton.1 hy]; decide
            (repeat' (first | exact trivial | refine And.intro (by with_reducible rfl) ?_ | (with_reducible exact wkC_refl _) | (with_reducible exact wkCs_refl _) | refine And.intro ?_ ?_))
            all_goals first | rfl | exact av_int (by rw [wrap_i64 (by omega)]; omega)
          · -- a name and an item are put behind; [64, 98]: the name, 1: the round
            ((conv => whnf); (repeat ((first | refine VrN.keep ?_ | refine BoxN.own ?_ | refine RwN.own ?_); (conv => whnf))))
            refine DrawN.plan [0, 3] [(1, 1), (2, 0), (4, 1), (5, 1), (6, 0)] [(7, 0), (8, 0), (9, 0)] (by decide +kernel) ?_
            (first | refine wX ?_ | exact wZ)
            refine AppN.grow 5 (strC nms) [.string (bs [64, 98])] rfl rfl ⟨Nat.le_refl 1, ⟨by show (nms.length + 1) * 16 ≤ _; omega, by show nms.length + 1 < _; omega⟩, Nat.one_ne_zero⟩ fun xb xc hxc _ => ?_
            have hcn : strC nms ++ [.string (bs [64, 98])] = strC (nms ++ [[64, 98]]) := by simp [strC]
            have hln : nms.length + 1 = (nms ++ [([64, 98] : List UInt8)]).length := by simp
            rw [hcn, hln]
            rw [hln] at hxc
            (first | refine wX ?_ | exact wZ)
            refine DrawN.plan [0, 2, 4, 9] [(1, 1), (3, 1), (5, 1), (6, 1), (7, 1), (8, 1), (10, 1), (11, 0)] [(12, 0), (13, 0), (14, 0)] (by decide +kernel) ?_
            (first | refine wX ?_ | exact wZ)
            have hit := grw_item x 1 6 5 n hxb (by omega) (by decide) (by decide)
            simp only [Int.cast_ofNat_Int] at hit
            generalize hgi : (IntKind.i64.wrap (IntKind.u64.wrap (IntKind.u64.wrap (x.tdiv 6) + IntKind.u64.wrap (IntKind.u64.wrap (((1 : Nat) : Int)) * 5)))).tmod (n : Int) = it at *
            refine Nd.mk ⟨Nat.le_refl 1, rfl, rfl⟩ ?_
            (conv => whnf)
            refine AppN.grow 6 (iC its) [.int .i64 it] rfl rfl ⟨Nat.le_refl 1, ⟨by show (its.length + 1) * 8 ≤ _; omega, by show its.length + 1 < _; omega⟩, Nat.one_ne_zero⟩ fun wb wc hwc _ => ?_
            have hcl : iC its ++ [.int .i64 it] = iC (its ++ [it]) := by simp [iC]
            have hll : its.length + 1 = (its ++ [it]).length := by simp
            rw [hcl, hll]
            rw [hll] at hwc
            (first | refine wX ?_ | exact wZ)
            refine ⟨(1 + 1, nms ++ [([64, 98] : List UInt8)], ⟨some xb, xc⟩, its ++ [it], ⟨some wb, wc⟩), ⟨by omega, by rw [← hln, hnl], by rw [← hll, hil], ?_, ?_, ⟨(fun h => by cases h), hxc, fun h => by have : xc = 0 := h; omega⟩, (fun h => by cases h), hwc, fun h => by have : wc = 0 := h; omega⟩, by show 3 - (1 + 1) < 3 - 1; omega, ?_, wkE_refl _, wkE_refl _, wkE_refl _, wkE_refl _, trivial, wkE_refl _, wkE_refl _, trivial⟩
            · intro y hy
              rcases List.mem_append.1 hy with hy | hy
              · exact hip y hy
              · rw [List.mem_singleton.1 hy]; exact hit
            · intro y hy
              rcases List.mem_append.1 hy with hy | hy
              · exact hnw y hy
              · rw [List.mem_singleton.1 hy]; decide
            (repeat' (first | exact trivial | refine And.intro (by with_reducible rfl) ?_ | (with_reducible exact wkC_refl _) | (with_reducible exact wkCs_refl _) | refine And.intro ?_ ?_))
            all_goals first | rfl | exact av_int (by rw [wrap_i64 (by omega)]; omega)
        · clear hc3
          have hna : at0 ob0 = none → its = [] := fun h => by
            cases ob0 with
            | none => exact List.eq_nil_of_length_eq_zero (ho.1 rfl).1
            | some b => cases h
          have hnn : at0 nb0 = none → nms = [] := fun h => by
            cases nb0 with
            | none => exact List.eq_nil_of_length_eq_zero (ho2.1 rfl).1
            | some b => cases h
          have hoc2' : its.length ≤ ocap := ho.2.1
          have hnc2' : nms.length ≤ ncap := ho2.2.1
          -- the cell is put behind the graph; ⟨⟨8, 0, [68], nms, its⟩, at0 nb0, ncap, at0 ob0, ocap⟩: the cell, , .dead, .dead, .dead, .dead, .dead: what else is over, ⟨hw.2.2.1, hw.2.2.2.1⟩: its rows
          (first | refine wX ?_ | exact wZ)
          try refine Nd.mk ⟨Nat.le_refl 1, rfl, rfl⟩ ?_
          (conv => whnf)
          refine AppN.grow 1 (grC m) (cellC (⟨⟨8, 0, [68], nms, its⟩, at0 nb0, ncap, at0 ob0, ocap⟩ : CellP)) rfl rfl ⟨Nat.le_refl 1, ⟨by show (m.length + 1) * 80 ≤ _; omega, by omega⟩, by decide⟩ fun ob2 oc2 hoc2 _ => ?_
          (first | refine wX ?_ | exact wZ)
          have hm2 : m.length + 1 = (m ++ [(⟨⟨8, 0, [68], nms, its⟩, at0 nb0, ncap, at0 ob0, ocap⟩ : CellP)]).length := by simp
          have hg2 := grC_snoc m ⟨⟨8, 0, [68], nms, its⟩, at0 nb0, ncap, at0 ob0, ocap⟩
          refine ⟨⟨i + 1, some ob2, oc2, m ++ [⟨⟨8, 0, [68], nms, its⟩, at0 nb0, ncap, at0 ob0, ocap⟩]⟩, ⟨by omega, by rw [← hm2, hml], ?_, (fun h => by cases h), by rw [← hm2]; exact hoc2⟩, by show n - (i + 1) < n - i; omega, ?_, [.fact (fun w => SlAt a (L.length * 1) (iC L) w), .app 42 5 (grC m ++ cellC ⟨⟨8, 0, [68], nms, its⟩, at0 nb0, ncap, at0 ob0, ocap⟩) (some ⟨ob2, 0, none⟩) (m.length + 1) oc2, .fact (fun w => ∀ q ∈ m ++ [(⟨⟨8, 0, [68], nms, its⟩, at0 nb0, ncap, at0 ob0, ocap⟩ : CellP)], CellF q w), .dead, .dead, .dead, .dead, .dead], turnS ⟨.inr (.inl rfl), .inr (.inl rfl), .inr (.inr ⟨_, rfl, fun w hw q hq => ?_⟩), by repeat (first | exact trivial | refine ⟨.inl rfl, ?_⟩)⟩, ?_⟩
          · intro q hq
            rcases List.mem_append.1 hq with hq | hq
            · exact hmo q hq
            · rw [List.mem_singleton.1 hq]
              exact ⟨⟨hnn, hna, by show nms.length ≤ _; omega, by show its.length ≤ _; omega, (fun s h => Nat.le_trans (hnw s h) (by decide)), Nat.le_of_ble_eq_true rfl, hnc2', hoc2'⟩, hip, by show its.length ≤ 4; omega, by show nms.length ≤ 2; omega⟩
          · (repeat' (first | exact trivial | refine And.intro (by with_reducible rfl) ?_ | (with_reducible exact wkC_refl _) | (with_reducible exact wkCs_refl _) | refine And.intro ?_ ?_))
            all_goals first | rfl | exact av_int (by rw [wrap_i64 (by omega)]; omega) | (rw [hm2]; rfl)
          · rcases List.mem_append.1 hq with hq | hq
            · exact hw.2.1 q hq
            · rw [List.mem_singleton.1 hq]
              exact ⟨hw.2.2.1, hw.2.2.2.1⟩
          · show wkH _ [Ent.fact _, .app 42 5 (grC (m ++ [_])) _ (m ++ [_]).length _, _]
            rw [← hm2, hg2]
            exact ⟨wkE_refl _, wkE_refl _, wkE_refl _, trivial⟩
  · have hin : i = n := by omega
    subst hin
    (first | refine wX ?_ | exact wZ)
    refine LoopN.introS (Nat × List CellP) (fun ⟨j, m⟩ => j ≤ i ∧ m.length = i ∧ (∀ p ∈ m, GrwC i p)) (fun ⟨j, m⟩ => mkS Tryz.f22.ntmps 0 [(0, .c (.v (.slice a L.length ca))), (3, .c (.v (.int .i64 (i : Int)))), (4, .c (.v (.slice (at0 ob) i oc))), (10, .c (.v (.int .i64 (j : Int))))]) (fun ⟨j, m⟩ => [.fact (fun w => SlAt a (L.length * 1) (iC L) w), .app 42 5 (grC m) (at0 ob) i oc, .fact (fun w => ∀ p ∈ m, CellF p w)]) (fun ⟨j, _⟩ => i - j) [] rfl (fun _ => rfl) (fun _ => rfl) (fun _ _ => ⟨trivial, trivial, trivial, trivial⟩) ?_ ?_
    · refine ⟨(0, m), ⟨Nat.zero_le _, hml, hmo⟩, ?_, _, turn_refl _, wkE_refl _, ?_, wkE_refl _, trivial⟩
      · (repeat' (first | exact trivial | refine And.intro (by with_reducible rfl) ?_ | (with_reducible exact wkC_refl _) | (with_reducible exact wkCs_refl _) | refine And.intro ?_ ?_))
        all_goals first | rfl | rw [hml]
      · rw [← hml]; exact wkE_refl _
    rintro ⟨j, m2⟩ ⟨hj, hm2l, hm2o⟩
    (first | refine wX ?_ | exact wZ)
    refine brd_dec (fun h2 => ?_) (fun h2 => ?_)
    · obtain ⟨p, hp⟩ : ∃ p, m2[j]? = some p := ⟨_, List.getElem?_eq_getElem (by omega)⟩
      obtain ⟨gb, rfl⟩ : ∃ gb, ob = some gb := by
        cases ob with
        | none => have := hoa rfl; subst this; simp only [List.length_nil] at hml; omega
        | some gb => exact ⟨gb, rfl⟩
      obtain ⟨z, hz⟩ : ∃ z, L[j]? = some z := ⟨_, List.getElem?_eq_getElem (by omega)⟩
      have hsa : a.isSome = true := by
        cases a with
        | none => rw [ha rfl] at hz; cases hz
        | some b => rfl
      (first | refine wX ?_ | exact wZ)
      refine Nd.mk ⟨rfl, by omega, by omega⟩ ?_
      (first | refine wX ?_ | exact wZ)
      refine LdN.fld (.int .i64 p.c.kind) rfl (fun w hw => hw.2.1) (by rw [Int.toNat_natCast]; exact grC_get m2 j 0 (by decide) hp) ?_
      (first | refine wX ?_ | exact wZ)
      refine brd_eq (fun h7 => ?_) (fun h7 => ?_)
      rotate_left
      · (first | refine wX ?_ | exact wZ)
        refine ⟨(j + 1, m2), ⟨by omega, hm2l, hm2o⟩, by show i - (j + 1) < i - j; omega, ?_, _, turn_refl _, wkE_refl _, wkE_refl _, wkE_refl _, trivial⟩
        (repeat' (first | exact trivial | refine And.intro (by with_reducible rfl) ?_ | (with_reducible exact wkC_refl _) | (with_reducible exact wkCs_refl _) | refine And.intro ?_ ?_))
        all_goals first | rfl | exact av_int (by rw [wrap_i64 (by omega)]; omega)
      (first | refine wX ?_ | exact wZ)
      refine Nd.mk ⟨hsa, by omega, by omega⟩ ?_
      (first | refine wX ?_ | exact wZ)
      refine LdN.one (.int .i64 z) rfl (fun w hw => hw.1) (by rw [Int.toNat_natCast]; show (iC L)[j * 1]? = _; rw [Nat.mul_one]; exact iC_get hz) ?_
      ((conv => whnf); (repeat ((first | refine BoxN.own ?_ | refine VrN.norm (wrap_i64 (by omega)) ?_ | refine VrN.keep ?_ | refine DrawN.calm (by decide +kernel) ?_ | refine Nd.mk (by decide +kernel) ?_ | refine Nd.mk (by omega) ?_ | (refine Nd.mk ?_ ?_; focus ((repeat' (first | exact trivial | exact wkE_refl _ | refine And.intro ?_ ?_)); done)) | refine RdN.intro _ rfl (by rfl) ?_); (conv => whnf))))
      have hXb := wrap_u64_bd z
      generalize IntKind.u64.wrap z = X at *
      have hx0 : IntKind.u64.wrap (X.tdiv 9) = X / 9 := by rw [Int.tdiv_eq_ediv_of_nonneg (by omega)]; exact wrap_u64 (by omega)
      rw [hx0]
      obtain ⟨x, hx⟩ : ∃ x, x = X / 9 := ⟨_, rfl⟩
      rw [← hx]
      have hxb : 0 ≤ x ∧ x ≤ 2049638230412172402 := by omega
      clear hx0 hXb
      refine DrawN.plan [0, 1, 2, 4, 6, 9] [(3, 1), (5, 1), (7, 1), (8, 1), (10, 1), (11, 0), (12, 1), (13, 1)] [(14, 0)] (by decide +kernel) ?_
      ((conv => whnf); (repeat ((first | refine BoxN.own ?_ | refine VrN.norm (wrap_i64 (by omega)) ?_ | refine VrN.keep ?_ | refine DrawN.calm (by decide +kernel) ?_ | refine Nd.mk (by decide +kernel) ?_ | refine Nd.mk (by omega) ?_ | (refine Nd.mk ?_ ?_; focus ((repeat' (first | exact trivial | exact wkE_refl _ | refine And.intro ?_ ?_)); done)) | refine RdN.intro _ rfl (by rfl) ?_); (conv => whnf))))
      obtain ⟨v1, hv1⟩ : ∃ v, v = (IntKind.i64.wrap x).tmod (i : Int) := ⟨_, rfl⟩
      obtain ⟨v2, hv2⟩ : ∃ v, v = (IntKind.i64.wrap (IntKind.u64.wrap (x.tdiv 3))).tmod (i : Int) := ⟨_, rfl⟩
      rw [← hv1, ← hv2]
      refine RwN.known [.int .i64 v1, .int .i64 v2] rfl fun ib => ?_
      ((conv => whnf); (repeat ((first | refine BoxN.own ?_ | refine VrN.norm (wrap_i64 (by omega)) ?_ | refine VrN.keep ?_ | refine DrawN.calm (by decide +kernel) ?_ | refine Nd.mk (by decide +kernel) ?_ | refine Nd.mk (by omega) ?_ | (refine Nd.mk ?_ ?_; focus ((repeat' (first | exact trivial | exact wkE_refl _ | refine And.intro ?_ ?_)); done)) | refine RdN.intro _ rfl (by rfl) ?_); (conv => whnf))))
      refine Nd.mk ⟨rfl, by omega, by omega⟩ ?_
      ((conv => whnf); (repeat ((first | refine BoxN.own ?_ | refine VrN.norm (wrap_i64 (by omega)) ?_ | refine VrN.keep ?_ | refine DrawN.calm (by decide +kernel) ?_ | refine Nd.mk (by decide +kernel) ?_ | refine Nd.mk (by omega) ?_ | (refine Nd.mk ?_ ?_; focus ((repeat' (first | exact trivial | exact wkE_refl _ | refine And.intro ?_ ?_)); done)) | refine RdN.intro _ rfl (by rfl) ?_); (conv => whnf))))
      have hgl2 : (grC m2).length = i * 5 := by rw [grC_len, hm2l]
      refine EffW.appTo (i := 1) (q := j * 5 + 4) (ys := [.slice (some ⟨ib, 0, none⟩) 2 2]) (grC (m2.set j (setI p [v1, v2] (some ⟨ib, 0, none⟩) 2))) 5 rfl (by rw [Int.toNat_natCast]; show AV.c (CV.v (Value.pointer (some (((⟨gb, 0, none⟩ : Addr).add (j * 5)).add 4)))) = _; rw [add_lit0, add_lit]) rfl rfl rfl rfl rfl (by show _ + 1 ≤ _ * 5; omega) (by rw [put_set _ (by omega)]; exact grC_set [v1, v2] _ 2 hp) rfl ?_
      have hpm := List.mem_of_getElem? hp
      have hq1 : 0 ≤ v1 := by rw [hv1, wrap_i64 (by omega)]; exact Int.tmod_nonneg _ (by omega)
      have hq2 : 0 ≤ v2 := by
        have : 0 ≤ x.tdiv 3 ∧ x.tdiv 3 ≤ x := by rw [Int.tdiv_eq_ediv_of_nonneg hxb.1]; omega
        rw [hv2, wrap_u64 (by omega), wrap_i64 (by omega)]
        exact Int.tmod_nonneg _ (by omega)
      clear hv1 hv2
      have hi12 : i ≤ 12 := by omega
      (first | refine wX ?_ | exact wZ)
      refine brd_dec (fun h3 => ?_) (fun h3 => ?_)
      rotate_left
      · -- is it valid still? [v1, v2]: the items, ib: their block, 2: its capacity, , .dead, .dead, .dead: what is over, (by simp [hq1, hq2]): no item is below 0
        (first | refine wX ?_ | exact wZ)
        have hG : ∀ q ∈ m2.set j (setI p [v1, v2] (some ⟨ib, 0, none⟩) 2), GrwC i q := grw_set hm2o hpm ib 2 (by simp [hq1, hq2]) (Nat.le_of_ble_eq_true rfl) (Nat.le_refl 2)
        have hlen : (m2.set j (setI p [v1, v2] (some ⟨ib, 0, none⟩) 2)).length = i := by rw [List.length_set, hm2l]
        have has := as_o (at0 (some gb)) oc (m2.set j (setI p [v1, v2] (some ⟨ib, 0, none⟩) 2)) (fun h => by cases h) (grw_small hG (by omega)) (fun q hq => (hG q hq).ok)
        rw [hlen] at has
        refine factG (fun _ => rfl) has ?_ fun st hst => ?_
        · exact fun w hw => ⟨by rw [hlen]; exact hw.2.1, set_rows hpm hw.2.2.1 hw.2.2.2.1⟩
        obtain ⟨t, ht1, ht2⟩ := Valid_b st.oa st.oc st.m hst.oa (by have := congrArg List.length hst.c; simp only [List.length_map] at this; omega) hst.ok
        (first | refine wX ?_ | exact wZ)
        refine call1 (ht2 _ (fun w hw => hst.gr hw.2.2.2.2.1 hw.2.2.2.2.2.1)) ?_
        cases t with
        | true =>
          (first | refine wX ?_ | exact wZ)
          refine ⟨(j + 1, m2.set j (setI p [v1, v2] (some ⟨ib, 0, none⟩) 2)), ⟨by omega, hlen, hG⟩, by show i - (j + 1) < i - j; omega, ?_, [.fact (fun w => SlAt a (L.length * 1) (iC L) w), .app 42 5 (grC (m2.set j (setI p [v1, v2] (some ⟨ib, 0, none⟩) 2))) (some ⟨gb, 0, none⟩) i oc, .fact (fun w => ∀ q ∈ m2.set j (setI p [v1, v2] (some ⟨ib, 0, none⟩) 2), CellF q w), .dead, .dead, .dead], turnS ⟨.inr (.inl rfl), .inr (.inl rfl), .inr (.inr ⟨_, rfl, fun w hw => set_rows hpm hw.2.1 hw.2.2.1⟩), by repeat (first | exact trivial | refine ⟨.inl rfl, ?_⟩)⟩, wkE_refl _, wkE_refl _, wkE_refl _, trivial⟩
          (repeat' (first | exact trivial | refine And.intro (by with_reducible rfl) ?_ | (with_reducible exact wkC_refl _) | (with_reducible exact wkCs_refl _) | refine And.intro ?_ ?_))
          all_goals first | rfl | exact av_int (by rw [wrap_i64 (by omega)]; omega)
        | false =>
          have hp2 : (m2.set j (setI p [v1, v2] (some ⟨ib, 0, none⟩) 2))[j]? = some (setI p [v1, v2] (some ⟨ib, 0, none⟩) 2) := by rw [List.getElem?_set_self (by omega)]
          have hG2 : ∀ q ∈ m2.set j (setI p [v1, v2] (some ⟨ib, 0, none⟩) 2), GrwC i q := grw_set hm2o hpm ib 2 (by simp [hq1, hq2]) (Nat.le_of_ble_eq_true rfl) (by show 2 ≤ _; first | exact Nat.le_refl 2 | omega)
          have hlen2 : (m2.set j (setI p [v1, v2] (some ⟨ib, 0, none⟩) 2)).length = i := by rw [List.length_set, hm2l]
          have hgl3 : (grC (m2.set j (setI p [v1, v2] (some ⟨ib, 0, none⟩) 2))).length = i * 5 := by rw [grC_len, hlen]
          (first | refine wX ?_ | exact wZ)
          refine Nd.mk ⟨rfl, by omega, by omega⟩ ?_
          (first | refine wX ?_ | exact wZ)
          refine LdN.fld (.slice (some ⟨ib, 0, none⟩) (List.length [v1, v2]) 2) rfl (fun w hw => hw.2.1) (by rw [Int.toNat_natCast]; exact grC_get _ j 4 (by decide) hp2) ?_
          (first | refine wX ?_ | exact wZ)
          refine ReadW.slc_h (ob := some ib) rfl (by kernel_rfl) rfl rfl ⟨by decide, by first | decide | omega⟩ ?_
          (first | refine wX ?_ | exact wZ)
          refine Nd.mk ⟨rfl, by omega, by omega⟩ ?_
          (first | refine wX ?_ | exact wZ)
          refine EffW.appTo (i := 1) (q := j * 5 + 4) (ys := [.slice (some ⟨ib, 0, none⟩) 2 2]) (grC (m2.set j (setI p [v1, v2] (some ⟨ib, 0, none⟩) 2))) 5 rfl (by rw [Int.toNat_natCast]; show AV.c (CV.v (Value.pointer (some (((⟨gb, 0, none⟩ : Addr).add (j * 5)).add 4)))) = _; rw [add_lit0, add_lit]) rfl rfl rfl rfl rfl (by show _ + 1 ≤ _ * 5; omega) (by rw [put_set _ (by omega)]; have := grC_set [v1, v2] (some ⟨ib, 0, none⟩) 2 hp2; rw [List.set_set] at this; exact this) rfl ?_
          (first | refine wX ?_ | exact wZ)
          refine ⟨(j + 1, m2.set j (setI p [v1, v2] (some ⟨ib, 0, none⟩) 2)), ⟨by omega, hlen2, hG2⟩, by show i - (j + 1) < i - j; omega, ?_, [.fact (fun w => SlAt a (L.length * 1) (iC L) w), .app 42 5 (grC (m2.set j (setI p [v1, v2] (some ⟨ib, 0, none⟩) 2))) (some ⟨gb, 0, none⟩) i oc, .fact (fun w => ∀ q ∈ m2.set j (setI p [v1, v2] (some ⟨ib, 0, none⟩) 2), CellF q w), .dead, .dead, .dead], turnS ⟨.inr (.inl rfl), .inr (.inl rfl), .inr (.inr ⟨_, rfl, fun w hw => set_rows hpm hw.2.1 (SlAt.take (j := 2) hw.2.2.1 (Nat.le_of_ble_eq_true rfl))⟩), by repeat (first | exact trivial | refine ⟨.inl rfl, ?_⟩)⟩, wkE_refl _, wkE_refl _, wkE_refl _, trivial⟩
          (repeat' (first | exact trivial | refine And.intro (by with_reducible rfl) ?_ | (with_reducible exact wkC_refl _) | (with_reducible exact wkCs_refl _) | refine And.intro ?_ ?_))
          all_goals first | rfl | exact av_int (by rw [wrap_i64 (by omega)]; omega)
      (first | refine wX ?_ | exact wZ)
      refine brd_eq (fun h4 => ?_) (fun h4 => ?_)
      rotate_left
      · -- is it valid still? [v1, v2]: the items, ib: their block, 2: its capacity, , .dead, .dead, .dead: what is over, (by simp [hq1, hq2]): no item is below 0
        (first | refine wX ?_ | exact wZ)
        have hG : ∀ q ∈ m2.set j (setI p [v1, v2] (some ⟨ib, 0, none⟩) 2), GrwC i q := grw_set hm2o hpm ib 2 (by simp [hq1, hq2]) (Nat.le_of_ble_eq_true rfl) (Nat.le_refl 2)
        have hlen : (m2.set j (setI p [v1, v2] (some ⟨ib, 0, none⟩) 2)).length = i := by rw [List.length_set, hm2l]
        have has := as_o (at0 (some gb)) oc (m2.set j (setI p [v1, v2] (some ⟨ib, 0, none⟩) 2)) (fun h => by cases h) (grw_small hG (by omega)) (fun q hq => (hG q hq).ok)
        rw [hlen] at has
        refine factG (fun _ => rfl) has ?_ fun st hst => ?_
        · exact fun w hw => ⟨by rw [hlen]; exact hw.2.1, set_rows hpm hw.2.2.1 hw.2.2.2.1⟩
        obtain ⟨t, ht1, ht2⟩ := Valid_b st.oa st.oc st.m hst.oa (by have := congrArg List.length hst.c; simp only [List.length_map] at this; omega) hst.ok
        (first | refine wX ?_ | exact wZ)
        refine call1 (ht2 _ (fun w hw => hst.gr hw.2.2.2.2.1 hw.2.2.2.2.2.1)) ?_
        cases t with
        | true =>
          (first | refine wX ?_ | exact wZ)
          refine ⟨(j + 1, m2.set j (setI p [v1, v2] (some ⟨ib, 0, none⟩) 2)), ⟨by omega, hlen, hG⟩, by show i - (j + 1) < i - j; omega, ?_, [.fact (fun w => SlAt a (L.length * 1) (iC L) w), .app 42 5 (grC (m2.set j (setI p [v1, v2] (some ⟨ib, 0, none⟩) 2))) (some ⟨gb, 0, none⟩) i oc, .fact (fun w => ∀ q ∈ m2.set j (setI p [v1, v2] (some ⟨ib, 0, none⟩) 2), CellF q w), .dead, .dead, .dead], turnS ⟨.inr (.inl rfl), .inr (.inl rfl), .inr (.inr ⟨_, rfl, fun w hw => set_rows hpm hw.2.1 hw.2.2.1⟩), by repeat (first | exact trivial | refine ⟨.inl rfl, ?_⟩)⟩, wkE_refl _, wkE_refl _, wkE_refl _, trivial⟩
          (repeat' (first | exact trivial | refine And.intro (by with_reducible rfl) ?_ | (with_reducible exact wkC_refl _) | (with_reducible exact wkCs_refl _) | refine And.intro ?_ ?_))
          all_goals first | rfl | exact av_int (by rw [wrap_i64 (by omega)]; omega)
        | false =>
          have hp2 : (m2.set j (setI p [v1, v2] (some ⟨ib, 0, none⟩) 2))[j]? = some (setI p [v1, v2] (some ⟨ib, 0, none⟩) 2) := by rw [List.getElem?_set_self (by omega)]
          have hG2 : ∀ q ∈ m2.set j (setI p [v1, v2] (some ⟨ib, 0, none⟩) 2), GrwC i q := grw_set hm2o hpm ib 2 (by simp [hq1, hq2]) (Nat.le_of_ble_eq_true rfl) (by show 2 ≤ _; first | exact Nat.le_refl 2 | omega)
          have hlen2 : (m2.set j (setI p [v1, v2] (some ⟨ib, 0, none⟩) 2)).length = i := by rw [List.length_set, hm2l]
          have hgl3 : (grC (m2.set j (setI p [v1, v2] (some ⟨ib, 0, none⟩) 2))).length = i * 5 := by rw [grC_len, hlen]
          (first | refine wX ?_ | exact wZ)
          refine Nd.mk ⟨rfl, by omega, by omega⟩ ?_
          (first | refine wX ?_ | exact wZ)
          refine LdN.fld (.slice (some ⟨ib, 0, none⟩) (List.length [v1, v2]) 2) rfl (fun w hw => hw.2.1) (by rw [Int.toNat_natCast]; exact grC_get _ j 4 (by decide) hp2) ?_
          (first | refine wX ?_ | exact wZ)
          refine ReadW.slc_h (ob := some ib) rfl (by kernel_rfl) rfl rfl ⟨by decide, by first | decide | omega⟩ ?_
          (first | refine wX ?_ | exact wZ)
          refine Nd.mk ⟨rfl, by omega, by omega⟩ ?_
          (first | refine wX ?_ | exact wZ)
          refine EffW.appTo (i := 1) (q := j * 5 + 4) (ys := [.slice (some ⟨ib, 0, none⟩) 2 2]) (grC (m2.set j (setI p [v1, v2] (some ⟨ib, 0, none⟩) 2))) 5 rfl (by rw [Int.toNat_natCast]; show AV.c (CV.v (Value.pointer (some (((⟨gb, 0, none⟩ : Addr).add (j * 5)).add 4)))) = _; rw [add_lit0, add_lit]) rfl rfl rfl rfl rfl (by show _ + 1 ≤ _ * 5; omega) (by rw [put_set _ (by omega)]; have := grC_set [v1, v2] (some ⟨ib, 0, none⟩) 2 hp2; rw [List.set_set] at this; exact this) rfl ?_
          (first | refine wX ?_ | exact wZ)
          refine ⟨(j + 1, m2.set j (setI p [v1, v2] (some ⟨ib, 0, none⟩) 2)), ⟨by omega, hlen2, hG2⟩, by show i - (j + 1) < i - j; omega, ?_, [.fact (fun w => SlAt a (L.length * 1) (iC L) w), .app 42 5 (grC (m2.set j (setI p [v1, v2] (some ⟨ib, 0, none⟩) 2))) (some ⟨gb, 0, none⟩) i oc, .fact (fun w => ∀ q ∈ m2.set j (setI p [v1, v2] (some ⟨ib, 0, none⟩) 2), CellF q w), .dead, .dead, .dead], turnS ⟨.inr (.inl rfl), .inr (.inl rfl), .inr (.inr ⟨_, rfl, fun w hw => set_rows hpm hw.2.1 (SlAt.take (j := 2) hw.2.2.1 (Nat.le_of_ble_eq_true rfl))⟩), by repeat (first | exact trivial | refine ⟨.inl rfl, ?_⟩)⟩, wkE_refl _, wkE_refl _, wkE_refl _, trivial⟩
          (repeat' (first | exact trivial | refine And.intro (by with_reducible rfl) ?_ | (with_reducible exact wkC_refl _) | (with_reducible exact wkCs_refl _) | refine And.intro ?_ ?_))
          all_goals first | rfl | exact av_int (by rw [wrap_i64 (by omega)]; omega)
      have hp1 : (m2.set j (setI p [v1, v2] (some ⟨ib, 0, none⟩) 2))[j]? = some (setI p [v1, v2] (some ⟨ib, 0, none⟩) 2) := by rw [List.getElem?_set_self (by omega)]
      have hgl4 : (grC (m2.set j (setI p [v1, v2] (some ⟨ib, 0, none⟩) 2))).length = i * 5 := by rw [grC_len, List.length_set, hm2l]
      (first | refine wX ?_ | exact wZ)
      refine DrawN.plan [0, 1, 2, 3, 7, 10, 12, 15] [(4, 1), (5, 1), (6, 1), (8, 1), (9, 1), (11, 1), (13, 1), (14, 1), (16, 1), (17, 0)] [(18, 0), (19, 0), (20, 0), (21, 0)] (by decide +kernel) ?_
      (first | refine wX ?_ | exact wZ)
      refine Nd.mk ⟨rfl, by omega, by omega⟩ ?_
      (first | refine wX ?_ | exact wZ)
      refine LdN.fld (.slice (some ⟨ib, 0, none⟩) 2 2) rfl (fun w hw => hw.2.1) (by rw [Int.toNat_natCast]; exact grC_get _ j 4 (by decide) hp1) ?_
      (first | refine wX ?_ | exact wZ)
      obtain ⟨w1, hw1⟩ : ∃ v, v = (IntKind.i64.wrap (IntKind.u64.wrap (x.tdiv 5))).tmod (i : Int) := ⟨_, rfl⟩
      obtain ⟨w2, hw2⟩ : ∃ v, v = (IntKind.i64.wrap (IntKind.u64.wrap (x.tdiv 7))).tmod (i : Int) := ⟨_, rfl⟩
      rw [← hw1, ← hw2]
      have hq3 : 0 ≤ w1 := by
        have : 0 ≤ x.tdiv 5 ∧ x.tdiv 5 ≤ x := by rw [Int.tdiv_eq_ediv_of_nonneg hxb.1]; omega
        rw [hw1, wrap_u64 (by omega), wrap_i64 (by omega)]
        exact Int.tmod_nonneg _ (by omega)
      have hq4 : 0 ≤ w2 := by
        have : 0 ≤ x.tdiv 7 ∧ x.tdiv 7 ≤ x := by rw [Int.tdiv_eq_ediv_of_nonneg hxb.1]; omega
        rw [hw2, wrap_u64 (by omega), wrap_i64 (by omega)]
        exact Int.tmod_nonneg _ (by omega)
      clear hw1 hw2
      refine Nd.mk ⟨Nat.le_of_ble_eq_true rfl, rfl, rfl⟩ ?_
      (conv => whnf)
      refine AppN.grow 3 [.int .i64 v1, .int .i64 v2] [.int .i64 w1, .int .i64 w2] rfl rfl ⟨Nat.le_of_ble_eq_true rfl, ⟨by decide, by decide⟩, Nat.one_ne_zero⟩ fun wb wc hwc _ => ?_
      (first | refine wX ?_ | exact wZ)
      refine Nd.mk ⟨rfl, by omega, by omega⟩ ?_
      (first | refine wX ?_ | exact wZ)
      refine EffW.appTo (i := 1) (q := j * 5 + 4) (ys := [.slice (some ⟨wb, 0, none⟩) 4 wc]) (grC (m2.set j (setI p [v1, v2, w1, w2] (some ⟨wb, 0, none⟩) wc))) 5 rfl (by rw [Int.toNat_natCast]; show AV.c (CV.v (Value.pointer (some (((⟨gb, 0, none⟩ : Addr).add (j * 5)).add 4)))) = _; rw [add_lit0, add_lit]) rfl rfl rfl rfl rfl (by show _ + 1 ≤ _ * 5; omega) (by rw [put_set _ (by omega)]; have := grC_set [v1, v2, w1, w2] (some ⟨wb, 0, none⟩) wc hp1; rw [List.set_set] at this; exact this) rfl ?_
      -- is it valid still? [v1, v2, w1, w2]: the items, wb: their block, wc: its capacity, , .dead, .dead, .dead, .dead: what is over, (by simp [hq1, hq2, hq3, hq4]): no item is below 0
      (first | refine wX ?_ | exact wZ)
      have hG : ∀ q ∈ m2.set j (setI p [v1, v2, w1, w2] (some ⟨wb, 0, none⟩) wc), GrwC i q := grw_set hm2o hpm wb wc (by simp [hq1, hq2, hq3, hq4]) (Nat.le_of_ble_eq_true rfl) hwc
      have hlen : (m2.set j (setI p [v1, v2, w1, w2] (some ⟨wb, 0, none⟩) wc)).length = i := by rw [List.length_set, hm2l]
      have has := as_o (at0 (some gb)) oc (m2.set j (setI p [v1, v2, w1, w2] (some ⟨wb, 0, none⟩) wc)) (fun h => by cases h) (grw_small hG (by omega)) (fun q hq => (hG q hq).ok)
      rw [hlen] at has
      refine factG (fun _ => rfl) has ?_ fun st hst => ?_
      · exact fun w hw => ⟨by rw [hlen]; exact hw.2.1, set_rows hpm hw.2.2.1 hw.2.2.2.1⟩
      obtain ⟨t, ht1, ht2⟩ := Valid_b st.oa st.oc st.m hst.oa (by have := congrArg List.length hst.c; simp only [List.length_map] at this; omega) hst.ok
      (first | refine wX ?_ | exact wZ)
      refine call1 (ht2 _ (fun w hw => hst.gr hw.2.2.2.2.1 hw.2.2.2.2.2.1)) ?_
      cases t with
      | true =>
        (first | refine wX ?_ | exact wZ)
        refine ⟨(j + 1, m2.set j (setI p [v1, v2, w1, w2] (some ⟨wb, 0, none⟩) wc)), ⟨by omega, hlen, hG⟩, by show i - (j + 1) < i - j; omega, ?_, [.fact (fun w => SlAt a (L.length * 1) (iC L) w), .app 42 5 (grC (m2.set j (setI p [v1, v2, w1, w2] (some ⟨wb, 0, none⟩) wc))) (some ⟨gb, 0, none⟩) i oc, .fact (fun w => ∀ q ∈ m2.set j (setI p [v1, v2, w1, w2] (some ⟨wb, 0, none⟩) wc), CellF q w), .dead, .dead, .dead, .dead], turnS ⟨.inr (.inl rfl), .inr (.inl rfl), .inr (.inr ⟨_, rfl, fun w hw => set_rows hpm hw.2.1 hw.2.2.1⟩), by repeat (first | exact trivial | refine ⟨.inl rfl, ?_⟩)⟩, wkE_refl _, wkE_refl _, wkE_refl _, trivial⟩
        (repeat' (first | exact trivial | refine And.intro (by with_reducible rfl) ?_ | (with_reducible exact wkC_refl _) | (with_reducible exact wkCs_refl _) | refine And.intro ?_ ?_))
        all_goals first | rfl | exact av_int (by rw [wrap_i64 (by omega)]; omega)
      | false =>
        have hp2 : (m2.set j (setI p [v1, v2, w1, w2] (some ⟨wb, 0, none⟩) wc))[j]? = some (setI p [v1, v2, w1, w2] (some ⟨wb, 0, none⟩) wc) := by rw [List.getElem?_set_self (by omega)]
        have hG2 : ∀ q ∈ m2.set j (setI p [v1, v2] (some ⟨wb, 0, none⟩) wc), GrwC i q := grw_set hm2o hpm wb wc (by simp [hq1, hq2]) (Nat.le_of_ble_eq_true rfl) (by show 2 ≤ _; first | exact Nat.le_refl 2 | omega)
        have hlen2 : (m2.set j (setI p [v1, v2] (some ⟨wb, 0, none⟩) wc)).length = i := by rw [List.length_set, hm2l]
        have hgl3 : (grC (m2.set j (setI p [v1, v2, w1, w2] (some ⟨wb, 0, none⟩) wc))).length = i * 5 := by rw [grC_len, hlen]
        (first | refine wX ?_ | exact wZ)
        refine Nd.mk ⟨rfl, by omega, by omega⟩ ?_
        (first | refine wX ?_ | exact wZ)
        refine LdN.fld (.slice (some ⟨wb, 0, none⟩) (List.length [v1, v2, w1, w2]) wc) rfl (fun w hw => hw.2.1) (by rw [Int.toNat_natCast]; exact grC_get _ j 4 (by decide) hp2) ?_
        (first | refine wX ?_ | exact wZ)
        refine ReadW.slc_h (ob := some wb) rfl (by kernel_rfl) rfl rfl ⟨by decide, by first | decide | omega⟩ ?_
        (first | refine wX ?_ | exact wZ)
        refine Nd.mk ⟨rfl, by omega, by omega⟩ ?_
        (first | refine wX ?_ | exact wZ)
        refine EffW.appTo (i := 1) (q := j * 5 + 4) (ys := [.slice (some ⟨wb, 0, none⟩) 2 wc]) (grC (m2.set j (setI p [v1, v2] (some ⟨wb, 0, none⟩) wc))) 5 rfl (by rw [Int.toNat_natCast]; show AV.c (CV.v (Value.pointer (some (((⟨gb, 0, none⟩ : Addr).add (j * 5)).add 4)))) = _; rw [add_lit0, add_lit]) rfl rfl rfl rfl rfl (by show _ + 1 ≤ _ * 5; omega) (by rw [put_set _ (by omega)]; have := grC_set [v1, v2] (some ⟨wb, 0, none⟩) wc hp2; rw [List.set_set] at this; exact this) rfl ?_
        (first | refine wX ?_ | exact wZ)
        refine ⟨(j + 1, m2.set j (setI p [v1, v2] (some ⟨wb, 0, none⟩) wc)), ⟨by omega, hlen2, hG2⟩, by show i - (j + 1) < i - j; omega, ?_, [.fact (fun w => SlAt a (L.length * 1) (iC L) w), .app 42 5 (grC (m2.set j (setI p [v1, v2] (some ⟨wb, 0, none⟩) wc))) (some ⟨gb, 0, none⟩) i oc, .fact (fun w => ∀ q ∈ m2.set j (setI p [v1, v2] (some ⟨wb, 0, none⟩) wc), CellF q w), .dead, .dead, .dead, .dead], turnS ⟨.inr (.inl rfl), .inr (.inl rfl), .inr (.inr ⟨_, rfl, fun w hw => set_rows hpm hw.2.1 (SlAt.take (j := 2) hw.2.2.1 (Nat.le_of_ble_eq_true rfl))⟩), by repeat (first | exact trivial | refine ⟨.inl rfl, ?_⟩)⟩, wkE_refl _, wkE_refl _, wkE_refl _, trivial⟩
        (repeat' (first | exact trivial | refine And.intro (by with_reducible rfl) ?_ | (with_reducible exact wkC_refl _) | (with_reducible exact wkCs_refl _) | refine And.intro ?_ ?_))
        all_goals first | rfl | exact av_int (by rw [wrap_i64 (by omega)]; omega)
    · have hjn : j = i := by omega
      subst hjn
      have hob : at0 ob = none → m2 = [] := fun h => by
        cases ob with
        | none =>
          have := hoa rfl
          subst this
          simp only [List.length_nil] at hml
          exact List.eq_nil_of_length_eq_zero (by omega)
        | some b => cases h
      have hs2 := grw_small hm2o (by omega)
      (first | refine wX ?_ | exact wZ)
      refine loopS Nat (fun k => k ≤ j) (fun k => mkS Tryz.f22.ntmps 0 [(3, .c (.v (.int .i64 (j : Int)))), (4, .c (.v (.slice (at0 ob) j oc))), (12, .c (.v (.int .i64 (k : Int))))]) (fun k => j - k) rfl (fun _ => rfl) 0 (Nat.zero_le _) ?_ ?_
      · (repeat' (first | exact trivial | refine And.intro (by with_reducible rfl) ?_ | (with_reducible exact wkC_refl _) | (with_reducible exact wkCs_refl _) | refine And.intro ?_ ?_))
        all_goals rfl
      intro k hk
      (first | refine wX ?_ | exact wZ)
      refine brd_dec (fun h3 => ?_) (fun h3 => ?_)
      · obtain ⟨p, hp⟩ : ∃ p, m2[k]? = some p := ⟨_, List.getElem?_eq_getElem (by omega)⟩
        have hpm := List.mem_of_getElem? hp
        have hpo := hm2o p hpm
        have hpl := hpo.il
        have hsg : (at0 ob).isSome = true := by
          cases hq : at0 ob with
          | none => rw [hob hq] at hp; cases hp
          | some b => rfl
        (first | refine wX ?_ | exact wZ)
        refine loopS Nat (fun e => e ≤ p.c.items.length) (fun e => mkS Tryz.f22.ntmps 0 [(3, .c (.v (.int .i64 (j : Int)))), (4, .c (.v (.slice (at0 ob) j oc))), (12, .c (.v (.int .i64 (k : Int)))), (13, .c (.v (.int .i64 (e : Int))))]) (fun e => p.c.items.length - e) rfl (fun _ => rfl) 0 (Nat.zero_le _) ?_ ?_
        · (repeat' (first | exact trivial | refine And.intro (by with_reducible rfl) ?_ | (with_reducible exact wkC_refl _) | (with_reducible exact wkCs_refl _) | refine And.intro ?_ ?_))
          all_goals rfl
        intro e he
        (first | refine wX ?_ | exact wZ)
        refine Nd.mk ⟨hsg, by omega, by omega⟩ ?_
        (first | refine wX ?_ | exact wZ)
        refine LdN.fld (.slice p.ia p.c.items.length p.ic) rfl (fun w hw => hw.2.1) (by rw [Int.toNat_natCast]; exact grC_get m2 k 4 (by decide) hp) ?_
        (first | refine wX ?_ | exact wZ)
        refine brd_dec (fun h4 => ?_) (fun h4 => ?_)
        · obtain ⟨y, hy⟩ : ∃ z, p.c.items[e]? = some z := ⟨_, List.getElem?_eq_getElem (by omega)⟩
          have hya : p.ia.isSome = true := by
            cases hq : p.ia with
            | none => rw [hpo.ok.ia hq] at hy; cases hy
            | some b => rfl
          (first | refine wX ?_ | exact wZ)
          refine Nd.mk ⟨hsg, by omega, by omega⟩ ?_
          (first | refine wX ?_ | exact wZ)
          refine LdN.fld (.slice p.ia p.c.items.length p.ic) rfl (fun w hw => hw.2.1) (by rw [Int.toNat_natCast]; exact grC_get m2 k 4 (by decide) hp) ?_
          (first | refine wX ?_ | exact wZ)
          refine Nd.mk ⟨hya, by omega, by omega⟩ ?_
          (first | refine wX ?_ | exact wZ)
          refine LdN.one (.int .i64 y) rfl (fun w hw => (hw.2.2.1 p hpm).2) (by rw [Int.toNat_natCast]; show (iC p.c.items)[e * 1]? = _; rw [Nat.mul_one]; exact iC_get hy) ?_
          (first | refine wX ?_ | exact wZ)
          refine brd_dec (fun h5 => absurd h5 (by have := hpo.it y (List.mem_of_getElem? hy); omega)) (fun h5 => ?_)
          (first | refine wX ?_ | exact wZ)
          refine ⟨e + 1, by omega, by omega, ?_, by (repeat' (first | exact trivial | exact wkE_refl _ | refine And.intro ?_ ?_))⟩
          (repeat' (first | exact trivial | refine And.intro (by with_reducible rfl) ?_ | (with_reducible exact wkC_refl _) | (with_reducible exact wkCs_refl _) | refine And.intro ?_ ?_))
          all_goals first | rfl | exact av_int (by rw [wrap_i64 (by omega)]; omega)
        · (first | refine wX ?_ | exact wZ)
          refine ⟨k + 1, by omega, by omega, ?_, by (repeat' (first | exact trivial | exact wkE_refl _ | refine And.intro ?_ ?_))⟩
          (repeat' (first | exact trivial | refine And.intro (by with_reducible rfl) ?_ | (with_reducible exact wkC_refl _) | (with_reducible exact wkCs_refl _) | refine And.intro ?_ ?_))
          all_goals first | rfl | exact av_int (by rw [wrap_i64 (by omega)]; omega)
      · (first | refine wX ?_ | exact wZ)
        have has := as_o (at0 ob) oc m2 hob hs2 (fun q hq => (hm2o q hq).ok)
        rw [hm2l] at has
        refine factG (fun _ => rfl) has ?_ fun st hst => ?_
        · exact fun w hw => ⟨by rw [hm2l]; exact hw.2.1, hw.2.2.1⟩
        obtain ⟨t, ht1, ht2⟩ := Valid_b st.oa st.oc st.m hst.oa (by have := congrArg List.length hst.c; simp only [List.length_map] at this; omega) hst.ok
        (first | refine wX ?_ | exact wZ)
        refine call1 (ht2 _ (fun w hw => hst.gr hw.2.2.2.1 hw.2.2.2.2.1)) ?_
        cases t with
        | false =>
          (first | refine wX ?_ | exact wZ)
          exact fin_p (fun _ => True) ⟨none, 0, [], rfl, fun _ => rfl, (fun p h => by cases h), ⟨Nat.zero_le _, fun p h => by cases h⟩, .inl rfl, Nat.zero_le _, fun w _ => ⟨SlAt.nil, fun p h => by cases h⟩⟩ fun w hw => trivial
        | true =>
          (first | refine wX ?_ | exact wZ)
          exact fin_p (GrF (at0 ob) m2) ⟨at0 ob, oc, m2, by rw [hm2l], hob, (fun p hp => (hm2o p hp).ok), hs2, .inr (by rw [← hst.c]; exact ht1.1 rfl), by omega, fun w hw => hw⟩ fun w hw => ⟨by rw [hm2l]; exact hw.2.1, hw.2.2.1⟩
end Go.Proofs.YtahjbnfbilkbcaaGreatDoor

/-
  Plain: a graph whose cells are changed one by one, and its rows; graphs in whose arrays b stands for a are valid.
-/
namespace Go.Core
/-- The first k of the items are changed. -/
def mixI (f : Int → Int) (k : Nat) (its : List Int) : List Int := (its.take k).map f ++ its.drop k
theorem mixI_zero (f : Int → Int) (its : List Int) : mixI f 0 its = its := by unfold mixI; simp
theorem mixI_all (f : Int → Int) (its : List Int) : mixI f its.length its = its.map f := by unfold mixI; simp
theorem mixI_len (f : Int → Int) (k : Nat) (its : List Int) : (mixI f k its).length = its.length := by
  unfold mixI
  rw [List.length_append, List.length_map, List.length_take, List.length_drop]
  omega
theorem mix_get {α : Type} {f : α → α} {k : Nat} {l : List α} (h : k < l.length) : ((l.take k).map f ++ l.drop k)[k]? = l[k]? := by
  rw [List.getElem?_append_right (by simp; omega), List.getElem?_drop]
  simp
  congr 1
  omega
theorem mix_set {α : Type} {f : α → α} {k : Nat} {l : List α} {x : α} (h : l[k]? = some x) : ((l.take k).map f ++ l.drop k).set k (f x) = (l.take (k + 1)).map f ++ l.drop (k + 1) := by
  have hk := (List.getElem?_eq_some_iff.1 h).1
  rw [List.set_append_right _ _ (by simp; omega)]
  have e : k - (List.map f (List.take k l)).length = 0 := by simp; omega
  rw [e, List.drop_eq_getElem_cons hk, List.set_cons_zero, List.take_add_one, h]
  simp
theorem set_same {α : Type} {l : List α} {k : Nat} {x : α} (h : l[k]? = some x) : l.set k x = l := by
  obtain ⟨hk, rfl⟩ := List.getElem?_eq_some_iff.1 h
  exact List.set_getElem_self hk
end Go.Core
namespace Go.Proofs.YtahjbnfbilkbcaaGreatDoor
open Go.AX Go.RowKit Go.Core
set_option maxRecDepth 20000

end Go.Proofs.YtahjbnfbilkbcaaGreatDoor

/-
  Contract: the graph of what is reached (program), with memory of the caller's own.
-/
namespace Go.Proofs.YtahjbnfbilkbcaaGreatDoor
open Go.AX Go.RowKit Go.Core
set_option maxRecDepth 20000

/-- What is known of a graph that was made. -/
structure MInv (t : List Cell) (st : DSt) : Prop where
  oa : st.oa = none → st.m = []
  c : st.m.map (·.c) = t
  ok : ∀ p ∈ st.m, CellOk p
  own : ∀ p ∈ st.m, OwnP p
  cap : st.m.length ≤ st.oc
theorem MInv.gr {t : List Cell} {st : DSt} (h : MInv t st) {w : World} (h1 : SlAt st.oa (st.m.length * 5) (grC st.m) w) (h2 : famF (rowsG st.m) w) : GrF st.oa st.m w := ⟨h1, grF_rows h.ok h.own h2⟩
theorem to_in {g : List Cell} (hg : InG g) {i j : Int} (hi : InI g i) (h : To g i j) : InI g j := by
  induction h with
  | refl => exact hi
  | step hk _ ih => exact ih (outs_in hg hi hk)
/-- The places of the first cells are known. -/
def okL (L : List Int) (j : Nat) (st : Array MapEntry × Nat) : Prop := ∃ R : List (Int × Value), KeysAre (fun k : Int => .int .i64 k) st.1.toList R ∧ ∀ x ∈ L.take j, R.lookup x = some (.int .i64 (place L x))
set_option maxHeartbeats 4000000 in
theorem taken_o (a : Option Addr) (ca : Nat) (l : List CellP) (ha : a = none → l = []) (hs : Small l) (hok : ∀ p ∈ l, CellOk p) (hg : InG (l.map (·.c))) (i0 : Int) (hi0 : InI (l.map (·.c)) i0) : SpecH Tryz.prog 60 (pvs [.slice a l.length ca, .int .i64 i0]) [.fact (GrF a l)] (RetG (MInv (takenS (l.map (·.c)) (reachL (l.map (·.c)) i0))) (fun st => .slice st.oa st.m.length st.oc) (fun st => .dead :: .dead :: .dead :: ownN 42 st)) := by
  obtain ⟨hl, hsm⟩ := hs
  refine ownC hm Tryz.func60 (by kernel_rfl) rfl rfl (fun _ _ => okHB_eq rfl) (fun _ _ => by show 1 ≤ 5; decide) ?_
  (first | refine wX ?_ | exact wZ)
  refine SpecF.call (reach_c ca ha ⟨hl, hsm⟩ hok hg i0 hi0) (fun w hw => hw.1) fun v1 G1 hv1 => ?_
  obtain ⟨ra, rc, rfl, hra, hG1⟩ := hv1
  obtain ⟨L, hL⟩ : ∃ L, L = reachL (l.map (·.c)) i0 := ⟨_, rfl⟩
  have hgl : (l.map (·.c)).length = l.length := by simp
  have hLn : L.Nodup := by rw [hL]; exact reach_nodup _ _ _ List.nodup_nil
  have hLi : ∀ x, x ∈ L ↔ To (l.map (·.c)) i0 x := fun x => by rw [hL]; exact reach_iff hg (Nat.lt_succ_self _) hi0 x
  have hLl : L.length ≤ l.length := by
    have h1 := reach_len hg ((l.map (·.c)).length + 1) [] i0 hi0
    have h2 := free_le (l.map (·.c)) []
    rw [hL]
    unfold reachL
    simp only [List.length_nil] at h1
    omega
  rw [← hL] at hra hG1 ⊢
  clear hL
  (first | refine wX ?_ | exact wZ)
  refine EffW.mkMap rfl fun mb => ?_
  have hLc : ∀ x ∈ L, ∀ y ∈ outs (l.map (·.c)) x, y ∈ L := fun x hx y hy => (hLi y).2 (((hLi x).1 hx).trans (.step hy (.refl y)))
  have hLg : ∀ x ∈ L, InI (l.map (·.c)) x := fun x hx => to_in hg hi0 ((hLi x).1 hx)
  clear hLi
  (first | refine wX ?_ | exact wZ)
  refine LoopN.intro (Nat × (Array MapEntry × Nat)) (fun ⟨j, st⟩ => j ≤ L.length ∧ okL L j st)
    (fun ⟨j, _⟩ => mkS Tryz.f60.ntmps 0 [(0, .c (.v (.slice a l.length ca))), (4, .c (.v (.slice none 0 0))), (5, .c (.v (.slice ra L.length rc))), (6, .c (.v (.map (some mb)))), (19, .c (.v (.slice ra L.length rc))), (20, .c (.v (.int .i64 (L.length : Int)))), (21, .c (.v (.int .i64 (j : Int))))])
    (fun ⟨_, st⟩ => [.fact (GrF a l), .fact G1, .mp mb st.1 st.2]) (fun ⟨j, _⟩ => L.length - j) [] rfl (fun ⟨_, _⟩ => rfl) (fun ⟨_, _⟩ => rfl) (fun ⟨_, _⟩ _ => okHB_eq rfl) ?_ ?_
  · refine ⟨(0, (#[], 0)), ⟨Nat.zero_le _, [], rfl, fun x h => by cases h⟩, ?_, wkE_refl _, wkE_refl _, wkE_refl _, trivial⟩
    (repeat' (first | exact trivial | refine And.intro (by with_reducible rfl) ?_ | (with_reducible exact wkC_refl _) | (with_reducible exact wkCs_refl _) | refine And.intro ?_ ?_))
    all_goals rfl
  rintro ⟨j, ⟨es, c⟩⟩ ⟨hj, R, hR, hval⟩
  (first | refine wX ?_ | exact wZ)
  refine brd_dec (fun h1 => ?_) (fun h1 => ?_)
  · obtain ⟨x, hx⟩ : ∃ x, L[j]? = some x := ⟨_, List.getElem?_eq_getElem (by omega)⟩
    have hra2 : ra.isSome = true := by
      cases ra with
      | none => rw [hra rfl] at hx; cases hx
      | some b => rfl
    (first | refine wX ?_ | exact wZ)
    refine Nd.mk ⟨hra2, by omega, by omega⟩ ?_
    (first | refine wX ?_ | exact wZ)
    refine LdN.one (.int .i64 x) rfl (fun w hw => hG1 w hw.2.1) (by rw [Int.toNat_natCast]; show (iC L)[j * 1]? = _; rw [Nat.mul_one]; exact iC_get hx) ?_
    (first | refine wX ?_ | exact wZ)
    refine EffW.setMap (et := 3) (p := x) 2 R rfl (by kernel_rfl) intT rfl rfl rfl rfl hR fun es4 c4 hk4 => ?_
    (first | refine wX ?_ | exact wZ)
    refine ⟨(j + 1, (es4, c4)), ⟨by omega, _, hk4, fun y hy => ?_⟩, by show L.length - (j + 1) < L.length - j; omega, ?_, wkE_refl _, wkE_refl _, wkE_refl _, trivial⟩
    · rw [look_upd]
      rw [List.take_add_one, hx] at hy
      rcases List.mem_append.1 hy with hy | hy
      · by_cases hxy : y = x
        · rw [if_pos hxy, hxy, place_at hLn hx]
        · rw [if_neg hxy]; exact hval y hy
      · rw [List.mem_singleton.1 hy, if_pos rfl, place_at hLn hx]
    · (repeat' (first | exact trivial | refine And.intro (by with_reducible rfl) ?_ | (with_reducible exact wkC_refl _) | (with_reducible exact wkCs_refl _) | refine And.intro ?_ ?_))
      all_goals first | rfl | exact av_int (by rw [wrap_i64 (by omega)]; omega)
  · have hjl : j = L.length := by omega
    subst hjl
    rw [List.take_length] at hval
    (first | refine wX ?_ | exact wZ)
    refine LoopN.introS DSt (fun ⟨j, oa, oc, m⟩ => j ≤ L.length ∧ (oa = none → m = []) ∧ m.map (·.c) = (L.take j).map (fun k => reNum (place L) (at_ (l.map (·.c)) k)) ∧ (∀ p ∈ m, CellOk p) ∧ (∀ p ∈ m, OwnP p) ∧ m.length ≤ oc)
      (fun ⟨j, oa, oc, m⟩ => mkS Tryz.f60.ntmps 0 [(0, .c (.v (.slice a l.length ca))), (6, .c (.v (.map (some mb)))), (9, .c (.v (.slice oa m.length oc))), (30, .c (.v (.slice ra L.length rc))), (31, .c (.v (.int .i64 (L.length : Int)))), (32, .c (.v (.int .i64 (j : Int))))])
      (fun ⟨_, oa, oc, m⟩ => [.fact (GrF a l), .fact G1, .mp mb es c, .app 42 5 (grC m) oa m.length oc, famE (rowsG m)]) (fun ⟨j, _, _, _⟩ => L.length - j) [.app 42 5 [] none 0 0, .dead] rfl (fun _ => rfl) (fun _ => rfl) (fun _ _ => ⟨trivial, trivial, trivial, trivial, trivial, trivial⟩) ?_ ?_
    · refine ⟨⟨0, none, 0, []⟩, ⟨Nat.zero_le _, fun _ => rfl, rfl, (fun p h => by cases h), (fun p h => by cases h), Nat.le_refl _⟩, ?_, _, (famNew 4 rfl).s, wkE_refl _, wkE_refl _, wkE_refl _, wkE_refl _, wkE_refl _, trivial⟩
      (repeat' (first | exact trivial | refine And.intro (by with_reducible rfl) ?_ | (with_reducible exact wkC_refl _) | (with_reducible exact wkCs_refl _) | refine And.intro ?_ ?_))
      all_goals rfl
    rintro ⟨j, oa, oc, m⟩ ⟨hj, hoa, hmc, hmo, hmw, hoc⟩
    have hml : m.length = j := by
      have := congrArg List.length hmc
      simp only [List.length_map, List.length_take] at this
      omega
    (first | refine wX ?_ | exact wZ)
    refine brd_dec (fun h1 => ?_) (fun h1 => ?_)
    · obtain ⟨x, hx⟩ : ∃ x, L[j]? = some x := ⟨_, List.getElem?_eq_getElem (by omega)⟩
      have hxL := List.mem_of_getElem? hx
      have hxi := hLg x hxL
      have hra2 : ra.isSome = true := by
        cases ra with
        | none => rw [hra rfl] at hx; cases hx
        | some b => rfl
      (first | refine wX ?_ | exact wZ)
      refine Nd.mk ⟨hra2, by omega, by omega⟩ ?_
      (first | refine wX ?_ | exact wZ)
      refine LdN.one (.int .i64 x) rfl (fun w hw => hG1 w hw.2.1) (by rw [Int.toNat_natCast]; show (iC L)[j * 1]? = _; rw [Nat.mul_one]; exact iC_get hx) ?_
      obtain ⟨k, rfl⟩ : ∃ k : Nat, x = (k : Int) := ⟨x.toNat, by have := hxi.1; omega⟩
      have hkl : k < l.length := by have := hxi.2; rw [hgl] at this; omega
      obtain ⟨p, hp⟩ : ∃ p, l[k]? = some p := ⟨_, List.getElem?_eq_getElem hkl⟩
      have hat : at_ (l.map (·.c)) (k : Int) = p.c := at_map hp
      have hpm := List.mem_of_getElem? hp
      have hpo := hok p hpm
      obtain ⟨hnl, hil⟩ := hsm p hpm
      have hsa : a.isSome = true := by
        cases a with
        | none => rw [ha rfl] at hp; cases hp
        | some b => rfl
      (first | refine wX ?_ | exact wZ)
      refine Nd.mk ⟨hsa, by omega, by omega⟩ ?_
      (first | refine wX ?_ | exact wZ)
      refine LdN.agg (cellC p) rfl (fun w hw => hw.1.1) rfl (fun q hq => by rw [Int.toNat_natCast]; exact grC_get l k q hq hp) ?_
      (first | refine wXB ?_ | exact wZB)
      refine BoxN.known [.int .i64 0, .int .i64 0, .string { data := #[] }, .slice none 0 0, .slice none 0 0] rfl fun cb => ?_
      (first | refine wXB ?_ | exact wZB)
      refine EffW.appTo (i := 5) (q := 0) (ys := cellC p) (cellC p) 5 rfl rfl rfl rfl rfl rfl rfl (Nat.le_of_ble_eq_true rfl) rfl rfl ?_
      (first | refine wXB ?_ | exact wZB)
      refine LdN.one (a := some ⟨cb, 0, none⟩) (q := 3) (.slice p.na p.c.names.length p.nc) rfl (fun w hw => hw.2.2.2.2.2.1) rfl ?_
      (first | refine wXB ?_ | exact wZB)
      refine factG (fun _ => rfl) (cloneT p.na p.nc p.c.names hpo.na hnl) ?_ ?_
      · exact fun w hw => (hw.1.2 p hpm).1
      rintro ⟨nb, nc2⟩ ⟨hnb, hnc⟩
      (first | refine wXB ?_ | exact wZB)
      refine EffW.appTo (i := 5) (q := 3) (ys := [.slice (at0 nb) p.c.names.length nc2]) (cellC ⟨p.c, at0 nb, nc2, p.ia, p.ic⟩) 5 rfl rfl rfl rfl rfl rfl rfl (Nat.le_of_ble_eq_true rfl) rfl rfl ?_
      (first | refine wXB ?_ | exact wZB)
      refine LdN.one (a := some ⟨cb, 0, none⟩) (q := 4) (.slice p.ia p.c.items.length p.ic) rfl (fun w hw => hw.2.2.2.2.2.1) rfl ?_
      (first | refine wXB ?_ | exact wZB)
      refine factG (fun _ => rfl) (cloneI p.ia p.ic p.c.items hpo.ia hil) ?_ ?_
      · exact fun w hw => (hw.1.2 p hpm).2
      rintro ⟨ib, ic2⟩ ⟨hib, hic⟩
      (first | refine wXB ?_ | exact wZB)
      refine EffW.appTo (i := 5) (q := 4) (ys := [.slice (at0 ib) p.c.items.length ic2]) (cellC ⟨p.c, at0 nb, nc2, at0 ib, ic2⟩) 5 rfl rfl rfl rfl rfl rfl rfl (Nat.le_of_ble_eq_true rfl) rfl rfl ?_
      (first | refine wXB ?_ | exact wZB)
      refine LdN.one (a := some ⟨cb, 0, none⟩) (q := 4) (.slice (at0 ib) p.c.items.length ic2) rfl (fun w hw => hw.2.2.2.2.2.1) rfl ?_
      (first | refine wXB ?_ | exact wZB)
      refine LoopN.intro Nat (fun t => t ≤ p.c.items.length)
        (fun t => mkS Tryz.f60.ntmps 0 [(0, .c (.v (.slice a l.length ca))), (6, .c (.v (.map (some mb)))), (9, .c (.v (.slice oa m.length oc))), (12, .c (.v (.pointer (some ⟨cb, 0, none⟩)))), (30, .c (.v (.slice ra L.length rc))), (31, .c (.v (.int .i64 (L.length : Int)))), (32, .c (.v (.int .i64 (j : Int)))), (49, .c (.v (.slice (at0 ib) p.c.items.length ic2))), (50, .c (.v (.int .i64 (p.c.items.length : Int)))), (51, .c (.v (.int .i64 (t : Int))))])
        (fun t => [.fact (GrF a l), .fact G1, .mp mb es c, .app 42 5 (grC m) oa m.length oc, famE (rowsG m), .app 42 5 (cellC ⟨p.c, at0 nb, nc2, at0 ib, ic2⟩) (some ⟨cb, 0, none⟩) 1 1, .app 9 1 (strC p.c.names) (at0 nb) p.c.names.length nc2, .app 3 1 (iC (mixI (place L) t p.c.items)) (at0 ib) p.c.items.length ic2]) (fun t => p.c.items.length - t) [] rfl (fun _ => rfl) (fun _ => rfl) (fun _ _ => okHB_eq rfl) ?_ ?_
      · refine ⟨0, Nat.zero_le _, ?_, wkE_refl _, wkE_refl _, wkE_refl _, wkE_refl _, wkE_refl _, wkE_refl _, wkE_refl _, ?_, trivial⟩
        · (repeat' (first | exact trivial | refine And.intro (by with_reducible rfl) ?_ | (with_reducible exact wkC_refl _) | (with_reducible exact wkCs_refl _) | refine And.intro ?_ ?_))
          all_goals rfl
        · rw [mixI_zero]; exact wkE_refl _
      intro t ht
      (first | refine wXB ?_ | exact wZB)
      refine brd_dec (fun h3 => ?_) (fun h3 => ?_)
      · obtain ⟨y, hy⟩ : ∃ y, p.c.items[t]? = some y := ⟨_, List.getElem?_eq_getElem (by omega)⟩
        obtain ⟨ib, rfl⟩ : ∃ b, ib = some b := by
          cases ib with
          | none => rw [hib rfl] at hy; cases hy
          | some b => exact ⟨b, rfl⟩
        have hyL : y ∈ L := hLc (k : Int) hxL y (by unfold outs; rw [hat]; exact List.mem_of_getElem? hy)
        have hms : mixI (place L) (t + 1) p.c.items = (mixI (place L) t p.c.items).set t (place L y) := by
          unfold mixI
          rw [← mix_set (f := place L) hy]
        have hset : (iC (mixI (place L) t p.c.items)).set t (.int .i64 (place L y)) = iC (mixI (place L) (t + 1) p.c.items) := by
          rw [hms]
          unfold iC
          rw [List.map_set]
        have hq1 : t + 1 ≤ p.c.items.length * 1 := by omega
        have hq2 : t < (iC (mixI (place L) t p.c.items)).length := by unfold iC; rw [List.length_map, mixI_len]; omega
        (first | refine wXB ?_ | exact wZB)
        refine Nd.mk ⟨rfl, by omega, by omega⟩ ?_
        (first | refine wXB ?_ | exact wZB)
        refine LdN.one (.int .i64 y) rfl (fun w hw => hw.2.2.2.2.2.2.2.1) (by rw [Int.toNat_natCast]; show (iC (mixI (place L) t p.c.items))[t * 1]? = _; rw [Nat.mul_one]; exact iC_get (by unfold mixI; rw [mix_get (by omega)]; exact hy)) ?_
        (first | refine wXB ?_ | exact wZB)
        refine LdN.one (a := some ⟨cb, 0, none⟩) (q := 4) (.slice (at0 (some ib)) p.c.items.length ic2) rfl (fun w hw => hw.2.2.2.2.2.1) rfl ?_
        (first | refine wXB ?_ | exact wZB)
        refine ReadW.keyMap (et := 3) (p := y) R rfl (by kernel_rfl) intT rfl rfl rfl rfl (fun w hw => hw.2.2.1) hR ?_
        rw [hval y hyL, Option.getD_some]
        (first | refine wXB ?_ | exact wZB)
        refine Nd.mk ⟨rfl, by omega, by omega⟩ ?_
        (first | refine wXB ?_ | exact wZB)
        refine EffW.appTo (i := 7) (q := t) (ys := [.int .i64 (place L y)]) (iC (mixI (place L) (t + 1) p.c.items)) 1 rfl ?_ rfl rfl rfl rfl rfl hq1 (by rw [put_set _ hq2]; exact hset) rfl ?_
        · rw [Int.toNat_natCast]
          show AV.c (CV.v (Value.pointer (some (((⟨ib, 0, none⟩ : Addr)).add (t * 1))))) = _
          rw [Nat.mul_one]
          exact congrArg (fun x => AV.c (CV.v (Value.pointer (some x)))) (add_lit0 ib t)
        (first | refine wXB ?_ | exact wZB)
        refine ⟨t + 1, by omega, by omega, ?_, wkE_refl _, wkE_refl _, wkE_refl _, wkE_refl _, wkE_refl _, wkE_refl _, wkE_refl _, wkE_refl _, trivial⟩
        (repeat' (first | exact trivial | refine And.intro (by with_reducible rfl) ?_ | (with_reducible exact wkC_refl _) | (with_reducible exact wkCs_refl _) | refine And.intro ?_ ?_))
        all_goals first | rfl | exact av_int (by rw [wrap_i64 (by omega)]; omega)
      · obtain rfl : t = p.c.items.length := by omega
        rw [mixI_all]
        (first | refine wXB ?_ | exact wZB)
        refine LdN.agg (a := some ⟨cb, 0, none⟩) (q := 0) (cellC ⟨p.c, at0 nb, nc2, at0 ib, ic2⟩) rfl (fun w hw => hw.2.2.2.2.2.1) rfl (fun q hq => by rw [Nat.zero_add]) ?_
        (first | refine wXB ?_ | exact wZB)
        refine Nd.mk ⟨Nat.le_refl 1, rfl, rfl⟩ ?_
        (conv => whnf)
        have hnr : reNum (place L) p.c = { p.c with items := p.c.items.map (place L) } := rfl
        have hcc : cellC ⟨p.c, at0 nb, nc2, at0 ib, ic2⟩ = cellC ⟨reNum (place L) p.c, at0 nb, nc2, at0 ib, ic2⟩ := by
          unfold cellC reNum
          simp only [List.length_map]
        refine AppN.grow 3 (grC m) (cellC ⟨p.c, at0 nb, nc2, at0 ib, ic2⟩) rfl rfl ⟨Nat.le_refl 1, ⟨by show (m.length + 1) * 80 ≤ _; omega, by omega⟩, by decide⟩ fun ob2 oc2 hoc2 _ => ?_
        (first | refine wXB ?_ | exact wZB)
        obtain ⟨q, hq⟩ : ∃ q : CellP, q = ⟨reNum (place L) p.c, at0 nb, nc2, at0 ib, ic2⟩ := ⟨_, rfl⟩
        have hm2 : m.length + 1 = (m ++ [q]).length := by simp
        have hg2 := grC_snoc m q
        have hqr : rowsP q = optRow 9 1 p.c.names.length (strC p.c.names) nb nc2 ++ optRow 3 1 p.c.items.length (iC (p.c.items.map (place L))) ib ic2 := by
          rw [hq]
          unfold rowsP optRow reNum
          simp only [List.length_map]
          cases nb <;> cases ib <;> rfl
        have hrw := rowsG_snoc m q
        rw [hqr] at hrw
        have hp1 : (optRow 9 1 p.c.names.length (strC p.c.names) nb nc2 ++ rowsG m).Perm (rowsG m ++ optRow 9 1 p.c.names.length (strC p.c.names) nb nc2) := List.perm_append_comm
        have hp2 : (optRow 3 1 p.c.items.length (iC (p.c.items.map (place L))) ib ic2 ++ (rowsG m ++ optRow 9 1 p.c.names.length (strC p.c.names) nb nc2)).Perm (rowsG (m ++ [q])) := by
          rw [hrw, ← List.append_assoc (rowsG m)]
          exact List.perm_append_comm
        rw [hcc, ← hq, ← hg2, hm2]
        refine ⟨⟨j + 1, some ⟨ob2, 0, none⟩, oc2, m ++ [q]⟩, ⟨by omega, (fun h => by cases h), ?_, ?_, ?_, by omega⟩, by show L.length - (j + 1) < L.length - j; omega, ?_, _, ((famPutO 4 6 nb rfl rfl rfl hp1).trans (famPutO 4 7 ib rfl rfl rfl hp2)).s, wkE_refl _, wkE_refl _, wkE_refl _, wkE_refl _, wkE_refl _, trivial⟩
        · rw [List.take_add_one, hx, List.map_append, hmc, List.map_append]
          show _ ++ [q.c] = _ ++ [reNum (place L) (at_ (l.map (·.c)) (k : Int))]
          rw [hat, hq]
        · intro r hr
          rcases List.mem_append.1 hr with hr | hr
          · exact hmo r hr
          · rw [List.mem_singleton.1 hr, hq]
            exact ⟨fun h => hnb (by cases nb with | none => rfl | some b => cases h), fun h => by
              have : p.c.items = [] := hib (by cases ib with | none => rfl | some b => cases h)
              show (reNum (place L) p.c).items = []
              rw [hnr, this]; rfl, hpo.nl, by show (reNum (place L) p.c).items.length ≤ _; rw [hnr]; simp only [List.length_map]; omega, hpo.nw, hpo.tl, hnc, by show (reNum (place L) p.c).items.length ≤ ic2; rw [hnr]; simp only [List.length_map]; exact hic⟩
        · intro r hr
          rcases List.mem_append.1 hr with hr | hr
          · exact hmw r hr
          · rw [List.mem_singleton.1 hr, hq]
            exact ⟨fun ad h => by cases nb with | none => cases h | some b => cases h; rfl, fun ad h => by cases ib with | none => cases h | some b => cases h; rfl⟩
        · (repeat' (first | exact trivial | refine And.intro (by with_reducible rfl) ?_ | (with_reducible exact wkC_refl _) | (with_reducible exact wkCs_refl _) | refine And.intro ?_ ?_))
          all_goals first | rfl | exact av_int (by rw [wrap_i64 (by omega)]; omega)
    · obtain rfl : j = L.length := by omega
      rw [List.take_length] at hmc
      (first | refine wX ?_ | exact wZ)
      exact ⟨⟨0, oa, oc, m⟩, ⟨hoa, hmc, hmo, hmw, hoc⟩, rfl, trivial, trivial, trivial, wkE_refl _, wkE_refl _, trivial⟩
end Go.Proofs.YtahjbnfbilkbcaaGreatDoor

/-
  Contract: the document's list of pairs (equal).
-/
namespace Go.Core
/-- A pair's place among all. -/
def idxP (n : Nat) (p : Int × Int) : Nat := p.1.toNat * n + p.2.toNat
theorem idxP_lt {g : List Cell} {p : Int × Int} (h : InP g p) : idxP g.length p < g.length * g.length := by
  obtain ⟨⟨h1, h2⟩, h3, h4⟩ := h
  unfold idxP
  have : (p.1.toNat + 1) * g.length ≤ g.length * g.length := Nat.mul_le_mul_right _ (by omega)
  rw [Nat.add_mul, Nat.one_mul] at this
  omega
theorem idxP_inj {g : List Cell} {p q : Int × Int} (hp : InP g p) (hq : InP g q) (h : idxP g.length p = idxP g.length q) : p = q := by
  obtain ⟨⟨a1, a2⟩, a3, a4⟩ := hp
  obtain ⟨⟨b1, b2⟩, b3, b4⟩ := hq
  unfold idxP at h
  have m1 : (p.1.toNat * g.length + p.2.toNat) % g.length = p.2.toNat := by rw [Nat.mul_add_mod_self_right]; exact Nat.mod_eq_of_lt (by omega)
  have m2 : (q.1.toNat * g.length + q.2.toNat) % g.length = q.2.toNat := by rw [Nat.mul_add_mod_self_right]; exact Nat.mod_eq_of_lt (by omega)
  have hz : p.2.toNat = q.2.toNat := by rw [← m1, ← m2, h]
  have hx : p.1.toNat = q.1.toNat := Nat.eq_of_mul_eq_mul_right (show 0 < g.length by omega) (by omega)
  exact Prod.ext (by omega) (by omega)
/-- Which pairs were seen. -/
structure SeenS (g : List Cell) (l : List (Int × Int)) (S : List Bool) : Prop where
  len : S.length = g.length * g.length
  get : ∀ p, InP g p → S[idxP g.length p]? = some (decide (p ∈ l))
theorem SeenS.none (g : List Cell) : SeenS g [] (List.replicate (g.length * g.length) false) := ⟨by simp, fun p hp => by rw [List.getElem?_replicate, if_pos (idxP_lt hp)]; simp⟩
theorem SeenS.put {g : List Cell} {l : List (Int × Int)} {S : List Bool} (h : SeenS g l S) {p : Int × Int} (hp : InP g p) : SeenS g (l ++ [p]) (S.set (idxP g.length p) true) := by
  refine ⟨by rw [List.length_set, h.len], fun q hq => ?_⟩
  by_cases e : q = p
  · subst e
    rw [List.getElem?_set_self (by rw [h.len]; exact idxP_lt hq)]
    simp
  · rw [List.getElem?_set_ne (fun he => e (idxP_inj hp hq he).symm), h.get q hq]
    simp [e]
end Go.Core
namespace Go.Proofs.YtahjbnfbilkbcaaGreatDoor
open Go.AX Go.RowKit Go.Core
set_option maxRecDepth 20000

end Go.Proofs.YtahjbnfbilkbcaaGreatDoor

/-
  Contracts: OneKey, Equal (document), OneKey (program); CoreEquals (law).
-/
namespace Go.Core
theorem ask2 {g : List Cell} {u v : Int} : AskP g [u, v] ↔ AskP g [u] ∧ AskP g [v] := by
  constructor
  · intro h
    exact ⟨⟨h.1, fun x hx => h.2 x (by rw [List.mem_singleton.1 hx]; simp)⟩, h.1, fun x hx => h.2 x (by rw [List.mem_singleton.1 hx]; simp)⟩
  · intro ⟨h1, h2⟩
    refine ⟨h1.1, fun x hx => ?_⟩
    rcases List.mem_cons.1 hx with rfl | hx
    · exact h1.2 x (by simp)
    · exact h2.2 x hx
end Go.Core
namespace Go.Proofs.YtahjbnfbilkbcaaGreatDoor
open Go.AX Go.RowKit Go.Core
set_option maxRecDepth 20000

theorem ask_bool (g : List Cell) (cs : List Int) : ∃ b : Bool, b = true ↔ AskP g cs := by
  by_cases h : AskP g cs
  · exact ⟨true, fun _ => h, fun _ => rfl⟩
  · exact ⟨false, (fun h => by cases h), fun h2 => absurd h2 h⟩
end Go.Proofs.YtahjbnfbilkbcaaGreatDoor

/-
  Contracts: Reach, Circular, Depth (program).
-/
namespace Go.Proofs.YtahjbnfbilkbcaaGreatDoor
open Go.AX Go.RowKit Go.Core
set_option maxRecDepth 20000

end Go.Proofs.YtahjbnfbilkbcaaGreatDoor

/-
  Contract: Copy (program), with memory of the caller's own.
-/
namespace Go.Proofs.YtahjbnfbilkbcaaGreatDoor
open Go.AX Go.RowKit Go.Core
set_option maxRecDepth 20000

end Go.Proofs.YtahjbnfbilkbcaaGreatDoor

/-
  Contracts: what is reached, whether a circle is, how deep (document).
-/
namespace Go.Proofs.YtahjbnfbilkbcaaGreatDoor
open Go.AX Go.RowKit Go.Core
set_option maxRecDepth 20000

end Go.Proofs.YtahjbnfbilkbcaaGreatDoor

/-
  Contract: whether a circle is reached (document).
-/
namespace Go.Core
end Go.Core
namespace Go.Proofs.YtahjbnfbilkbcaaGreatDoor
open Go.AX Go.RowKit Go.Core
set_option maxRecDepth 20000

end Go.Proofs.YtahjbnfbilkbcaaGreatDoor

/-
  Contract: how deep (document).
-/
namespace Go.Core
/-- What is known already. -/
def KnD (g : List Cell) (S : List Int) : Prop := S.length = g.length ∧ ∀ (j : Nat) (v : Int), S[j]? = some v → v = 0 ∨ (v = (dep g (j : Int) : Int) ∧ 0 < v)
theorem KnD.none (g : List Cell) : KnD g (List.replicate g.length 0) := ⟨by simp, fun j v h => by
  rw [List.getElem?_replicate] at h
  split at h
  · exact .inl (Option.some.inj h).symm
  · cases h⟩
theorem KnD.put {g : List Cell} {S : List Int} (h : KnD g S) {i : Nat} (hp : 0 < dep g (i : Int)) : KnD g (S.set i (dep g (i : Int) : Int)) := by
  refine ⟨by rw [List.length_set, h.1], fun j v hj => ?_⟩
  by_cases e : i = j
  · subst e
    rw [List.getElem?_set] at hj
    simp only [if_true] at hj
    split at hj
    · cases hj; exact .inr ⟨rfl, by omega⟩
    · cases hj
  · rw [List.getElem?_set_ne e] at hj
    exact h.2 j v hj
end Go.Core
namespace Go.Proofs.YtahjbnfbilkbcaaGreatDoor
open Go.AX Go.RowKit Go.Core
set_option maxRecDepth 20000

end Go.Proofs.YtahjbnfbilkbcaaGreatDoor

/-
  Contracts: Reach, Circular, Depth (document); CoreReaches (law).
-/
namespace Go.Proofs.YtahjbnfbilkbcaaGreatDoor
open Go.AX Go.RowKit Go.Core
set_option maxRecDepth 20000

end Go.Proofs.YtahjbnfbilkbcaaGreatDoor

/-
  Contract: own, copied, Copy (document), with memory of the caller's own.
-/
namespace Go.Proofs.YtahjbnfbilkbcaaGreatDoor
open Go.AX Go.RowKit Go.Core
set_option maxRecDepth 20000

end Go.Proofs.YtahjbnfbilkbcaaGreatDoor

/-
  Contract: Copy (document), with memory of the caller's own.
-/
namespace Go.Proofs.YtahjbnfbilkbcaaGreatDoor
open Go.AX Go.RowKit Go.Core
set_option maxRecDepth 20000

end Go.Proofs.YtahjbnfbilkbcaaGreatDoor

/-
  Contracts: Own, Join (document), with memory of the caller's own.
-/
namespace Go.Proofs.YtahjbnfbilkbcaaGreatDoor
open Go.AX Go.RowKit Go.Core
set_option maxRecDepth 20000

end Go.Proofs.YtahjbnfbilkbcaaGreatDoor

/-
  AX, fifty-seventh text: append(nil, make([]T, k)...) for any T; what is known of the new row is its room.
-/
namespace Go.AX
open Go.RowKit

theorem EffW.zerosNew {P : Program} {o : Oper} {s : List AV} {H : List Ent} {K : AV → List Ent → Prop} {T U e : TypeId} {x y : Operand} {args : Array Operand} {ts : Array TypeId} {kn : IntKind} {z : Int} {inf : TypeInfo} {z0 : Value} {sz : Nat} (i k : Nat)
    (ho : o.op = .call { callee := .builtin .append, args := args, argTypes := ts }) (ha : args.toList = [x, y]) (ht : ts.toList = [T, U])
    (hT : P.underlying T = some (.slice e)) (hU : P.underlying U = some (.int kn)) (hi : P.info? e = some inf) (hz0 : inf.zero = some z0) (hs0 : inf.size = sz) (hzs : z0.cells.size = sz) (h0 : 0 < sz) (hby : inf.bytes ≤ 1000)
    (hx : opv s x = .c (.v (.slice none 0 0))) (hy : opv s y = .c (.v (.int .i64 z))) (hz : z = k) (he : nthE H i = some (.app e sz [] none 0 0)) (room : 1 ≤ k ∧ k ≤ 1000000)
    (next : ∀ b cap' : Nat, k ≤ cap' → setEK H i (.app e sz [] (some ⟨b, 0, none⟩) 0 cap') fun H' => K (.c (.v (.slice (some ⟨b, 0, none⟩) k cap'))) H') : EffW P o s H K := by
  subst hz
  intro ρ S w ac hs hr
  rw [nthE_eq] at he
  have e1 : args = #[x, y] := by rw [← Array.toArray_toList (xs := args), ha]
  have e2 : ts = #[T, U] := by rw [← Array.toArray_toList (xs := ts), ht]
  subst e1; subst e2
  have hxr := opv_rel hr x
  have hyr := opv_rel hr y
  rw [hx] at hxr; rw [hy] at hyr
  have hx2 : ac.eval x = .slice none 0 0 := hxr
  have hy2 : ac.eval y = .int .i64 k := hyr
  have hexec : ∀ v' w', (Builtin.append_ #[T, U] o.type #[.slice none 0 0, .int .i64 k]).run P w = .ok v' w' → (execOp ac.eval o).run P w = .ok (.value v') w' := fun v' w' hrun => by
    unfold execOp
    simp only [ho, resolve, invoke, builtin, Sem.run_bind, Sem.run_pure, Result.andThen_ok, List.map_toArray, List.map_cons, List.map_nil, hx2, hy2, hrun]
  have hmul : k * inf.bytes ≤ 1000000 * 1000 := Nat.mul_le_mul room.2 hby
  have hge := grownCap_ge w (0 + k) 0 e
  have hgm := grownCap_le_maxLen w (0 + k) 0 e (by simp only [maxLen]; omega)
  have hrun := Lib.run_append_grow_zeros (P := P) w T U o.type e inf z0 .i64 kn hT hU hi hz0 none 0 0 [] (run_firstCells_none _ _ _ _ _) k (by omega) (by omega) (by omega) (by omega) (by omega) (growslice_fits (by omega) (by rw [Nat.zero_add]; omega))
  generalize grownCap w (0 + k) 0 e = c at hrun hge hgm
  rw [Nat.zero_add] at hrun hge
  obtain ⟨hilt, hk⟩ := setEK_spec (next w.heap.size c hge)
  have hS := hs.setNil (e' := .app e sz [] (some ⟨w.heap.size, 0, none⟩) 0 c) he (fun _ h => by cases h) (w' := w.drew.alloc (.cells (([] : List Value).toArray ++ Builtin.zeroCells z0.cells k ++ Builtin.zeroCells z0.cells (c - k)) e)) rfl rfl rfl rfl (fun b hb => (Option.some.inj hb).symm)
    (.inr ⟨_, rfl, _, (0, 0), ⟨heap_alloc_new w.drew _, .inl rfl⟩, by simp, Nat.zero_le _, hgm, by
      simp only [Array.size_append, size_zeroCells, hzs]
      show 0 + k * sz + (c - k) * sz = c * sz
      rw [Nat.zero_add, ← Nat.add_mul]
      congr 1
      omega, by simp⟩)
  exact ⟨_, _, hk, _, _, _, _, hexec _ _ hrun, .inl rfl, hS.1, hS.2, rfl⟩
end Go.AX

/-
  Contracts: slices.Grow of nothing, slices.Concat of two graphs (program).
-/
namespace Go.Proofs.YtahjbnfbilkbcaaGreatDoor
open Go.AX Go.RowKit Go.Core
set_option maxRecDepth 20000

set_option maxHeartbeats 4000000 in
theorem grow_o (n : Nat) (hn : n ≤ 4000) : SpecH Tryz.prog 108 (pvs [.slice none 0 0, .int .i64 (n : Int)]) [.app 42 5 [] none 0 0] (RetG (ι := Option Nat × Nat) (fun o => o.1 = none → n = 0) (fun o => .slice (at0 o.1) 0 o.2) (fun o => [.app 42 5 [] (at0 o.1) 0 o.2])) := by
  refine ownC hm Tryz.func108 (by kernel_rfl) rfl rfl (fun _ _ => okHB_eq rfl) (fun _ _ => by show 1 ≤ 1; decide) ?_
  (first | refine wX ?_ | exact wZ)
  have hw0 : IntKind.i64.wrap ((n : Int) - IntKind.i64.wrap (((0 : Nat) : Int) - ((0 : Nat) : Int))) = (n : Int) := by
    rw [wrap_i64 (x := ((0 : Nat) : Int) - ((0 : Nat) : Int)) (by omega), wrap_i64 (by omega)]
    omega
  refine brd_dec (fun h1 => ?_) (fun h1 => ?_)
  · rw [hw0] at h1
    (first | refine wX ?_ | exact wZ)
    refine ReadW.slc_hi rfl (by kernel_rfl) rfl rfl (by omega) ?_
    (first | refine wX ?_ | exact wZ)
    refine EffW.zerosNew (kn := .i64) (z0 := .agg #[.int .i64 0, .int .i64 0, .string ⟨#[]⟩, .slice none 0 0, .slice none 0 0]) (sz := 5) 0 n rfl rfl rfl (by kernel_rfl) (by kernel_rfl) rfl rfl rfl rfl (by decide) (by decide) rfl rfl hw0 rfl ⟨by omega, by omega⟩ fun gb gc hgc => ?_
    (first | refine wX ?_ | exact wZ)
    refine ReadW.slc_hi rfl (by kernel_rfl) rfl rfl (by omega) ?_
    (first | refine wX ?_ | exact wZ)
    exact ⟨(some gb, gc), (fun h => by cases h), rfl, wkE_refl _, trivial⟩
  · (first | refine wX ?_ | exact wZ)
    exact ⟨(none, 0), (fun _ => by rw [hw0] at h1; omega), rfl, wkE_refl _, trivial⟩
/-- The first graphs, one behind the other. -/
def catG (l m : List CellP) (i : Nat) : List CellP := match i with | 0 => [] | 1 => [] ++ l | _ => [] ++ l ++ m
theorem catG_le (l m : List CellP) (i : Nat) (hl : l.length ≤ 2000) (hm : m.length ≤ 2000) : (catG l m i).length ≤ 4000 := by
  unfold catG
  split <;> simp <;> omega
def twoS (a b : Option Addr) (n m ca cb : Nat) : List Value := [.slice a n ca, .slice b m cb]
set_option maxHeartbeats 4000000 in
theorem concat_o (xb : Nat) (a b : Option Addr) (ca cb : Nat) (l m : List CellP) (ha : a = none → l = []) (hb : b = none → m = []) (hl : l.length ≤ 2000) (hml : m.length ≤ 2000) : SpecH Tryz.prog 72 (pvs [.slice (some ⟨xb, 0, none⟩) 2 2]) [.fact (fun w => SlAt (some ⟨xb, 0, none⟩) 2 (twoS a b l.length m.length ca cb) w ∧ SlAt a (l.length * 5) (grC l) w ∧ SlAt b (m.length * 5) (grC m) w)]
    (RetG (ι := Option Nat × Nat) (fun o => (o.1 = none → l ++ m = []) ∧ (l ++ m).length ≤ o.2) (fun o => .slice (at0 o.1) (l ++ m).length o.2) (fun o => [.dead, .app 42 5 (grC (l ++ m)) (at0 o.1) (l ++ m).length o.2])) := by
  refine SpecH.pad [.app 42 5 [] none 0 0] rfl ?_
  refine ownC hm Tryz.func72 (by kernel_rfl) rfl rfl (fun _ _ => okHB_eq rfl) (fun _ _ => by show 2 ≤ 2; decide) ?_
  (first | refine wX ?_ | exact wZ)
  have hXY : ∀ (i : Nat), i < 2 → ∃ (s : Option Addr) (g : List CellP) (c : Nat), (twoS a b l.length m.length ca cb)[i]? = some (.slice s g.length c) ∧ (s = none → g = []) ∧ g.length ≤ 2000 ∧ catG l m (i + 1) = catG l m i ++ g ∧ ∀ w, (SlAt (some ⟨xb, 0, none⟩) 2 (twoS a b l.length m.length ca cb) w ∧ SlAt a (l.length * 5) (grC l) w ∧ SlAt b (m.length * 5) (grC m) w) → SlAt s (g.length * 5) (grC g) w := fun i hi => by
    have hi2 : i = 0 ∨ i = 1 := by omega
    rcases hi2 with rfl | rfl
    · exact ⟨a, l, ca, rfl, ha, hl, rfl, fun w hw => hw.2.1⟩
    · exact ⟨b, m, cb, rfl, hb, hml, rfl, fun w hw => hw.2.2⟩
  refine loopS Nat (fun i => i ≤ 2) (fun i => mkS Tryz.f72.ntmps 0 [(0, .c (.v (.slice (some ⟨xb, 0, none⟩) 2 2))), (2, .c (.v (.slice none 0 0))), (3, .c (.v (.int .i64 ((catG l m i).length : Int)))), (9, .c (.v (.slice (some ⟨xb, 0, none⟩) 2 2))), (10, .c (.v (.int .i64 ((2 : Nat) : Int)))), (11, .c (.v (.int .i64 (i : Int))))]) (fun i => 2 - i) rfl (fun _ => rfl) 0 (Nat.zero_le _) ?_ ?_
  · (repeat' (first | exact trivial | refine And.intro (by with_reducible rfl) ?_ | (with_reducible exact wkC_refl _) | (with_reducible exact wkCs_refl _) | refine And.intro ?_ ?_))
    all_goals rfl
  intro i hi
  have hcl : (catG l m i).length ≤ 4000 := catG_le l m i hl hml
  (first | refine wX ?_ | exact wZ)
  refine brd_dec (fun h1 => ?_) (fun h1 => ?_)
  · obtain ⟨s, g, c, h2, h3, h4, h5, h6⟩ := hXY i (by omega)
    have hcl2 : (catG l m (i + 1)).length = (catG l m i).length + g.length := by rw [h5, List.length_append]
    (first | refine wX ?_ | exact wZ)
    refine Nd.mk ⟨rfl, by omega, by omega⟩ ?_
    (first | refine wX ?_ | exact wZ)
    refine LdN.one (.slice s g.length c) rfl (fun w hw => hw.1.1) (by rw [Int.toNat_natCast]; show (twoS a b l.length m.length ca cb)[i * 1]? = _; rw [Nat.mul_one]; exact h2) ?_
    (first | refine wX ?_ | exact wZ)
    refine ⟨i + 1, by omega, by omega, ?_, by (repeat' (first | exact trivial | exact wkE_refl _ | refine And.intro ?_ ?_))⟩
    (repeat' (first | exact trivial | refine And.intro (by with_reducible rfl) ?_ | (with_reducible exact wkC_refl _) | (with_reducible exact wkCs_refl _) | refine And.intro ?_ ?_))
    all_goals first | rfl | exact av_int (by rw [wrap_i64 (by omega)]; omega) | exact av_int (by omega)
  · obtain rfl : i = 2 := by omega
    (first | refine wX ?_ | exact wZ)
    refine callG (grow_o (catG l m 2).length hcl) [1] rfl ⟨rfl, trivial⟩ rfl fun o ho => ?_
    obtain ⟨ob, oc⟩ := o
    have ho : ob = none → catG l m 2 = [] := fun h => List.eq_nil_of_length_eq_zero (ho h)
    (first | refine wX ?_ | exact wZ)
    refine LoopN.intro (Nat × Option Nat × Nat) (fun ⟨i, ob, oc⟩ => i ≤ 2 ∧ (ob = none → catG l m 2 = []) ∧ (catG l m i).length ≤ oc) (fun ⟨i, ob, oc⟩ => mkS Tryz.f72.ntmps 0 [(6, .c (.v (.slice (at0 ob) (catG l m i).length oc))), (25, .c (.v (.slice (some ⟨xb, 0, none⟩) 2 2))), (26, .c (.v (.int .i64 ((2 : Nat) : Int)))), (27, .c (.v (.int .i64 (i : Int))))])
      (fun ⟨i, ob, oc⟩ => [.fact (fun w => SlAt (some ⟨xb, 0, none⟩) 2 (twoS a b l.length m.length ca cb) w ∧ SlAt a (l.length * 5) (grC l) w ∧ SlAt b (m.length * 5) (grC m) w), .app 42 5 (grC (catG l m i)) (at0 ob) (catG l m i).length oc]) (fun ⟨i, _, _⟩ => 2 - i) [] rfl (fun ⟨_, _, _⟩ => rfl) (fun ⟨_, _, _⟩ => rfl) (fun ⟨_, _, _⟩ _ => okHB_eq rfl) ?_ ?_
    · refine ⟨(0, ob, oc), ⟨Nat.zero_le _, ho, Nat.zero_le _⟩, ?_, wkE_refl _, wkE_refl _, trivial⟩
      (repeat' (first | exact trivial | refine And.intro (by with_reducible rfl) ?_ | (with_reducible exact wkC_refl _) | (with_reducible exact wkCs_refl _) | refine And.intro ?_ ?_))
      all_goals rfl
    rintro ⟨i, ob, oc⟩ ⟨hi, ho, hoc⟩
    have hcl : (catG l m i).length ≤ 4000 := catG_le l m i hl hml
    (first | refine wX ?_ | exact wZ)
    refine brd_dec (fun h1 => ?_) (fun h1 => ?_)
    · obtain ⟨s, g, c, h2, h3, h4, h5, h6⟩ := hXY i (by omega)
      have hcl2 : (catG l m (i + 1)).length = (catG l m i).length + g.length := by rw [h5, List.length_append]
      (first | refine wX ?_ | exact wZ)
      refine Nd.mk ⟨rfl, by omega, by omega⟩ ?_
      (first | refine wX ?_ | exact wZ)
      refine LdN.one (.slice s g.length c) rfl (fun w hw => hw.1.1) (by rw [Int.toNat_natCast]; show (twoS a b l.length m.length ca cb)[i * 1]? = _; rw [Nat.mul_one]; exact h2) ?_
      (conv => whnf)
      have hgr : grC (catG l m i) ++ grC g = grC (catG l m (i + 1)) := by rw [h5]; unfold grC; rw [List.flatMap_append]
      cases ob with
      | none =>
        have h0 : [] ++ l ++ m = [] := ho rfl
        have hl0 : l = [] := by simp at h0; exact h0.1
        have hm0 : m = [] := by simp at h0; exact h0.2
        have hc0 : ∀ j, catG l m j = [] := fun j => by rw [hl0, hm0]; unfold catG; split <;> rfl
        have hg0 : g = [] := by rw [hc0, hc0] at h5; simpa using h5.symm
        have hci := hc0 i
        have hci1 := hc0 (i + 1)
        rw [hg0, hci]
        (first | refine wX ?_ | exact wZ)
        refine Nd.mk (Nat.zero_le _) ?_
        (first | refine wX ?_ | exact wZ)
        refine ⟨(i + 1, none, oc), ⟨by omega, fun _ => hc0 2, by rw [hci1]; exact Nat.zero_le _⟩, by show 2 - (i + 1) < 2 - i; omega, ?_, wkE_refl _, ?_, trivial⟩
        · (repeat' (first | exact trivial | refine And.intro (by with_reducible rfl) ?_ | (with_reducible exact wkC_refl _) | (with_reducible exact wkCs_refl _) | refine And.intro ?_ ?_))
          all_goals first | rfl | exact av_int (by rw [wrap_i64 (by omega)]; omega) | exact congrArg (fun n : Nat => AV.c (CV.v (Value.slice none n oc))) (by rw [hci1])
        · rw [hci1]; exact wkE_refl _
      | some ob =>
        refine app_any 1 (grC (catG l m i)) (grC g) rfl hoc (fun h => by cases s with | none => rw [h3 rfl] at h; cases h | some b => rfl) (grC_len g) (gr_one g) (fun w hw j v hv => (h6 w hw.1).cell hv) ⟨⟨by show ((catG l m i).length + g.length) * 80 ≤ _; omega, by omega⟩, by decide⟩ fun b2 c2 hc2 => ?_
        rw [hgr, ← hcl2]
        (first | refine wX ?_ | exact wZ)
        refine ⟨(i + 1, some b2, c2), ⟨by omega, (fun h => by cases h), by omega⟩, by show 2 - (i + 1) < 2 - i; omega, ?_, wkE_refl _, wkE_refl _, trivial⟩
        (repeat' (first | exact trivial | refine And.intro (by with_reducible rfl) ?_ | (with_reducible exact wkC_refl _) | (with_reducible exact wkCs_refl _) | refine And.intro ?_ ?_))
        all_goals first | rfl | exact av_int (by rw [wrap_i64 (by omega)]; omega)
    · obtain rfl : i = 2 := by omega
      (first | refine wX ?_ | exact wZ)
      exact ⟨(ob, oc), ⟨ho, hoc⟩, rfl, trivial, wkE_refl _, trivial⟩
end Go.Proofs.YtahjbnfbilkbcaaGreatDoor

/-
  Contract: Join (program), with memory of the caller's own.
-/
namespace Go.Proofs.YtahjbnfbilkbcaaGreatDoor
open Go.AX Go.RowKit Go.Core
set_option maxRecDepth 20000

/-- How a cell's items are changed. -/
def shF (n j : Nat) (i : Int) : Int := if n ≤ j then i + (n : Int) else i
theorem join_get {l m : List CellP} {j : Nat} {p : CellP} (h : (l ++ m)[j]? = some p) : (joinS (l.map (·.c)) (m.map (·.c)))[j]? = some (reNum (shF l.length j) p.c) := by
  unfold joinS
  by_cases hj : j < l.length
  · rw [List.getElem?_append_left hj] at h
    have e : reNum (shF l.length j) p.c = p.c := by
      have e2 : shF l.length j = id := by
        funext i
        unfold shF
        rw [if_neg (by omega)]
        rfl
      rw [e2]
      unfold reNum
      simp
    rw [List.getElem?_append_left (by simpa using hj), List.getElem?_map, h, e]
    rfl
  · rw [List.getElem?_append_right (by omega)] at h
    have e2 : shF l.length j = fun i => i + ((l.map (·.c)).length : Int) := by
      funext i
      unfold shF
      rw [if_pos (by omega)]
      simp
    rw [List.getElem?_append_right (by simp; omega), List.getElem?_map, List.getElem?_map]
    rw [show j - (l.map (·.c)).length = j - l.length by simp, h, e2]
    rfl
set_option maxHeartbeats 8000000 in
theorem Join_o {a b : Option Addr} (ca cb : Nat) {l m : List CellP} (ha : a = none → l = []) (hb : b = none → m = []) (hs : Small l) (ht : Small m) (hok : ∀ p ∈ l, CellOk p) (hom : ∀ p ∈ m, CellOk p) (hv : ValidP (l.map (·.c))) (hw : ValidP (m.map (·.c))) (h500 : l.length + m.length ≤ 500) :
    SpecH Tryz.prog 39 (pvs [.slice a l.length ca, .slice b m.length cb]) [.fact (fun w => GrF a l w ∧ GrF b m w)] (RetG (MInv (joinS (l.map (·.c)) (m.map (·.c)))) (fun st => .tuple #[.slice st.oa st.m.length st.oc, errI true]) (fun st => .dead :: .dead :: .dead :: ownN 42 st)) := by
  have hl := hs.1
  have hml := ht.1
  refine ownC hm Tryz.func39 (by kernel_rfl) rfl rfl (fun _ _ => okHB_eq rfl) (fun _ _ => by show 1 ≤ 5; decide) ?_
  (first | refine wX ?_ | exact wZ)
  obtain ⟨t, ht1, ht2⟩ := Check_c a ca l ha hs hok [.fact (fun w => GrF a l w ∧ GrF b m w)] (fun w hw => hw.1.1)
  obtain rfl : t = true := ht1.2 hv
  refine call1 ht2 ?_
  (first | refine wX ?_ | exact wZ)
  obtain ⟨t, ht3, ht4⟩ := Check_c b cb m hb ht hom [.fact (fun w => GrF a l w ∧ GrF b m w)] (fun w hw => hw.1.2)
  obtain rfl : t = true := ht3.2 hw
  refine call1 ht4 ?_
  ((conv => whnf); (repeat ((first | refine BoxN.own ?_ | refine VrN.norm (wrap_i64 (by omega)) ?_ | refine VrN.keep ?_ | refine DrawN.calm (by decide +kernel) ?_ | refine Nd.mk (by decide +kernel) ?_ | refine Nd.mk (by omega) ?_ | (refine Nd.mk ?_ ?_; focus ((repeat' (first | exact trivial | exact wkE_refl _ | refine And.intro ?_ ?_)); done)) | refine RdN.intro _ rfl (by rfl) ?_); (conv => whnf))))
  refine brd_dec (fun h => absurd h (by rw [wrap_i64 (by omega)]; omega)) (fun _ => ?_)
  have hgl : (l.map (·.c)).length = l.length := by simp
  have hin := valid_in hw
  ((conv => whnf); (repeat ((first | refine BoxN.own ?_ | refine VrN.norm (wrap_i64 (by omega)) ?_ | refine VrN.keep ?_ | refine DrawN.calm (by decide +kernel) ?_ | refine Nd.mk (by decide +kernel) ?_ | refine Nd.mk (by omega) ?_ | (refine Nd.mk ?_ ?_; focus ((repeat' (first | exact trivial | exact wkE_refl _ | refine And.intro ?_ ?_)); done)) | refine RdN.intro _ rfl (by rfl) ?_); (conv => whnf))))
  refine RwN.known [.slice a l.length ca, .slice b m.length cb] rfl fun xb => ?_
  ((conv => whnf); (repeat ((first | refine BoxN.own ?_ | refine VrN.norm (wrap_i64 (by omega)) ?_ | refine VrN.keep ?_ | refine DrawN.calm (by decide +kernel) ?_ | refine Nd.mk (by decide +kernel) ?_ | refine Nd.mk (by omega) ?_ | (refine Nd.mk ?_ ?_; focus ((repeat' (first | exact trivial | exact wkE_refl _ | refine And.intro ?_ ?_)); done)) | refine RdN.intro _ rfl (by rfl) ?_); (conv => whnf))))
  refine factG (fun _ => rfl) (concat_o xb a b ca cb l m ha hb hl hml) ?_ ?_
  · exact fun w hw => ⟨hw.2.1, hw.1.1.1, hw.1.2.1⟩
  rintro ⟨qb, qc⟩ ⟨hqb, hqc⟩
  have hLl : (l ++ m).length = l.length + m.length := List.length_append
  have hJl := join_len (l.map (·.c)) (m.map (·.c))
  rw [hgl, show (m.map (·.c)).length = m.length by simp] at hJl
  (first | refine wX ?_ | exact wZ)
  refine LoopN.introS DSt (fun ⟨j, oa, oc, g⟩ => j ≤ l.length + m.length ∧ (oa = none → g = []) ∧ g.map (·.c) = (joinS (l.map (·.c)) (m.map (·.c))).take j ∧ (∀ p ∈ g, CellOk p) ∧ (∀ p ∈ g, OwnP p) ∧ g.length ≤ oc)
    (fun ⟨j, oa, oc, g⟩ => mkS Tryz.f39.ntmps 0 [(0, .c (.v (.slice a l.length ca))), (1, .c (.v (.slice b m.length cb))), (6, .c (.v (.slice oa g.length oc))), (27, .c (.v (.slice (at0 qb) (l ++ m).length qc))), (28, .c (.v (.int .i64 ((l ++ m).length : Int)))), (29, .c (.v (.int .i64 (j : Int))))])
    (fun ⟨_, oa, oc, g⟩ => [.fact (fun w => GrF a l w ∧ GrF b m w), .dead, .app 42 5 (grC (l ++ m)) (at0 qb) (l ++ m).length qc, .app 42 5 (grC g) oa g.length oc, famE (rowsG g)]) (fun ⟨j, _, _, _⟩ => l.length + m.length - j) [.app 42 5 [] none 0 0, .dead] rfl (fun _ => rfl) (fun _ => rfl) (fun _ _ => ⟨trivial, trivial, trivial, trivial, trivial, trivial⟩) ?_ ?_
  · refine ⟨⟨0, none, 0, []⟩, ⟨Nat.zero_le _, fun _ => rfl, rfl, (fun p h => by cases h), (fun p h => by cases h), Nat.le_refl _⟩, ?_, _, (famNew 4 rfl).s, wkE_refl _, trivial, wkE_refl _, wkE_refl _, wkE_refl _, trivial⟩
    (repeat' (first | exact trivial | refine And.intro (by with_reducible rfl) ?_ | (with_reducible exact wkC_refl _) | (with_reducible exact wkCs_refl _) | refine And.intro ?_ ?_))
    all_goals rfl
  rintro ⟨j, oa, oc, g⟩ ⟨hj, hoa, hgc, hgo, hgw, hoc⟩
  have hgl2 : g.length = j := by
    have := congrArg List.length hgc
    simp only [List.length_map, List.length_take, hJl] at this
    omega
  (first | refine wX ?_ | exact wZ)
  refine brd_dec (fun h1 => ?_) (fun h1 => ?_)
  · obtain ⟨p, hp⟩ : ∃ p, (l ++ m)[j]? = some p := ⟨_, List.getElem?_eq_getElem (by omega)⟩
    have hpm := List.mem_of_getElem? hp
    have hpo : CellOk p := (List.mem_append.1 hpm).elim (hok p) (hom p)
    have hpF : ∀ w, GrF a l w ∧ GrF b m w → CellF p w := fun w hw => (List.mem_append.1 hpm).elim (fun h => hw.1.2 p h) (fun h => hw.2.2 p h)
    obtain ⟨hnl, hil⟩ : p.c.names.length ≤ 2000 ∧ p.c.items.length ≤ 2000 := (List.mem_append.1 hpm).elim (hs.2 p) (ht.2 p)
    have hsq : (at0 qb).isSome = true := by
      cases qb with
      | none => rw [hqb rfl] at hp; cases hp
      | some b => rfl
    (first | refine wX ?_ | exact wZ)
    refine Nd.mk ⟨hsq, by omega, by omega⟩ ?_
    (first | refine wX ?_ | exact wZ)
    refine LdN.agg (cellC p) rfl (fun w hw => hw.2.1) rfl (fun q hq => by rw [Int.toNat_natCast]; exact grC_get (l ++ m) j q hq hp) ?_
    (first | refine wXB ?_ | exact wZB)
    refine BoxN.known [.int .i64 0, .int .i64 0, .string { data := #[] }, .slice none 0 0, .slice none 0 0] rfl fun cb2 => ?_
    (first | refine wXB ?_ | exact wZB)
    refine EffW.appTo (i := 5) (q := 0) (ys := cellC p) (cellC p) 5 rfl rfl rfl rfl rfl rfl rfl (Nat.le_of_ble_eq_true rfl) rfl rfl ?_
    (first | refine wXB ?_ | exact wZB)
    refine LdN.one (a := some ⟨cb2, 0, none⟩) (q := 3) (.slice p.na p.c.names.length p.nc) rfl (fun w hw => hw.2.2.2.2.1) rfl ?_
    (first | refine wXB ?_ | exact wZB)
    refine factG (fun _ => rfl) (cloneT p.na p.nc p.c.names hpo.na hnl) ?_ ?_
    · exact fun w hw => (hpF w hw.1).1
    rintro ⟨nb, nc2⟩ ⟨hnb, hnc⟩
    (first | refine wXB ?_ | exact wZB)
    refine EffW.appTo (i := 5) (q := 3) (ys := [.slice (at0 nb) p.c.names.length nc2]) (cellC ⟨p.c, at0 nb, nc2, p.ia, p.ic⟩) 5 rfl rfl rfl rfl rfl rfl rfl (Nat.le_of_ble_eq_true rfl) rfl rfl ?_
    (first | refine wXB ?_ | exact wZB)
    refine LdN.one (a := some ⟨cb2, 0, none⟩) (q := 4) (.slice p.ia p.c.items.length p.ic) rfl (fun w hw => hw.2.2.2.2.1) rfl ?_
    (first | refine wXB ?_ | exact wZB)
    refine factG (fun _ => rfl) (cloneI p.ia p.ic p.c.items hpo.ia hil) ?_ ?_
    · exact fun w hw => (hpF w hw.1).2
    rintro ⟨ib, ic2⟩ ⟨hib, hic⟩
    (first | refine wXB ?_ | exact wZB)
    refine EffW.appTo (i := 5) (q := 4) (ys := [.slice (at0 ib) p.c.items.length ic2]) (cellC ⟨p.c, at0 nb, nc2, at0 ib, ic2⟩) 5 rfl rfl rfl rfl rfl rfl rfl (Nat.le_of_ble_eq_true rfl) rfl rfl ?_
    (first | refine wXB ?_ | exact wZB)
    refine LdN.one (a := some ⟨cb2, 0, none⟩) (q := 4) (.slice (at0 ib) p.c.items.length ic2) rfl (fun w hw => hw.2.2.2.2.1) rfl ?_
    (first | refine wXB ?_ | exact wZB)
    obtain ⟨f, hf⟩ : ∃ f, f = shF l.length j := ⟨_, rfl⟩
    refine LoopN.intro Nat (fun t => t ≤ p.c.items.length)
      (fun t => mkS Tryz.f39.ntmps 0 [(0, .c (.v (.slice a l.length ca))), (1, .c (.v (.slice b m.length cb))), (6, .c (.v (.slice oa g.length oc))), (7, .c (.v (.int .i64 (j : Int)))), (8, .c (.v (.pointer (some ⟨cb2, 0, none⟩)))), (27, .c (.v (.slice (at0 qb) (l ++ m).length qc))), (28, .c (.v (.int .i64 ((l ++ m).length : Int)))), (29, .c (.v (.int .i64 (j : Int)))), (44, .c (.v (.int .i64 (p.c.items.length : Int)))), (45, .c (.v (.int .i64 (t : Int))))])
      (fun t => [.fact (fun w => GrF a l w ∧ GrF b m w), .dead, .app 42 5 (grC (l ++ m)) (at0 qb) (l ++ m).length qc, .app 42 5 (grC g) oa g.length oc, famE (rowsG g), .app 42 5 (cellC ⟨p.c, at0 nb, nc2, at0 ib, ic2⟩) (some ⟨cb2, 0, none⟩) 1 1, .app 9 1 (strC p.c.names) (at0 nb) p.c.names.length nc2, .app 3 1 (iC (mixI f t p.c.items)) (at0 ib) p.c.items.length ic2]) (fun t => p.c.items.length - t) [] rfl (fun _ => rfl) (fun _ => rfl) (fun _ _ => okHB_eq rfl) ?_ ?_
    · refine ⟨0, Nat.zero_le _, ?_, wkE_refl _, trivial, wkE_refl _, wkE_refl _, wkE_refl _, wkE_refl _, wkE_refl _, ?_, trivial⟩
      · (repeat' (first | exact trivial | refine And.intro (by with_reducible rfl) ?_ | (with_reducible exact wkC_refl _) | (with_reducible exact wkCs_refl _) | refine And.intro ?_ ?_))
        all_goals rfl
      · rw [mixI_zero]; exact wkE_refl _
    intro t htl
    (first | refine wXB ?_ | exact wZB)
    refine brd_dec (fun h3 => ?_) (fun h3 => ?_)
    · obtain ⟨y, hy⟩ : ∃ y, p.c.items[t]? = some y := ⟨_, List.getElem?_eq_getElem (by omega)⟩
      obtain ⟨ib, rfl⟩ : ∃ b, ib = some b := by
        cases ib with
        | none => rw [hib rfl] at hy; cases hy
        | some b => exact ⟨b, rfl⟩
      have hms : mixI f (t + 1) p.c.items = (mixI f t p.c.items).set t (f y) := by
        unfold mixI
        rw [← mix_set (f := f) hy]
      have hset : (iC (mixI f t p.c.items)).set t (.int .i64 (f y)) = iC (mixI f (t + 1) p.c.items) := by
        rw [hms]
        unfold iC
        rw [List.map_set]
      have hq1 : t + 1 ≤ p.c.items.length * 1 := by omega
      have hq2 : t < (iC (mixI f t p.c.items)).length := by unfold iC; rw [List.length_map, mixI_len]; omega
      (first | refine wXB ?_ | exact wZB)
      refine brd_dec (fun h4 => ?_) (fun h4 => ?_)
      · have hyb : 0 ≤ y ∧ y ≤ 500 := by
          rcases List.mem_append.1 hpm with h | h
          · have hyi := valid_in hv p.c (List.mem_map.2 ⟨p, h, rfl⟩) y (List.mem_of_getElem? hy)
            have h5 := hyi.2
            simp only [List.length_map] at h5
            exact ⟨hyi.1, by omega⟩
          · have hyi := valid_in hw p.c (List.mem_map.2 ⟨p, h, rfl⟩) y (List.mem_of_getElem? hy)
            have h5 := hyi.2
            simp only [List.length_map] at h5
            exact ⟨hyi.1, by omega⟩
        have hfy : f y = y + (l.length : Int) := by
          rw [hf]
          unfold shF
          rw [if_pos (by omega)]
        (first | refine wXB ?_ | exact wZB)
        refine LdN.one (a := some ⟨cb2, 0, none⟩) (q := 4) (.slice (at0 (some ib)) p.c.items.length ic2) rfl (fun w hw => hw.2.2.2.2.1) rfl ?_
        (first | refine wXB ?_ | exact wZB)
        refine Nd.mk ⟨rfl, by omega, by omega⟩ ?_
        (first | refine wXB ?_ | exact wZB)
        refine LdN.one (.int .i64 y) rfl (fun w hw => hw.2.2.2.2.2.2.1) (by rw [Int.toNat_natCast]; show (iC (mixI f t p.c.items))[t * 1]? = _; rw [Nat.mul_one]; exact iC_get (by unfold mixI; rw [mix_get (by omega)]; exact hy)) ?_
        (first | refine wXB ?_ | exact wZB)
        rw [wrap_i64 (x := y + (l.length : Int)) (by omega), ← hfy]
        refine Nd.mk ⟨rfl, by omega, by omega⟩ ?_
        (first | refine wXB ?_ | exact wZB)
        refine EffW.appTo (i := 7) (q := t) (ys := [.int .i64 (f y)]) (iC (mixI f (t + 1) p.c.items)) 1 rfl ?_ rfl rfl rfl rfl rfl hq1 (by rw [put_set _ hq2]; exact hset) rfl ?_
        · rw [Int.toNat_natCast]
          show AV.c (CV.v (Value.pointer (some (((⟨ib, 0, none⟩ : Addr)).add (t * 1))))) = _
          rw [Nat.mul_one]
          exact congrArg (fun x => AV.c (CV.v (Value.pointer (some x)))) (add_lit0 ib t)
        (first | refine wXB ?_ | exact wZB)
        refine ⟨t + 1, by omega, by omega, ?_, wkE_refl _, trivial, wkE_refl _, wkE_refl _, wkE_refl _, wkE_refl _, wkE_refl _, wkE_refl _, trivial⟩
        (repeat' (first | exact trivial | refine And.intro (by with_reducible rfl) ?_ | (with_reducible exact wkC_refl _) | (with_reducible exact wkCs_refl _) | refine And.intro ?_ ?_))
        all_goals first | rfl | exact av_int (by rw [wrap_i64 (by omega)]; omega)
      · have hme : mixI f (t + 1) p.c.items = mixI f t p.c.items := by
          rw [hms]
          refine set_same ?_
          unfold mixI
          rw [mix_get (by omega), hy]
          have : f y = y := by
            rw [hf]
            unfold shF
            rw [if_neg (by omega)]
          rw [this]
        (first | refine wXB ?_ | exact wZB)
        refine ⟨t + 1, by omega, by omega, ?_, wkE_refl _, trivial, wkE_refl _, wkE_refl _, wkE_refl _, wkE_refl _, wkE_refl _, by rw [hme]; exact wkE_refl _, trivial⟩
        (repeat' (first | exact trivial | refine And.intro (by with_reducible rfl) ?_ | (with_reducible exact wkC_refl _) | (with_reducible exact wkCs_refl _) | refine And.intro ?_ ?_))
        all_goals first | rfl | exact av_int (by rw [wrap_i64 (by omega)]; omega)
    · obtain rfl : t = p.c.items.length := by omega
      rw [mixI_all]
      (first | refine wXB ?_ | exact wZB)
      refine LdN.agg (a := some ⟨cb2, 0, none⟩) (q := 0) (cellC ⟨p.c, at0 nb, nc2, at0 ib, ic2⟩) rfl (fun w hw => hw.2.2.2.2.1) rfl (fun q hq => by rw [Nat.zero_add]) ?_
      (first | refine wXB ?_ | exact wZB)
      refine Nd.mk ⟨Nat.le_refl 1, rfl, rfl⟩ ?_
      (conv => whnf)
      have hnr : reNum f p.c = { p.c with items := p.c.items.map f } := rfl
      have hcc : cellC ⟨p.c, at0 nb, nc2, at0 ib, ic2⟩ = cellC ⟨reNum f p.c, at0 nb, nc2, at0 ib, ic2⟩ := by
        unfold cellC reNum
        simp only [List.length_map]
      refine AppN.grow 3 (grC g) (cellC ⟨p.c, at0 nb, nc2, at0 ib, ic2⟩) rfl rfl ⟨Nat.le_refl 1, ⟨by show (g.length + 1) * 80 ≤ _; omega, by omega⟩, by decide⟩ fun ob2 oc2 hoc2 _ => ?_
      (first | refine wXB ?_ | exact wZB)
      obtain ⟨q, hq⟩ : ∃ q : CellP, q = ⟨reNum f p.c, at0 nb, nc2, at0 ib, ic2⟩ := ⟨_, rfl⟩
      have hm2 : g.length + 1 = (g ++ [q]).length := by simp
      have hg2 := grC_snoc g q
      have hqr : rowsP q = optRow 9 1 p.c.names.length (strC p.c.names) nb nc2 ++ optRow 3 1 p.c.items.length (iC (p.c.items.map f)) ib ic2 := by
        rw [hq]
        unfold rowsP optRow reNum
        simp only [List.length_map]
        cases nb <;> cases ib <;> rfl
      have hrw := rowsG_snoc g q
      rw [hqr] at hrw
      have hp1 : (optRow 9 1 p.c.names.length (strC p.c.names) nb nc2 ++ rowsG g).Perm (rowsG g ++ optRow 9 1 p.c.names.length (strC p.c.names) nb nc2) := List.perm_append_comm
      have hp2 : (optRow 3 1 p.c.items.length (iC (p.c.items.map f)) ib ic2 ++ (rowsG g ++ optRow 9 1 p.c.names.length (strC p.c.names) nb nc2)).Perm (rowsG (g ++ [q])) := by
        rw [hrw, ← List.append_assoc (rowsG g)]
        exact List.perm_append_comm
      rw [hcc, ← hq, ← hg2, hm2]
      refine ⟨⟨j + 1, some ⟨ob2, 0, none⟩, oc2, g ++ [q]⟩, ⟨by omega, (fun h => by cases h), ?_, ?_, ?_, by omega⟩, by show l.length + m.length - (j + 1) < l.length + m.length - j; omega, ?_, _, ((famPutO 4 6 nb rfl rfl rfl hp1).trans (famPutO 4 7 ib rfl rfl rfl hp2)).s, wkE_refl _, trivial, wkE_refl _, wkE_refl _, wkE_refl _, trivial⟩
      · rw [List.take_add_one, join_get hp, List.map_append, hgc, hq, ← hf]
        rfl
      · intro r hr
        rcases List.mem_append.1 hr with hr | hr
        · exact hgo r hr
        · rw [List.mem_singleton.1 hr, hq]
          exact ⟨fun h => hnb (by cases nb with | none => rfl | some b => cases h), fun h => by
            have : p.c.items = [] := hib (by cases ib with | none => rfl | some b => cases h)
            show (reNum f p.c).items = []
            rw [hnr, this]; rfl, hpo.nl, by show (reNum f p.c).items.length ≤ _; rw [hnr]; simp only [List.length_map]; omega, hpo.nw, hpo.tl, hnc, by show (reNum f p.c).items.length ≤ ic2; rw [hnr]; simp only [List.length_map]; exact hic⟩
      · intro r hr
        rcases List.mem_append.1 hr with hr | hr
        · exact hgw r hr
        · rw [List.mem_singleton.1 hr, hq]
          exact ⟨fun ad h => by cases nb with | none => cases h | some b => cases h; rfl, fun ad h => by cases ib with | none => cases h | some b => cases h; rfl⟩
      · (repeat' (first | exact trivial | refine And.intro (by with_reducible rfl) ?_ | (with_reducible exact wkC_refl _) | (with_reducible exact wkCs_refl _) | refine And.intro ?_ ?_))
        all_goals first | rfl | exact av_int (by rw [wrap_i64 (by omega)]; omega)
  · obtain rfl : j = l.length + m.length := by omega
    rw [List.take_of_length_le (by omega)] at hgc
    (first | refine wX ?_ | exact wZ)
    exact ⟨⟨0, oa, oc, g⟩, ⟨hoa, hgc, hgo, hgw, hoc⟩, rfl, trivial, trivial, trivial, wkE_refl _, wkE_refl _, trivial⟩
end Go.Proofs.YtahjbnfbilkbcaaGreatDoor

/-
  Contract: Join (program), of any two graphs.
-/
namespace Go.Proofs.YtahjbnfbilkbcaaGreatDoor
open Go.AX Go.RowKit Go.Core
set_option maxRecDepth 20000

end Go.Proofs.YtahjbnfbilkbcaaGreatDoor

/-
  Contracts: slices.Equal of numbers and strings, the closure of Same (program).
-/
namespace Go.Proofs.YtahjbnfbilkbcaaGreatDoor
open Go.AX Go.RowKit Go.Core
set_option maxRecDepth 20000

theorem take_next {α : Type} {l m : List α} {i : Nat} {x y : α} (h : l.take i = m.take i) (hx : l[i]? = some x) (hy : m[i]? = some y) (e : x = y) : l.take (i + 1) = m.take (i + 1) := by
  rw [List.take_add_one, List.take_add_one, h, hx, hy, e]
def valT (x : List UInt8) : Value := .string (bs x)
-- slices.Equal[[]int,int]: the function, iC: the cells, equalI_c: the theorem, Int: the elements in Lean, .int .i64: the value of one, iC_get: its place
set_option maxHeartbeats 1000000 in
theorem equalI_c (a b : Option Addr) (ca cb : Nat) (l m : List (Int)) (ha : a = none → l = []) (hb : b = none → m = []) (hl : l.length ≤ 200000000000000) (hm2 : m.length ≤ 200000000000000) :
    ∀ H, (∀ w, Facts H w → SlAt a (l.length * 1) (iC l) w ∧ SlAt b (m.length * 1) (iC m) w) → SpecH Tryz.prog 77 (pvs [.slice a l.length ca, .slice b m.length cb]) H (Ret (.bool (decide (l = m))) H) := by
  refine factC hm Tryz.func77 (by kernel_rfl) rfl rfl ?_
  (first | refine wX ?_ | exact wZ)
  refine brd_ne (fun h0 => ?_) (fun h0 => ?_)
  · (first | refine wX ?_ | exact wZ)
    exact out_bool (decide_eq_false fun e => h0 (by rw [e])).symm
  have hlen : l.length = m.length := by omega
  (first | refine wX ?_ | exact wZ)
  refine loopS Nat (fun i => i ≤ l.length ∧ l.take i = m.take i) (fun i => mkS Tryz.f77.ntmps 0 [(0, .c (.v (.slice a l.length ca))), (1, .c (.v (.slice b m.length cb))), (12, .c (.v (.int .i64 (l.length : Int)))), (13, .c (.v (.int .i64 (i : Int))))]) (fun i => l.length - i) rfl (fun _ => rfl) 0 ⟨Nat.zero_le _, rfl⟩ ?_ ?_
  · (repeat' (first | exact trivial | refine And.intro (by with_reducible rfl) ?_ | (with_reducible exact wkC_refl _) | (with_reducible exact wkCs_refl _) | refine And.intro ?_ ?_))
    all_goals rfl
  intro i ⟨hi, he⟩
  (first | refine wX ?_ | exact wZ)
  refine brd_dec (fun h1 => ?_) (fun h1 => ?_)
  · obtain ⟨x, hx⟩ : ∃ x, l[i]? = some x := ⟨_, List.getElem?_eq_getElem (by omega)⟩
    obtain ⟨y, hy⟩ : ∃ y, m[i]? = some y := ⟨_, List.getElem?_eq_getElem (by omega)⟩
    have hsa : a.isSome = true := by
      cases a with
      | none => rw [ha rfl] at hx; cases hx
      | some b => rfl
    have hsb : b.isSome = true := by
      cases b with
      | none => rw [hb rfl] at hy; cases hy
      | some b => rfl
    (first | refine wX ?_ | exact wZ)
    refine Nd.mk ⟨hsa, by omega, by omega⟩ ?_
    (first | refine wX ?_ | exact wZ)
    refine LdN.one (.int .i64 x) rfl (fun w hw => hw.1.1) (by rw [Int.toNat_natCast]; show (iC l)[i * 1]? = _; rw [Nat.mul_one]; exact iC_get hx) ?_
    (first | refine wX ?_ | exact wZ)
    refine Nd.mk ⟨hsb, by omega, by omega⟩ ?_
    (first | refine wX ?_ | exact wZ)
    refine LdN.one (.int .i64 y) rfl (fun w hw => hw.1.2) (by rw [Int.toNat_natCast]; show (iC m)[i * 1]? = _; rw [Nat.mul_one]; exact iC_get hy) ?_
    (first | refine wX ?_ | exact wZ)
    rw [show (x != y) = !(x == y) from rfl]
    cases hst : x == y with
    | false =>
      (first | refine wX ?_ | exact wZ)
      exact out_bool (decide_eq_false fun h => by
        subst h
        have hxy : x = y := Option.some.inj (hx.symm.trans hy)
        rw [hxy, beq_self_eq_true] at hst
        cases hst).symm
    | true =>
      (first | refine wX ?_ | exact wZ)
      refine ⟨i + 1, ⟨by omega, take_next he hx hy (eq_of_beq hst)⟩, by omega, ?_, by (repeat' (first | exact trivial | exact wkE_refl _ | refine And.intro ?_ ?_))⟩
      (repeat' (first | exact trivial | refine And.intro (by with_reducible rfl) ?_ | (with_reducible exact wkC_refl _) | (with_reducible exact wkCs_refl _) | refine And.intro ?_ ?_))
      all_goals first | rfl | exact av_int (by rw [wrap_i64 (by omega)]; omega)
  · obtain rfl : i = l.length := by omega
    rw [List.take_length, hlen, List.take_length] at he
    (first | refine wX ?_ | exact wZ)
    exact out_bool (decide_eq_true he).symm
-- slices.Equal[[]string,string]: the function, strC: the cells, equalT_c: the theorem, List UInt8: the elements in Lean, valT: the value of one, strC_get: its place
set_option maxHeartbeats 1000000 in
theorem equalT_c (a b : Option Addr) (ca cb : Nat) (l m : List (List UInt8)) (ha : a = none → l = []) (hb : b = none → m = []) (hl : l.length ≤ 200000000000000) (hm2 : m.length ≤ 200000000000000) :
    ∀ H, (∀ w, Facts H w → SlAt a (l.length * 1) (strC l) w ∧ SlAt b (m.length * 1) (strC m) w) → SpecH Tryz.prog 57 (pvs [.slice a l.length ca, .slice b m.length cb]) H (Ret (.bool (decide (l = m))) H) := by
  refine factC hm Tryz.func57 (by kernel_rfl) rfl rfl ?_
  (first | refine wX ?_ | exact wZ)
  refine brd_ne (fun h0 => ?_) (fun h0 => ?_)
  · (first | refine wX ?_ | exact wZ)
    exact out_bool (decide_eq_false fun e => h0 (by rw [e])).symm
  have hlen : l.length = m.length := by omega
  (first | refine wX ?_ | exact wZ)
  refine loopS Nat (fun i => i ≤ l.length ∧ l.take i = m.take i) (fun i => mkS Tryz.f57.ntmps 0 [(0, .c (.v (.slice a l.length ca))), (1, .c (.v (.slice b m.length cb))), (12, .c (.v (.int .i64 (l.length : Int)))), (13, .c (.v (.int .i64 (i : Int))))]) (fun i => l.length - i) rfl (fun _ => rfl) 0 ⟨Nat.zero_le _, rfl⟩ ?_ ?_
  · (repeat' (first | exact trivial | refine And.intro (by with_reducible rfl) ?_ | (with_reducible exact wkC_refl _) | (with_reducible exact wkCs_refl _) | refine And.intro ?_ ?_))
    all_goals rfl
  intro i ⟨hi, he⟩
  (first | refine wX ?_ | exact wZ)
  refine brd_dec (fun h1 => ?_) (fun h1 => ?_)
  · obtain ⟨x, hx⟩ : ∃ x, l[i]? = some x := ⟨_, List.getElem?_eq_getElem (by omega)⟩
    obtain ⟨y, hy⟩ : ∃ y, m[i]? = some y := ⟨_, List.getElem?_eq_getElem (by omega)⟩
    have hsa : a.isSome = true := by
      cases a with
      | none => rw [ha rfl] at hx; cases hx
      | some b => rfl
    have hsb : b.isSome = true := by
      cases b with
      | none => rw [hb rfl] at hy; cases hy
      | some b => rfl
    (first | refine wX ?_ | exact wZ)
    refine Nd.mk ⟨hsa, by omega, by omega⟩ ?_
    (first | refine wX ?_ | exact wZ)
    refine LdN.one (valT x) rfl (fun w hw => hw.1.1) (by rw [Int.toNat_natCast]; show (strC l)[i * 1]? = _; rw [Nat.mul_one]; exact strC_get hx) ?_
    (first | refine wX ?_ | exact wZ)
    refine Nd.mk ⟨hsb, by omega, by omega⟩ ?_
    (first | refine wX ?_ | exact wZ)
    refine LdN.one (valT y) rfl (fun w hw => hw.1.2) (by rw [Int.toNat_natCast]; show (strC m)[i * 1]? = _; rw [Nat.mul_one]; exact strC_get hy) ?_
    (first | refine wX ?_ | exact wZ)
    rw [show ((bs x).data.toList == (bs y).data.toList) = (x == y) from txt_eq x y]
    cases hst : x == y with
    | false =>
      (first | refine wX ?_ | exact wZ)
      exact out_bool (decide_eq_false fun h => by
        subst h
        have hxy : x = y := Option.some.inj (hx.symm.trans hy)
        rw [hxy, beq_self_eq_true] at hst
        cases hst).symm
    | true =>
      (first | refine wX ?_ | exact wZ)
      refine ⟨i + 1, ⟨by omega, take_next he hx hy (eq_of_beq hst)⟩, by omega, ?_, by (repeat' (first | exact trivial | exact wkE_refl _ | refine And.intro ?_ ?_))⟩
      (repeat' (first | exact trivial | refine And.intro (by with_reducible rfl) ?_ | (with_reducible exact wkC_refl _) | (with_reducible exact wkCs_refl _) | refine And.intro ?_ ?_))
      all_goals first | rfl | exact av_int (by rw [wrap_i64 (by omega)]; omega)
  · obtain rfl : i = l.length := by omega
    rw [List.take_length, hlen, List.take_length] at he
    (first | refine wX ?_ | exact wZ)
    exact out_bool (decide_eq_true he).symm
end Go.Proofs.YtahjbnfbilkbcaaGreatDoor

/-
  Contracts: whether two cells are one (the closure of Same), slices.EqualFunc by it (program).
-/
namespace Go.Core
/-- Whether two cells are one. -/
def cellE (x y : Cell) : Bool := x.kind == y.kind && x.num == y.num && x.text == y.text && decide (x.names = y.names) && decide (x.items = y.items)
theorem cellE_iff {x y : Cell} : cellE x y = true ↔ x = y := by
  unfold cellE
  simp only [Bool.and_eq_true, beq_iff_eq, decide_eq_true_eq]
  constructor
  · intro ⟨⟨⟨⟨h1, h2⟩, h3⟩, h4⟩, h5⟩
    cases x; cases y
    simp only at h1 h2 h3 h4 h5
    subst h1 h2 h3 h4 h5
    rfl
  · intro h
    subst h
    exact ⟨⟨⟨⟨rfl, rfl⟩, rfl⟩, rfl⟩, rfl⟩
end Go.Core
namespace Go.Proofs.YtahjbnfbilkbcaaGreatDoor
open Go.AX Go.RowKit Go.Core
set_option maxRecDepth 20000

set_option maxHeartbeats 4000000 in
theorem samecell_c (p q : CellP) (hp : CellOk p) (hq : CellOk q) : ∀ H, (∀ w, Facts H w → CellF p w ∧ CellF q w) → SpecH Tryz.prog 76 (pvs [cellV p, cellV q]) H (Ret (.bool (cellE p.c q.c)) H) := by
  refine factC hm Tryz.func76 (by kernel_rfl) rfl rfl ?_
  unfold cellE
  (first | refine wX ?_ | exact wZ)
  cases h1 : p.c.kind == q.c.kind with
  | false =>
    (first | refine wX ?_ | exact wZ)
    rfl
  | true =>
  (first | refine wX ?_ | exact wZ)
  cases h2 : p.c.num == q.c.num with
  | false =>
    (first | refine wX ?_ | exact wZ)
    rfl
  | true =>
  (first | refine wX ?_ | exact wZ)
  rw [txt_eq]
  cases h3 : p.c.text == q.c.text with
  | false =>
    (first | refine wX ?_ | exact wZ)
    rfl
  | true =>
  (first | refine wX ?_ | exact wZ)
  refine call1 (equalT_c p.na q.na p.nc q.nc p.c.names q.c.names hp.na hq.na hp.nl hq.nl _ (fun w hw => ⟨hw.1.1.1, hw.1.2.1⟩)) ?_
  (first | refine wX ?_ | exact wZ)
  cases h4 : decide (p.c.names = q.c.names) with
  | false =>
    (first | refine wX ?_ | exact wZ)
    rfl
  | true =>
  (first | refine wX ?_ | exact wZ)
  refine call1 (equalI_c p.ia q.ia p.ic q.ic p.c.items q.c.items hp.ia hq.ia hp.il hq.il _ (fun w hw => ⟨hw.1.1.2, hw.1.2.2⟩)) ?_
  (first | refine wX ?_ | exact wZ)
  rfl
theorem same_bool (l m : List Cell) : ∃ r : Bool, r = true ↔ l = m := by
  by_cases h : l = m
  · exact ⟨true, fun _ => h, fun _ => rfl⟩
  · exact ⟨false, fun e => (by cases e), fun e => absurd e h⟩
theorem bool_no {r : Bool} {P : Prop} (hr : r = true ↔ P) (h : ¬ P) : false = r := by
  cases r with
  | false => rfl
  | true => exact absurd (hr.1 rfl) h
set_option maxHeartbeats 4000000 in
theorem equalfunc_c (a b : Option Addr) (ca cb : Nat) (l m : List CellP) (ha : a = none → l = []) (hb : b = none → m = []) (hl : l.length ≤ 2000) (hml : m.length ≤ 2000) (hol : ∀ p ∈ l, CellOk p) (hom : ∀ p ∈ m, CellOk p) (r : Bool) (hr : r = true ↔ l.map (·.c) = m.map (·.c)) :
    ∀ H, (∀ w, Facts H w → GrF a l w ∧ GrF b m w) → SpecH Tryz.prog 75 (pvs [.slice a l.length ca, .slice b m.length cb, .func (.func 76) #[] #[]]) H (Ret (.bool r) H) := by
  refine factC hm Tryz.func75 (by kernel_rfl) rfl rfl ?_
  (first | refine wX ?_ | exact wZ)
  refine brd_ne (fun h0 => ?_) (fun h0 => ?_)
  · (first | refine wX ?_ | exact wZ)
    exact out_bool (bool_no hr fun e => h0 (by have := congrArg List.length e; simp only [List.length_map] at this; omega))
  have hlen : l.length = m.length := by omega
  (first | refine wX ?_ | exact wZ)
  refine loopS Nat (fun i => i ≤ l.length ∧ (l.map (·.c)).take i = (m.map (·.c)).take i) (fun i => mkS Tryz.f75.ntmps 0 [(1, .c (.v (.slice b m.length cb))), (2, .c (.v (.func (.func 76) #[] #[]))), (15, .c (.v (.slice a l.length ca))), (16, .c (.v (.int .i64 (l.length : Int)))), (17, .c (.v (.int .i64 (i : Int))))]) (fun i => l.length - i) rfl (fun _ => rfl) 0 ⟨Nat.zero_le _, rfl⟩ ?_ ?_
  · (repeat' (first | exact trivial | refine And.intro (by with_reducible rfl) ?_ | (with_reducible exact wkC_refl _) | (with_reducible exact wkCs_refl _) | refine And.intro ?_ ?_))
    all_goals rfl
  intro i ⟨hi, he⟩
  (first | refine wX ?_ | exact wZ)
  refine brd_dec (fun h1 => ?_) (fun h1 => ?_)
  · obtain ⟨p, hp⟩ : ∃ p, l[i]? = some p := ⟨_, List.getElem?_eq_getElem (by omega)⟩
    obtain ⟨q, hq⟩ : ∃ q, m[i]? = some q := ⟨_, List.getElem?_eq_getElem (by omega)⟩
    have hpm := List.mem_of_getElem? hp
    have hqm := List.mem_of_getElem? hq
    have hpc : (l.map (·.c))[i]? = some p.c := by rw [List.getElem?_map, hp]; rfl
    have hqc : (m.map (·.c))[i]? = some q.c := by rw [List.getElem?_map, hq]; rfl
    have hsa : a.isSome = true := by
      cases a with
      | none => rw [ha rfl] at hp; cases hp
      | some b => rfl
    have hsb : b.isSome = true := by
      cases b with
      | none => rw [hb rfl] at hq; cases hq
      | some b => rfl
    (first | refine wX ?_ | exact wZ)
    refine Nd.mk ⟨hsa, by omega, by omega⟩ ?_
    (first | refine wX ?_ | exact wZ)
    refine LdN.agg (cellC p) rfl (fun w hw => hw.1.1.1) rfl (fun k hk => by rw [Int.toNat_natCast]; exact grC_get l i k hk hp) ?_
    (first | refine wX ?_ | exact wZ)
    refine Nd.mk ⟨hsb, by omega, by omega⟩ ?_
    (first | refine wX ?_ | exact wZ)
    refine LdN.agg (cellC q) rfl (fun w hw => hw.1.2.1) rfl (fun k hk => by rw [Int.toNat_natCast]; exact grC_get m i k hk hq) ?_
    (first | refine wX ?_ | exact wZ)
    refine call1 (samecell_c p q (hol p hpm) (hom q hqm) _ (fun w hw => ⟨hw.1.1.2 p hpm, hw.1.2.2 q hqm⟩)) ?_
    cases hc : cellE p.c q.c with
    | false =>
      (first | refine wX ?_ | exact wZ)
      exact out_bool (bool_no hr fun e => by
        rw [e] at hpc
        have h2 := cellE_iff.2 (Option.some.inj (hpc.symm.trans hqc))
        rw [hc] at h2
        cases h2)
    | true =>
      (first | refine wX ?_ | exact wZ)
      refine ⟨i + 1, ⟨by omega, take_next he hpc hqc (cellE_iff.1 hc)⟩, by omega, ?_, by (repeat' (first | exact trivial | exact wkE_refl _ | refine And.intro ?_ ?_))⟩
      (repeat' (first | exact trivial | refine And.intro (by with_reducible rfl) ?_ | (with_reducible exact wkC_refl _) | (with_reducible exact wkCs_refl _) | refine And.intro ?_ ?_))
      all_goals first | rfl | exact av_int (by rw [wrap_i64 (by omega)]; omega)
  · obtain rfl : i = l.length := by omega
    rw [List.take_of_length_le (by simp), List.take_of_length_le (by simp; omega)] at he
    (first | refine wX ?_ | exact wZ)
    exact out_bool (hr.2 he).symm
end Go.Proofs.YtahjbnfbilkbcaaGreatDoor

/-
  Plain: the text of an array is that of its items.
-/
namespace Go.Core
theorem text_full (lf : Cell → List UInt8) (g : List Cell) (u : Int) : Go.Proofs.YtahjbnfbilkbcaaGreatDoor.textP lf g u = (fullL lf g u).take 20000 := by
  unfold Go.Proofs.YtahjbnfbilkbcaaGreatDoor.textP fullL
  have h := write_full (M := 20000) (leafT := lf) (g := g) (g.length + 2) [] [] u
  rw [h, List.nil_append]
end Go.Core
