/-
  CorePartsCardSaid is proved: of every list of numbers and index CoreParts returns true and leaves its arguments as they were; the listed tables are tied to the program's text.
-/
import Derived.WideKeyRuns
import Derived.Test.YtahjbnfbilkbcaaGreatDoorCards
import Derived.Test.YtahjbnfbilkbcaaGreatDoorTie
import Derived.Test.YtahjbnfbilkbcaaGreatDoorPrt10
/-
  Contract: the graphs that numbers make (law).
-/
namespace Go.Proofs.YtahjbnfbilkbcaaGreatDoor
open Go.AX Go.RowKit Go.Core
set_option maxRecDepth 20000

/-- A cell that numbers make. -/
structure GrwC (n : Nat) (p : CellP) : Prop where
  ok : CellOk p
  it : ∀ y ∈ p.c.items, 0 ≤ y
  il : p.c.items.length ≤ 4
  nl : p.c.names.length ≤ 2
theorem grw_plain (n : Nat) (k nu : Int) (t : List UInt8) (ht : t.length ≤ 2) : GrwC n ⟨⟨k, nu, t, [], []⟩, none, 0, none, 0⟩ :=
  ⟨⟨fun _ => rfl, fun _ => rfl, Nat.zero_le _, Nat.zero_le _, (fun s h => (by cases h)), (by show t.length ≤ _; omega), Nat.le_refl _, Nat.le_refl _⟩, (fun y h => (by cases h)), Nat.zero_le _, Nat.zero_le _⟩
theorem grw_item (x : Int) (k d e n : Nat) (hx : 0 ≤ x ∧ x ≤ 2049638230412172402) (hk : k ≤ 3) (hd : 1 ≤ d) (he : e ≤ 10) : 0 ≤ (IntKind.i64.wrap (IntKind.u64.wrap (IntKind.u64.wrap (x.tdiv (d : Int)) + IntKind.u64.wrap (IntKind.u64.wrap (k : Int) * (e : Int))))).tmod (n : Int) := by
  have h1 : 0 ≤ x.tdiv (d : Int) ∧ x.tdiv (d : Int) ≤ x := by
    rw [Int.tdiv_eq_ediv_of_nonneg hx.1]
    exact ⟨Int.ediv_nonneg hx.1 (by omega), Int.ediv_le_self _ hx.1⟩
  have h2 : 0 ≤ (k : Int) * (e : Int) ∧ (k : Int) * (e : Int) ≤ 30 := by
    have := Nat.mul_le_mul hk he
    rw [← Int.natCast_mul]
    omega
  rw [wrap_u64 (x := x.tdiv (d : Int)) (by omega), wrap_u64 (x := (k : Int)) (by omega), wrap_u64 (x := (k : Int) * (e : Int)) (by omega), wrap_u64 (by omega), wrap_i64 (by omega)]
  exact Int.tmod_nonneg _ (by omega)
/-- A cell with other items. -/
def setI (p : CellP) (its : List Int) (ia : Option Addr) (ic : Nat) : CellP := ⟨{ p.c with items := its }, p.na, p.nc, ia, ic⟩
theorem grC_set : ∀ {m : List CellP} {j : Nat} {p : CellP} (its : List Int) (ia : Option Addr) (ic : Nat), m[j]? = some p → (grC m).set (j * 5 + 4) (.slice ia its.length ic) = grC (m.set j (setI p its ia ic))
  | [], _, _, _, _, _, h => by cases h
  | q :: m, 0, p, its, ia, ic, h => by
    obtain rfl := Option.some.inj h
    rfl
  | q :: m, j + 1, p, its, ia, ic, h => by
    have ih := grC_set its ia ic (show m[j]? = some p from h)
    have e : ∀ q : CellP, grC (q :: m) = cellC q ++ grC m := fun q => by unfold grC; rw [List.flatMap_cons]
    rw [e, List.set_cons_succ, show (j + 1) * 5 + 4 = (j * 5 + 4) + 5 by omega]
    have e2 : grC (q :: m.set j (setI p its ia ic)) = cellC q ++ grC (m.set j (setI p its ia ic)) := by unfold grC; rw [List.flatMap_cons]
    rw [e2, ← ih]
    rfl
theorem SlAt.take {a : Option Addr} {k j : Nat} {xs : List Value} {w : World} (h : SlAt a k xs w) (hj : j ≤ k) : SlAt a j (xs.take j) w :=
  ⟨by rw [List.length_take, h.1]; omega, fun h0 => h.2.1 (by omega), fun i hi => by rw [h.2.2 i (by omega), List.getElem?_take_of_lt hi]⟩
theorem grw_set {n : Nat} {m : List CellP} (h : ∀ p ∈ m, GrwC n p) {j : Nat} {p : CellP} (hp : p ∈ m) {its : List Int} (b ic : Nat) (h0 : ∀ y ∈ its, 0 ≤ y) (hl : its.length ≤ 4) (hc : its.length ≤ ic) : ∀ q ∈ m.set j (setI p its (some ⟨b, 0, none⟩) ic), GrwC n q := fun q hq => by
  rcases List.mem_or_eq_of_mem_set hq with hq | rfl
  · exact h q hq
  · have g := h p hp
    exact ⟨⟨g.ok.na, (fun h => by cases h), g.ok.nl, (by show its.length ≤ _; omega), g.ok.nw, g.ok.tl, g.ok.nb, hc⟩, h0, hl, g.nl⟩
theorem grw_small {n : Nat} {m : List CellP} (h : ∀ p ∈ m, GrwC n p) (hl : m.length ≤ 12) : Small m :=
  ⟨by omega, fun p hp => ⟨by have := (h p hp).nl; omega, by have := (h p hp).il; omega⟩⟩
theorem Valid_b (a : Option Addr) (ca : Nat) (l : List CellP) (ha : a = none → l = []) (hl : l.length ≤ 200000000000000) (hok : ∀ p ∈ l, CellOk p) :
    ∃ b : Bool, (b = true ↔ ValidP (l.map (·.c))) ∧ ∀ H, (∀ w, Facts H w → GrF a l w) → SpecH Tryz.prog 17 (pvs [.slice a l.length ca]) H (Ret (.bool b) H) := by
  obtain ⟨b, hb⟩ : ∃ b : Bool, b = true ↔ ValidP (l.map (·.c)) := by
    by_cases h : ValidP (l.map (·.c))
    · exact ⟨true, fun _ => h, fun _ => rfl⟩
    · exact ⟨false, (fun h => by cases h), fun h2 => absurd h2 h⟩
  refine ⟨b, hb, fun H hH => ?_⟩
  obtain ⟨b2, hb2, h⟩ := Valid_c a ca l ha hl hok H hH
  obtain rfl : b2 = b := by rw [Bool.eq_iff_iff, hb, hb2]
  exact h
theorem set_rows {m : List CellP} {j : Nat} {p : CellP} (hp : p ∈ m) {its : List Int} {ia : Option Addr} {ic : Nat} {w : World} (h : ∀ q ∈ m, CellF q w) (hi : SlAt ia (its.length * 1) (iC its) w) : ∀ q ∈ m.set j (setI p its ia ic), CellF q w := fun q hq => by
  rcases List.mem_or_eq_of_mem_set hq with hq | rfl
  · exact h q hq
  · exact ⟨(h p hp).1, hi⟩
/-- A graph that numbers make. -/
def GrwR (v : Value) (G : World → Prop) : Prop := ∃ (oa : Option Addr) (oc : Nat) (m : List CellP), v = .slice oa m.length oc ∧ (oa = none → m = []) ∧ (∀ p ∈ m, CellOk p) ∧ Small m ∧ (m = [] ∨ ValidP (m.map (·.c))) ∧ ∀ w, G w → GrF oa m w
structure GSt where
  i : Nat
  ob : Option Nat
  oc : Nat
  m : List CellP
set_option maxHeartbeats 4000000 in
theorem Grown_c (a : Option Addr) (ca : Nat) (L : List Int) (ha : a = none → L = []) (hl : L.length ≤ 200000000000000) : SpecF Tryz.prog 22 [.slice a L.length ca] (fun w => SlAt a (L.length * 1) (iC L) w) GrwR := by
  refine specF hm Tryz.func22 (by kernel_rfl) rfl rfl ?_
  (first | refine wX ?_ | exact wZ)
  obtain ⟨n, hn⟩ : ∃ n, n = min L.length 12 := ⟨_, rfl⟩
  refine LoopN.introS GSt (fun ⟨i, ob, oc, m⟩ => i ≤ n ∧ m.length = i ∧ (∀ p ∈ m, GrwC n p) ∧ (ob = none → m = []) ∧ m.length ≤ oc) (fun ⟨i, ob, oc, m⟩ => mkS Tryz.f22.ntmps 0 [(0, .c (.v (.slice a L.length ca))), (3, .c (.v (.int .i64 (n : Int)))), (4, .c (.v (.slice (at0 ob) m.length oc))), (5, .c (.v (.int .i64 (i : Int))))]) (fun ⟨i, ob, oc, m⟩ => [.fact (fun w => SlAt a (L.length * 1) (iC L) w), .app 42 5 (grC m) (at0 ob) m.length oc, .fact (fun w => ∀ p ∈ m, CellF p w)]) (fun ⟨i, _, _, _⟩ => n - i) [.app 42 5 [] none 0 0, .dead] rfl (fun _ => rfl) (fun _ => rfl) (fun _ _ => ⟨trivial, trivial, trivial, trivial⟩) ?_ ?_
  · refine ⟨⟨0, none, 0, []⟩, ⟨Nat.zero_le _, rfl, (fun p h => by cases h), (fun _ => rfl), Nat.le_refl _⟩, ?_, [.fact (fun w => SlAt a (L.length * 1) (iC L) w), .app 42 5 [] none 0 0, .fact (fun w => ∀ p ∈ [], CellF p w)], turnS ⟨.inr (.inl rfl), .inr (.inl rfl), .inr (.inr ⟨_, rfl, fun w _ p hp => by cases hp⟩), trivial⟩, wkH_refl _⟩
    (repeat' (first | exact trivial | refine And.intro (by with_reducible rfl) ?_ | (with_reducible exact wkC_refl _) | (with_reducible exact wkCs_refl _) | refine And.intro ?_ ?_))
    all_goals first | rfl | exact av_int (by rw [hn]; unfold Go.AX.minI; split <;> omega)
  rintro ⟨i, ob, oc, m⟩ ⟨hi, hml, hmo, hoa, hoc⟩
  (first | refine wX ?_ | exact wZ)
  refine brd_dec (fun h1 => ?_) (fun h1 => ?_)
  · obtain ⟨z, hz⟩ : ∃ z, L[i]? = some z := ⟨_, List.getElem?_eq_getElem (by omega)⟩
    have hsa : a.isSome = true := by
      cases a with
      | none => rw [ha rfl] at hz; cases hz
      | some b => rfl
    (first | refine wX ?_ | exact wZ)
    refine Nd.mk ⟨hsa, by omega, by omega⟩ ?_
    (first | refine wX ?_ | exact wZ)
    refine LdN.one (.int .i64 z) rfl (fun w hw => hw.1) (by rw [Int.toNat_natCast]; show (iC L)[i * 1]? = _; rw [Nat.mul_one]; exact iC_get hz) ?_
    (first | refine wX ?_ | exact wZ)
    have hXb := wrap_u64_bd z
    generalize IntKind.u64.wrap z = X at *
    have hx0 : IntKind.u64.wrap (X.tdiv 9) = X / 9 := by rw [Int.tdiv_eq_ediv_of_nonneg (by omega)]; exact wrap_u64 (by omega)
    have hk0 : IntKind.i64.wrap (X.tmod 9) = X % 9 := by rw [Int.tmod_eq_emod_of_nonneg (by omega)]; exact wrap_i64 (by omega)
    rw [hx0, hk0]
    obtain ⟨x, hx⟩ : ∃ x, x = X / 9 := ⟨_, rfl⟩
    obtain ⟨kd, hkd⟩ : ∃ kd, kd = X % 9 := ⟨_, rfl⟩
    rw [← hx, ← hkd]
    have hxb : 0 ≤ x ∧ x ≤ 2049638230412172402 := by omega
    have hkb : 0 ≤ kd ∧ kd ≤ 8 := by omega
    clear hx0 hk0
    have hkk : kd = 0 ∨ kd = 1 ∨ kd = 2 ∨ kd = 3 ∨ kd = 4 ∨ kd = 5 ∨ kd = 6 ∨ kd = 7 ∨ kd = 8 := by omega
    clear hkd hkb hXb
    rcases hkk with rfl | rfl | rfl | rfl | rfl | rfl | rfl | rfl | rfl
    · -- the cell is put behind the graph; ⟨⟨0, 0, [], [], []⟩, none, 0, none, 0⟩: the cell, , .dead, .dead: what else is over, ⟨SlAt.nil, SlAt.nil⟩: its rows
      (first | refine wX ?_ | exact wZ)
      try refine Nd.mk ⟨Nat.le_refl 1, rfl, rfl⟩ ?_
      (conv => whnf)
      refine AppN.grow 1 (grC m) (cellC (⟨⟨0, 0, [], [], []⟩, none, 0, none, 0⟩ : CellP)) rfl rfl ⟨Nat.le_refl 1, ⟨by show (m.length + 1) * 80 ≤ _; omega, by omega⟩, by decide⟩ fun ob2 oc2 hoc2 _ => ?_
      (first | refine wX ?_ | exact wZ)
      have hm2 : m.length + 1 = (m ++ [(⟨⟨0, 0, [], [], []⟩, none, 0, none, 0⟩ : CellP)]).length := by simp
      have hg2 := grC_snoc m ⟨⟨0, 0, [], [], []⟩, none, 0, none, 0⟩
      refine ⟨⟨i + 1, some ob2, oc2, m ++ [⟨⟨0, 0, [], [], []⟩, none, 0, none, 0⟩]⟩, ⟨by omega, by rw [← hm2, hml], ?_, (fun h => by cases h), by rw [← hm2]; exact hoc2⟩, by show n - (i + 1) < n - i; omega, ?_, [.fact (fun w => SlAt a (L.length * 1) (iC L) w), .app 42 5 (grC m ++ cellC ⟨⟨0, 0, [], [], []⟩, none, 0, none, 0⟩) (some ⟨ob2, 0, none⟩) (m.length + 1) oc2, .fact (fun w => ∀ q ∈ m ++ [(⟨⟨0, 0, [], [], []⟩, none, 0, none, 0⟩ : CellP)], CellF q w), .dead, .dead], turnS ⟨.inr (.inl rfl), .inr (.inl rfl), .inr (.inr ⟨_, rfl, fun w hw q hq => ?_⟩), by repeat (first | exact trivial | refine ⟨.inl rfl, ?_⟩)⟩, ?_⟩
      · intro q hq
        rcases List.mem_append.1 hq with hq | hq
        · exact hmo q hq
        · rw [List.mem_singleton.1 hq]
          exact grw_plain n _ _ _ (by decide)
      · (repeat' (first | exact trivial | refine And.intro (by with_reducible rfl) ?_ | (with_reducible exact wkC_refl _) | (with_reducible exact wkCs_refl _) | refine And.intro ?_ ?_))
        all_goals first | rfl | exact av_int (by rw [wrap_i64 (by omega)]; omega) | (rw [hm2]; rfl)
      · rcases List.mem_append.1 hq with hq | hq
        · exact hw.2.1 q hq
        · rw [List.mem_singleton.1 hq]
          exact ⟨SlAt.nil, SlAt.nil⟩
      · show wkH _ [Ent.fact _, .app 42 5 (grC (m ++ [_])) _ (m ++ [_]).length _, _]
        rw [← hm2, hg2]
        exact ⟨wkE_refl _, wkE_refl _, wkE_refl _, trivial⟩
    · -- the cell is put behind the graph; ⟨⟨1, 0, [], [], []⟩, none, 0, none, 0⟩: the cell, , .dead, .dead: what else is over, ⟨SlAt.nil, SlAt.nil⟩: its rows
      (first | refine wX ?_ | exact wZ)
      try refine Nd.mk ⟨Nat.le_refl 1, rfl, rfl⟩ ?_
      (conv => whnf)
      refine AppN.grow 1 (grC m) (cellC (⟨⟨1, 0, [], [], []⟩, none, 0, none, 0⟩ : CellP)) rfl rfl ⟨Nat.le_refl 1, ⟨by show (m.length + 1) * 80 ≤ _; omega, by omega⟩, by decide⟩ fun ob2 oc2 hoc2 _ => ?_
      (first | refine wX ?_ | exact wZ)
      have hm2 : m.length + 1 = (m ++ [(⟨⟨1, 0, [], [], []⟩, none, 0, none, 0⟩ : CellP)]).length := by simp
      have hg2 := grC_snoc m ⟨⟨1, 0, [], [], []⟩, none, 0, none, 0⟩
      refine ⟨⟨i + 1, some ob2, oc2, m ++ [⟨⟨1, 0, [], [], []⟩, none, 0, none, 0⟩]⟩, ⟨by omega, by rw [← hm2, hml], ?_, (fun h => by cases h), by rw [← hm2]; exact hoc2⟩, by show n - (i + 1) < n - i; omega, ?_, [.fact (fun w => SlAt a (L.length * 1) (iC L) w), .app 42 5 (grC m ++ cellC ⟨⟨1, 0, [], [], []⟩, none, 0, none, 0⟩) (some ⟨ob2, 0, none⟩) (m.length + 1) oc2, .fact (fun w => ∀ q ∈ m ++ [(⟨⟨1, 0, [], [], []⟩, none, 0, none, 0⟩ : CellP)], CellF q w), .dead, .dead], turnS ⟨.inr (.inl rfl), .inr (.inl rfl), .inr (.inr ⟨_, rfl, fun w hw q hq => ?_⟩), by repeat (first | exact trivial | refine ⟨.inl rfl, ?_⟩)⟩, ?_⟩
      · intro q hq
        rcases List.mem_append.1 hq with hq | hq
        · exact hmo q hq
        · rw [List.mem_singleton.1 hq]
          exact grw_plain n _ _ _ (by decide)
      · (repeat' (first | exact trivial | refine And.intro (by with_reducible rfl) ?_ | (with_reducible exact wkC_refl _) | (with_reducible exact wkCs_refl _) | refine And.intro ?_ ?_))
        all_goals first | rfl | exact av_int (by rw [wrap_i64 (by omega)]; omega) | (rw [hm2]; rfl)
      · rcases List.mem_append.1 hq with hq | hq
        · exact hw.2.1 q hq
        · rw [List.mem_singleton.1 hq]
          exact ⟨SlAt.nil, SlAt.nil⟩
      · show wkH _ [Ent.fact _, .app 42 5 (grC (m ++ [_])) _ (m ++ [_]).length _, _]
        rw [← hm2, hg2]
        exact ⟨wkE_refl _, wkE_refl _, wkE_refl _, trivial⟩
    · -- the cell is put behind the graph; ⟨⟨2, 0, [], [], []⟩, none, 0, none, 0⟩: the cell, , .dead, .dead: what else is over, ⟨SlAt.nil, SlAt.nil⟩: its rows
      (first | refine wX ?_ | exact wZ)
      try refine Nd.mk ⟨Nat.le_refl 1, rfl, rfl⟩ ?_
      (conv => whnf)
      refine AppN.grow 1 (grC m) (cellC (⟨⟨2, 0, [], [], []⟩, none, 0, none, 0⟩ : CellP)) rfl rfl ⟨Nat.le_refl 1, ⟨by show (m.length + 1) * 80 ≤ _; omega, by omega⟩, by decide⟩ fun ob2 oc2 hoc2 _ => ?_
      (first | refine wX ?_ | exact wZ)
      have hm2 : m.length + 1 = (m ++ [(⟨⟨2, 0, [], [], []⟩, none, 0, none, 0⟩ : CellP)]).length := by simp
      have hg2 := grC_snoc m ⟨⟨2, 0, [], [], []⟩, none, 0, none, 0⟩
      refine ⟨⟨i + 1, some ob2, oc2, m ++ [⟨⟨2, 0, [], [], []⟩, none, 0, none, 0⟩]⟩, ⟨by omega, by rw [← hm2, hml], ?_, (fun h => by cases h), by rw [← hm2]; exact hoc2⟩, by show n - (i + 1) < n - i; omega, ?_, [.fact (fun w => SlAt a (L.length * 1) (iC L) w), .app 42 5 (grC m ++ cellC ⟨⟨2, 0, [], [], []⟩, none, 0, none, 0⟩) (some ⟨ob2, 0, none⟩) (m.length + 1) oc2, .fact (fun w => ∀ q ∈ m ++ [(⟨⟨2, 0, [], [], []⟩, none, 0, none, 0⟩ : CellP)], CellF q w), .dead, .dead], turnS ⟨.inr (.inl rfl), .inr (.inl rfl), .inr (.inr ⟨_, rfl, fun w hw q hq => ?_⟩), by repeat (first | exact trivial | refine ⟨.inl rfl, ?_⟩)⟩, ?_⟩
      · intro q hq
        rcases List.mem_append.1 hq with hq | hq
        · exact hmo q hq
        · rw [List.mem_singleton.1 hq]
          exact grw_plain n _ _ _ (by decide)
      · (repeat' (first | exact trivial | refine And.intro (by with_reducible rfl) ?_ | (with_reducible exact wkC_refl _) | (with_reducible exact wkCs_refl _) | refine And.intro ?_ ?_))
        all_goals first | rfl | exact av_int (by rw [wrap_i64 (by omega)]; omega) | (rw [hm2]; rfl)
      · rcases List.mem_append.1 hq with hq | hq
        · exact hw.2.1 q hq
        · rw [List.mem_singleton.1 hq]
          exact ⟨SlAt.nil, SlAt.nil⟩
      · show wkH _ [Ent.fact _, .app 42 5 (grC (m ++ [_])) _ (m ++ [_]).length _, _]
        rw [← hm2, hg2]
        exact ⟨wkE_refl _, wkE_refl _, wkE_refl _, trivial⟩
    · (first | refine wX ?_ | exact wZ)
      generalize IntKind.i64.wrap (IntKind.i64.wrap (x.tmod 5) - 2) = nu at *
      -- the cell is put behind the graph; ⟨⟨3, nu, [], [], []⟩, none, 0, none, 0⟩: the cell, , .dead, .dead: what else is over, ⟨SlAt.nil, SlAt.nil⟩: its rows
      (first | refine wX ?_ | exact wZ)
      try refine Nd.mk ⟨Nat.le_refl 1, rfl, rfl⟩ ?_
      (conv => whnf)
      refine AppN.grow 1 (grC m) (cellC (⟨⟨3, nu, [], [], []⟩, none, 0, none, 0⟩ : CellP)) rfl rfl ⟨Nat.le_refl 1, ⟨by show (m.length + 1) * 80 ≤ _; omega, by omega⟩, by decide⟩ fun ob2 oc2 hoc2 _ => ?_
      (first | refine wX ?_ | exact wZ)
      have hm2 : m.length + 1 = (m ++ [(⟨⟨3, nu, [], [], []⟩, none, 0, none, 0⟩ : CellP)]).length := by simp
      have hg2 := grC_snoc m ⟨⟨3, nu, [], [], []⟩, none, 0, none, 0⟩
      refine ⟨⟨i + 1, some ob2, oc2, m ++ [⟨⟨3, nu, [], [], []⟩, none, 0, none, 0⟩]⟩, ⟨by omega, by rw [← hm2, hml], ?_, (fun h => by cases h), by rw [← hm2]; exact hoc2⟩, by show n - (i + 1) < n - i; omega, ?_, [.fact (fun w => SlAt a (L.length * 1) (iC L) w), .app 42 5 (grC m ++ cellC ⟨⟨3, nu, [], [], []⟩, none, 0, none, 0⟩) (some ⟨ob2, 0, none⟩) (m.length + 1) oc2, .fact (fun w => ∀ q ∈ m ++ [(⟨⟨3, nu, [], [], []⟩, none, 0, none, 0⟩ : CellP)], CellF q w), .dead, .dead], turnS ⟨.inr (.inl rfl), .inr (.inl rfl), .inr (.inr ⟨_, rfl, fun w hw q hq => ?_⟩), by repeat (first | exact trivial | refine ⟨.inl rfl, ?_⟩)⟩, ?_⟩
      · intro q hq
        rcases List.mem_append.1 hq with hq | hq
        · exact hmo q hq
        · rw [List.mem_singleton.1 hq]
          exact grw_plain n _ _ _ (by decide)
      · (repeat' (first | exact trivial | refine And.intro (by with_reducible rfl) ?_ | (with_reducible exact wkC_refl _) | (with_reducible exact wkCs_refl _) | refine And.intro ?_ ?_))
        all_goals first | rfl | exact av_int (by rw [wrap_i64 (by omega)]; omega) | (rw [hm2]; rfl)
      · rcases List.mem_append.1 hq with hq | hq
        · exact hw.2.1 q hq
        · rw [List.mem_singleton.1 hq]
          exact ⟨SlAt.nil, SlAt.nil⟩
      · show wkH _ [Ent.fact _, .app 42 5 (grC (m ++ [_])) _ (m ++ [_]).length _, _]
        rw [← hm2, hg2]
        exact ⟨wkE_refl _, wkE_refl _, wkE_refl _, trivial⟩
    · (first | refine wX ?_ | exact wZ)
      rw [show x.tmod 4 = x % 4 by rw [Int.tmod_eq_emod_of_nonneg (by omega)]]
      have hj : x % 4 = 0 ∨ x % 4 = 1 ∨ x % 4 = 2 ∨ x % 4 = 3 := by omega
      rcases hj with e | e | e | e <;> rw [e]
      · -- the cell is put behind the graph; ⟨⟨4, 0, [97], [], []⟩, none, 0, none, 0⟩: the cell, , .dead, .dead, .dead: what else is over, ⟨SlAt.nil, SlAt.nil⟩: its rows
        (first | refine wX ?_ | exact wZ)
        try refine Nd.mk ⟨Nat.le_refl 1, rfl, rfl⟩ ?_
        (conv => whnf)
        refine AppN.grow 1 (grC m) (cellC (⟨⟨4, 0, [97], [], []⟩, none, 0, none, 0⟩ : CellP)) rfl rfl ⟨Nat.le_refl 1, ⟨by show (m.length + 1) * 80 ≤ _; omega, by omega⟩, by decide⟩ fun ob2 oc2 hoc2 _ => ?_
        (first | refine wX ?_ | exact wZ)
        have hm2 : m.length + 1 = (m ++ [(⟨⟨4, 0, [97], [], []⟩, none, 0, none, 0⟩ : CellP)]).length := by simp
        have hg2 := grC_snoc m ⟨⟨4, 0, [97], [], []⟩, none, 0, none, 0⟩
        refine ⟨⟨i + 1, some ob2, oc2, m ++ [⟨⟨4, 0, [97], [], []⟩, none, 0, none, 0⟩]⟩, ⟨by omega, by rw [← hm2, hml], ?_, (fun h => by cases h), by rw [← hm2]; exact hoc2⟩, by show n - (i + 1) < n - i; omega, ?_, [.fact (fun w => SlAt a (L.length * 1) (iC L) w), .app 42 5 (grC m ++ cellC ⟨⟨4, 0, [97], [], []⟩, none, 0, none, 0⟩) (some ⟨ob2, 0, none⟩) (m.length + 1) oc2, .fact (fun w => ∀ q ∈ m ++ [(⟨⟨4, 0, [97], [], []⟩, none, 0, none, 0⟩ : CellP)], CellF q w), .dead, .dead, .dead], turnS ⟨.inr (.inl rfl), .inr (.inl rfl), .inr (.inr ⟨_, rfl, fun w hw q hq => ?_⟩), by repeat (first | exact trivial | refine ⟨.inl rfl, ?_⟩)⟩, ?_⟩
        · intro q hq
          rcases List.mem_append.1 hq with hq | hq
          · exact hmo q hq
          · rw [List.mem_singleton.1 hq]
            exact grw_plain n _ _ _ (by decide)
        · (repeat' (first | exact trivial | refine And.intro (by with_reducible rfl) ?_ | (with_reducible exact wkC_refl _) | (with_reducible exact wkCs_refl _) | refine And.intro ?_ ?_))
          all_goals first | rfl | exact av_int (by rw [wrap_i64 (by omega)]; omega) | (rw [hm2]; rfl)
        · rcases List.mem_append.1 hq with hq | hq
          · exact hw.2.1 q hq
          · rw [List.mem_singleton.1 hq]
            exact ⟨SlAt.nil, SlAt.nil⟩
        · show wkH _ [Ent.fact _, .app 42 5 (grC (m ++ [_])) _ (m ++ [_]).length _, _]
          rw [← hm2, hg2]
          exact ⟨wkE_refl _, wkE_refl _, wkE_refl _, trivial⟩
      · -- the cell is put behind the graph; ⟨⟨4, 0, [98], [], []⟩, none, 0, none, 0⟩: the cell, , .dead, .dead, .dead: what else is over, ⟨SlAt.nil, SlAt.nil⟩: its rows
        (first | refine wX ?_ | exact wZ)
        try refine Nd.mk ⟨Nat.le_refl 1, rfl, rfl⟩ ?_
        (conv => whnf)
        refine AppN.grow 1 (grC m) (cellC (⟨⟨4, 0, [98], [], []⟩, none, 0, none, 0⟩ : CellP)) rfl rfl ⟨Nat.le_refl 1, ⟨by show (m.length + 1) * 80 ≤ _; omega, by omega⟩, by decide⟩ fun ob2 oc2 hoc2 _ => ?_
        (first | refine wX ?_ | exact wZ)
        have hm2 : m.length + 1 = (m ++ [(⟨⟨4, 0, [98], [], []⟩, none, 0, none, 0⟩ : CellP)]).length := by simp
        have hg2 := grC_snoc m ⟨⟨4, 0, [98], [], []⟩, none, 0, none, 0⟩
        refine ⟨⟨i + 1, some ob2, oc2, m ++ [⟨⟨4, 0, [98], [], []⟩, none, 0, none, 0⟩]⟩, ⟨by omega, by rw [← hm2, hml], ?_, (fun h => by cases h), by rw [← hm2]; exact hoc2⟩, by show n - (i + 1) < n - i; omega, ?_, [.fact (fun w => SlAt a (L.length * 1) (iC L) w), .app 42 5 (grC m ++ cellC ⟨⟨4, 0, [98], [], []⟩, none, 0, none, 0⟩) (some ⟨ob2, 0, none⟩) (m.length + 1) oc2, .fact (fun w => ∀ q ∈ m ++ [(⟨⟨4, 0, [98], [], []⟩, none, 0, none, 0⟩ : CellP)], CellF q w), .dead, .dead, .dead], turnS ⟨.inr (.inl rfl), .inr (.inl rfl), .inr (.inr ⟨_, rfl, fun w hw q hq => ?_⟩), by repeat (first | exact trivial | refine ⟨.inl rfl, ?_⟩)⟩, ?_⟩
        · intro q hq
          rcases List.mem_append.1 hq with hq | hq
          · exact hmo q hq
          · rw [List.mem_singleton.1 hq]
            exact grw_plain n _ _ _ (by decide)
        · (repeat' (first | exact trivial | refine And.intro (by with_reducible rfl) ?_ | (with_reducible exact wkC_refl _) | (with_reducible exact wkCs_refl _) | refine And.intro ?_ ?_))
          all_goals first | rfl | exact av_int (by rw [wrap_i64 (by omega)]; omega) | (rw [hm2]; rfl)
        · rcases List.mem_append.1 hq with hq | hq
          · exact hw.2.1 q hq
          · rw [List.mem_singleton.1 hq]
            exact ⟨SlAt.nil, SlAt.nil⟩
        · show wkH _ [Ent.fact _, .app 42 5 (grC (m ++ [_])) _ (m ++ [_]).length _, _]
          rw [← hm2, hg2]
          exact ⟨wkE_refl _, wkE_refl _, wkE_refl _, trivial⟩
      · -- the cell is put behind the graph; ⟨⟨4, 0, [35], [], []⟩, none, 0, none, 0⟩: the cell, , .dead, .dead, .dead: what else is over, ⟨SlAt.nil, SlAt.nil⟩: its rows
        (first | refine wX ?_ | exact wZ)
        try refine Nd.mk ⟨Nat.le_refl 1, rfl, rfl⟩ ?_
        (conv => whnf)
        refine AppN.grow 1 (grC m) (cellC (⟨⟨4, 0, [35], [], []⟩, none, 0, none, 0⟩ : CellP)) rfl rfl ⟨Nat.le_refl 1, ⟨by show (m.length + 1) * 80 ≤ _; omega, by omega⟩, by decide⟩ fun ob2 oc2 hoc2 _ => ?_
        (first | refine wX ?_ | exact wZ)
        have hm2 : m.length + 1 = (m ++ [(⟨⟨4, 0, [35], [], []⟩, none, 0, none, 0⟩ : CellP)]).length := by simp
        have hg2 := grC_snoc m ⟨⟨4, 0, [35], [], []⟩, none, 0, none, 0⟩
        refine ⟨⟨i + 1, some ob2, oc2, m ++ [⟨⟨4, 0, [35], [], []⟩, none, 0, none, 0⟩]⟩, ⟨by omega, by rw [← hm2, hml], ?_, (fun h => by cases h), by rw [← hm2]; exact hoc2⟩, by show n - (i + 1) < n - i; omega, ?_, [.fact (fun w => SlAt a (L.length * 1) (iC L) w), .app 42 5 (grC m ++ cellC ⟨⟨4, 0, [35], [], []⟩, none, 0, none, 0⟩) (some ⟨ob2, 0, none⟩) (m.length + 1) oc2, .fact (fun w => ∀ q ∈ m ++ [(⟨⟨4, 0, [35], [], []⟩, none, 0, none, 0⟩ : CellP)], CellF q w), .dead, .dead, .dead], turnS ⟨.inr (.inl rfl), .inr (.inl rfl), .inr (.inr ⟨_, rfl, fun w hw q hq => ?_⟩), by repeat (first | exact trivial | refine ⟨.inl rfl, ?_⟩)⟩, ?_⟩
        · intro q hq
          rcases List.mem_append.1 hq with hq | hq
          · exact hmo q hq
          · rw [List.mem_singleton.1 hq]
            exact grw_plain n _ _ _ (by decide)
        · (repeat' (first | exact trivial | refine And.intro (by with_reducible rfl) ?_ | (with_reducible exact wkC_refl _) | (with_reducible exact wkCs_refl _) | refine And.intro ?_ ?_))
          all_goals first | rfl | exact av_int (by rw [wrap_i64 (by omega)]; omega) | (rw [hm2]; rfl)
        · rcases List.mem_append.1 hq with hq | hq
          · exact hw.2.1 q hq
          · rw [List.mem_singleton.1 hq]
            exact ⟨SlAt.nil, SlAt.nil⟩
        · show wkH _ [Ent.fact _, .app 42 5 (grC (m ++ [_])) _ (m ++ [_]).length _, _]
          rw [← hm2, hg2]
          exact ⟨wkE_refl _, wkE_refl _, wkE_refl _, trivial⟩
      · -- the cell is put behind the graph; ⟨⟨4, 0, [97, 97], [], []⟩, none, 0, none, 0⟩: the cell, , .dead, .dead, .dead: what else is over, ⟨SlAt.nil, SlAt.nil⟩: its rows
        (first | refine wX ?_ | exact wZ)
        try refine Nd.mk ⟨Nat.le_refl 1, rfl, rfl⟩ ?_
        (conv => whnf)
        refine AppN.grow 1 (grC m) (cellC (⟨⟨4, 0, [97, 97], [], []⟩, none, 0, none, 0⟩ : CellP)) rfl rfl ⟨Nat.le_refl 1, ⟨by show (m.length + 1) * 80 ≤ _; omega, by omega⟩, by decide⟩ fun ob2 oc2 hoc2 _ => ?_
        (first | refine wX ?_ | exact wZ)
        have hm2 : m.length + 1 = (m ++ [(⟨⟨4, 0, [97, 97], [], []⟩, none, 0, none, 0⟩ : CellP)]).length := by simp
        have hg2 := grC_snoc m ⟨⟨4, 0, [97, 97], [], []⟩, none, 0, none, 0⟩
        refine ⟨⟨i + 1, some ob2, oc2, m ++ [⟨⟨4, 0, [97, 97], [], []⟩, none, 0, none, 0⟩]⟩, ⟨by omega, by rw [← hm2, hml], ?_, (fun h => by cases h), by rw [← hm2]; exact hoc2⟩, by show n - (i + 1) < n - i; omega, ?_, [.fact (fun w => SlAt a (L.length * 1) (iC L) w), .app 42 5 (grC m ++ cellC ⟨⟨4, 0, [97, 97], [], []⟩, none, 0, none, 0⟩) (some ⟨ob2, 0, none⟩) (m.length + 1) oc2, .fact (fun w => ∀ q ∈ m ++ [(⟨⟨4, 0, [97, 97], [], []⟩, none, 0, none, 0⟩ : CellP)], CellF q w), .dead, .dead, .dead], turnS ⟨.inr (.inl rfl), .inr (.inl rfl), .inr (.inr ⟨_, rfl, fun w hw q hq => ?_⟩), by repeat (first | exact trivial | refine ⟨.inl rfl, ?_⟩)⟩, ?_⟩
        · intro q hq
          rcases List.mem_append.1 hq with hq | hq
          · exact hmo q hq
          · rw [List.mem_singleton.1 hq]
            exact grw_plain n _ _ _ (by decide)
        · (repeat' (first | exact trivial | refine And.intro (by with_reducible rfl) ?_ | (with_reducible exact wkC_refl _) | (with_reducible exact wkCs_refl _) | refine And.intro ?_ ?_))
          all_goals first | rfl | exact av_int (by rw [wrap_i64 (by omega)]; omega) | (rw [hm2]; rfl)
        · rcases List.mem_append.1 hq with hq | hq
          · exact hw.2.1 q hq
          · rw [List.mem_singleton.1 hq]
            exact ⟨SlAt.nil, SlAt.nil⟩
        · show wkH _ [Ent.fact _, .app 42 5 (grC (m ++ [_])) _ (m ++ [_]).length _, _]
          rw [← hm2, hg2]
          exact ⟨wkE_refl _, wkE_refl _, wkE_refl _, trivial⟩
    · (first | refine wX ?_ | exact wZ)
      rw [show x.tmod 4 = x % 4 by rw [Int.tmod_eq_emod_of_nonneg (by omega)]]
      have hj : x % 4 = 0 ∨ x % 4 = 1 ∨ x % 4 = 2 ∨ x % 4 = 3 := by omega
      rcases hj with e | e | e | e <;> rw [e]
      · -- the cell is put behind the graph; ⟨⟨5, 0, [97], [], []⟩, none, 0, none, 0⟩: the cell, , .dead, .dead, .dead: what else is over, ⟨SlAt.nil, SlAt.nil⟩: its rows
        (first | refine wX ?_ | exact wZ)
        try refine Nd.mk ⟨Nat.le_refl 1, rfl, rfl⟩ ?_
        (conv => whnf)
        refine AppN.grow 1 (grC m) (cellC (⟨⟨5, 0, [97], [], []⟩, none, 0, none, 0⟩ : CellP)) rfl rfl ⟨Nat.le_refl 1, ⟨by show (m.length + 1) * 80 ≤ _; omega, by omega⟩, by decide⟩ fun ob2 oc2 hoc2 _ => ?_
        (first | refine wX ?_ | exact wZ)
        have hm2 : m.length + 1 = (m ++ [(⟨⟨5, 0, [97], [], []⟩, none, 0, none, 0⟩ : CellP)]).length := by simp
        have hg2 := grC_snoc m ⟨⟨5, 0, [97], [], []⟩, none, 0, none, 0⟩
        refine ⟨⟨i + 1, some ob2, oc2, m ++ [⟨⟨5, 0, [97], [], []⟩, none, 0, none, 0⟩]⟩, ⟨by omega, by rw [← hm2, hml], ?_, (fun h => by cases h), by rw [← hm2]; exact hoc2⟩, by show n - (i + 1) < n - i; omega, ?_, [.fact (fun w => SlAt a (L.length * 1) (iC L) w), .app 42 5 (grC m ++ cellC ⟨⟨5, 0, [97], [], []⟩, none, 0, none, 0⟩) (some ⟨ob2, 0, none⟩) (m.length + 1) oc2, .fact (fun w => ∀ q ∈ m ++ [(⟨⟨5, 0, [97], [], []⟩, none, 0, none, 0⟩ : CellP)], CellF q w), .dead, .dead, .dead], turnS ⟨.inr (.inl rfl), .inr (.inl rfl), .inr (.inr ⟨_, rfl, fun w hw q hq => ?_⟩), by repeat (first | exact trivial | refine ⟨.inl rfl, ?_⟩)⟩, ?_⟩
        · intro q hq
          rcases List.mem_append.1 hq with hq | hq
          · exact hmo q hq
          · rw [List.mem_singleton.1 hq]
            exact grw_plain n _ _ _ (by decide)
        · (repeat' (first | exact trivial | refine And.intro (by with_reducible rfl) ?_ | (with_reducible exact wkC_refl _) | (with_reducible exact wkCs_refl _) | refine And.intro ?_ ?_))
          all_goals first | rfl | exact av_int (by rw [wrap_i64 (by omega)]; omega) | (rw [hm2]; rfl)
        · rcases List.mem_append.1 hq with hq | hq
          · exact hw.2.1 q hq
          · rw [List.mem_singleton.1 hq]
            exact ⟨SlAt.nil, SlAt.nil⟩
        · show wkH _ [Ent.fact _, .app 42 5 (grC (m ++ [_])) _ (m ++ [_]).length _, _]
          rw [← hm2, hg2]
          exact ⟨wkE_refl _, wkE_refl _, wkE_refl _, trivial⟩
      · -- the cell is put behind the graph; ⟨⟨5, 0, [98], [], []⟩, none, 0, none, 0⟩: the cell, , .dead, .dead, .dead: what else is over, ⟨SlAt.nil, SlAt.nil⟩: its rows
        (first | refine wX ?_ | exact wZ)
        try refine Nd.mk ⟨Nat.le_refl 1, rfl, rfl⟩ ?_
        (conv => whnf)
        refine AppN.grow 1 (grC m) (cellC (⟨⟨5, 0, [98], [], []⟩, none, 0, none, 0⟩ : CellP)) rfl rfl ⟨Nat.le_refl 1, ⟨by show (m.length + 1) * 80 ≤ _; omega, by omega⟩, by decide⟩ fun ob2 oc2 hoc2 _ => ?_
        (first | refine wX ?_ | exact wZ)
        have hm2 : m.length + 1 = (m ++ [(⟨⟨5, 0, [98], [], []⟩, none, 0, none, 0⟩ : CellP)]).length := by simp
        have hg2 := grC_snoc m ⟨⟨5, 0, [98], [], []⟩, none, 0, none, 0⟩
        refine ⟨⟨i + 1, some ob2, oc2, m ++ [⟨⟨5, 0, [98], [], []⟩, none, 0, none, 0⟩]⟩, ⟨by omega, by rw [← hm2, hml], ?_, (fun h => by cases h), by rw [← hm2]; exact hoc2⟩, by show n - (i + 1) < n - i; omega, ?_, [.fact (fun w => SlAt a (L.length * 1) (iC L) w), .app 42 5 (grC m ++ cellC ⟨⟨5, 0, [98], [], []⟩, none, 0, none, 0⟩) (some ⟨ob2, 0, none⟩) (m.length + 1) oc2, .fact (fun w => ∀ q ∈ m ++ [(⟨⟨5, 0, [98], [], []⟩, none, 0, none, 0⟩ : CellP)], CellF q w), .dead, .dead, .dead], turnS ⟨.inr (.inl rfl), .inr (.inl rfl), .inr (.inr ⟨_, rfl, fun w hw q hq => ?_⟩), by repeat (first | exact trivial | refine ⟨.inl rfl, ?_⟩)⟩, ?_⟩
        · intro q hq
          rcases List.mem_append.1 hq with hq | hq
          · exact hmo q hq
          · rw [List.mem_singleton.1 hq]
            exact grw_plain n _ _ _ (by decide)
        · (repeat' (first | exact trivial | refine And.intro (by with_reducible rfl) ?_ | (with_reducible exact wkC_refl _) | (with_reducible exact wkCs_refl _) | refine And.intro ?_ ?_))
          all_goals first | rfl | exact av_int (by rw [wrap_i64 (by omega)]; omega) | (rw [hm2]; rfl)
        · rcases List.mem_append.1 hq with hq | hq
          · exact hw.2.1 q hq
          · rw [List.mem_singleton.1 hq]
            exact ⟨SlAt.nil, SlAt.nil⟩
        · show wkH _ [Ent.fact _, .app 42 5 (grC (m ++ [_])) _ (m ++ [_]).length _, _]
          rw [← hm2, hg2]
          exact ⟨wkE_refl _, wkE_refl _, wkE_refl _, trivial⟩
      · -- the cell is put behind the graph; ⟨⟨5, 0, [35], [], []⟩, none, 0, none, 0⟩: the cell, , .dead, .dead, .dead: what else is over, ⟨SlAt.nil, SlAt.nil⟩: its rows
        (first | refine wX ?_ | exact wZ)
        try refine Nd.mk ⟨Nat.le_refl 1, rfl, rfl⟩ ?_
        (conv => whnf)
        refine AppN.grow 1 (grC m) (cellC (⟨⟨5, 0, [35], [], []⟩, none, 0, none, 0⟩ : CellP)) rfl rfl ⟨Nat.le_refl 1, ⟨by show (m.length + 1) * 80 ≤ _; omega, by omega⟩, by decide⟩ fun ob2 oc2 hoc2 _ => ?_
        (first | refine wX ?_ | exact wZ)
        have hm2 : m.length + 1 = (m ++ [(⟨⟨5, 0, [35], [], []⟩, none, 0, none, 0⟩ : CellP)]).length := by simp
        have hg2 := grC_snoc m ⟨⟨5, 0, [35], [], []⟩, none, 0, none, 0⟩
        refine ⟨⟨i + 1, some ob2, oc2, m ++ [⟨⟨5, 0, [35], [], []⟩, none, 0, none, 0⟩]⟩, ⟨by omega, by rw [← hm2, hml], ?_, (fun h => by cases h), by rw [← hm2]; exact hoc2⟩, by show n - (i + 1) < n - i; omega, ?_, [.fact (fun w => SlAt a (L.length * 1) (iC L) w), .app 42 5 (grC m ++ cellC ⟨⟨5, 0, [35], [], []⟩, none, 0, none, 0⟩) (some ⟨ob2, 0, none⟩) (m.length + 1) oc2, .fact (fun w => ∀ q ∈ m ++ [(⟨⟨5, 0, [35], [], []⟩, none, 0, none, 0⟩ : CellP)], CellF q w), .dead, .dead, .dead], turnS ⟨.inr (.inl rfl), .inr (.inl rfl), .inr (.inr ⟨_, rfl, fun w hw q hq => ?_⟩), by repeat (first | exact trivial | refine ⟨.inl rfl, ?_⟩)⟩, ?_⟩
        · intro q hq
          rcases List.mem_append.1 hq with hq | hq
          · exact hmo q hq
          · rw [List.mem_singleton.1 hq]
            exact grw_plain n _ _ _ (by decide)
        · (repeat' (first | exact trivial | refine And.intro (by with_reducible rfl) ?_ | (with_reducible exact wkC_refl _) | (with_reducible exact wkCs_refl _) | refine And.intro ?_ ?_))
          all_goals first | rfl | exact av_int (by rw [wrap_i64 (by omega)]; omega) | (rw [hm2]; rfl)
        · rcases List.mem_append.1 hq with hq | hq
          · exact hw.2.1 q hq
          · rw [List.mem_singleton.1 hq]
            exact ⟨SlAt.nil, SlAt.nil⟩
        · show wkH _ [Ent.fact _, .app 42 5 (grC (m ++ [_])) _ (m ++ [_]).length _, _]
          rw [← hm2, hg2]
          exact ⟨wkE_refl _, wkE_refl _, wkE_refl _, trivial⟩
      · -- the cell is put behind the graph; ⟨⟨5, 0, [97, 97], [], []⟩, none, 0, none, 0⟩: the cell, , .dead, .dead, .dead: what else is over, ⟨SlAt.nil, SlAt.nil⟩: its rows
        (first | refine wX ?_ | exact wZ)
        try refine Nd.mk ⟨Nat.le_refl 1, rfl, rfl⟩ ?_
        (conv => whnf)
        refine AppN.grow 1 (grC m) (cellC (⟨⟨5, 0, [97, 97], [], []⟩, none, 0, none, 0⟩ : CellP)) rfl rfl ⟨Nat.le_refl 1, ⟨by show (m.length + 1) * 80 ≤ _; omega, by omega⟩, by decide⟩ fun ob2 oc2 hoc2 _ => ?_
        (first | refine wX ?_ | exact wZ)
        have hm2 : m.length + 1 = (m ++ [(⟨⟨5, 0, [97, 97], [], []⟩, none, 0, none, 0⟩ : CellP)]).length := by simp
        have hg2 := grC_snoc m ⟨⟨5, 0, [97, 97], [], []⟩, none, 0, none, 0⟩
        refine ⟨⟨i + 1, some ob2, oc2, m ++ [⟨⟨5, 0, [97, 97], [], []⟩, none, 0, none, 0⟩]⟩, ⟨by omega, by rw [← hm2, hml], ?_, (fun h => by cases h), by rw [← hm2]; exact hoc2⟩, by show n - (i + 1) < n - i; omega, ?_, [.fact (fun w => SlAt a (L.length * 1) (iC L) w), .app 42 5 (grC m ++ cellC ⟨⟨5, 0, [97, 97], [], []⟩, none, 0, none, 0⟩) (some ⟨ob2, 0, none⟩) (m.length + 1) oc2, .fact (fun w => ∀ q ∈ m ++ [(⟨⟨5, 0, [97, 97], [], []⟩, none, 0, none, 0⟩ : CellP)], CellF q w), .dead, .dead, .dead], turnS ⟨.inr (.inl rfl), .inr (.inl rfl), .inr (.inr ⟨_, rfl, fun w hw q hq => ?_⟩), by repeat (first | exact trivial | refine ⟨.inl rfl, ?_⟩)⟩, ?_⟩
        · intro q hq
          rcases List.mem_append.1 hq with hq | hq
          · exact hmo q hq
          · rw [List.mem_singleton.1 hq]
            exact grw_plain n _ _ _ (by decide)
        · (repeat' (first | exact trivial | refine And.intro (by with_reducible rfl) ?_ | (with_reducible exact wkC_refl _) | (with_reducible exact wkCs_refl _) | refine And.intro ?_ ?_))
          all_goals first | rfl | exact av_int (by rw [wrap_i64 (by omega)]; omega) | (rw [hm2]; rfl)
        · rcases List.mem_append.1 hq with hq | hq
          · exact hw.2.1 q hq
          · rw [List.mem_singleton.1 hq]
            exact ⟨SlAt.nil, SlAt.nil⟩
        · show wkH _ [Ent.fact _, .app 42 5 (grC (m ++ [_])) _ (m ++ [_]).length _, _]
          rw [← hm2, hg2]
          exact ⟨wkE_refl _, wkE_refl _, wkE_refl _, trivial⟩
    · (first | refine wX ?_ | exact wZ)
      have hc4 : IntKind.i64.wrap (x.tmod 4) = x % 4 := by rw [Int.tmod_eq_emod_of_nonneg (by omega)]; exact wrap_i64 (by omega)
      refine LoopN.intro (Nat × List Int × BSt) (fun ⟨k, its, o⟩ => k ≤ 3 ∧ its.length = k ∧ (∀ y ∈ its, 0 ≤ y) ∧ o.ok its.length)
        (fun ⟨k, its, o⟩ => mkS Tryz.f22.ntmps 0 [(0, .c (.v (.slice a L.length ca))), (3, .c (.v (.int .i64 (n : Int)))), (4, .c (.v (.slice (at0 ob) m.length oc))), (5, .c (.v (.int .i64 (i : Int)))), (6, .c (.v (.int .u64 x))), (7, .c (.lp 3 0)), (8, .c (.v (.int .i64 (k : Int))))])
        (fun ⟨k, its, o⟩ => [.fact (fun w => SlAt a (L.length * 1) (iC L) w), .app 42 5 (grC m) (at0 ob) m.length oc, .fact (fun w => ∀ p ∈ m, CellF p w), .blk 42 (vs (cellC ⟨⟨6, 0, [], [], its⟩, none, 0, at0 o.ob, o.cap⟩)), .app 3 1 (iC its) (at0 o.ob) its.length o.cap]) (fun ⟨k, _, _⟩ => 4 - k) [.app 3 1 [] none 0 0] rfl (fun ⟨_, _, _⟩ => rfl) (fun ⟨_, _, _⟩ => rfl) (fun ⟨_, _, _⟩ _ => okHB_eq rfl) ?_ ?_
      · refine ⟨(0, [], ⟨none, 0⟩), ⟨Nat.zero_le _, rfl, (fun y h => by cases h), fun _ => ⟨rfl, rfl⟩, Nat.le_refl _, fun _ => rfl⟩, ?_, wkE_refl _, wkE_refl _, wkE_refl _, wkE_refl _, wkE_refl _, trivial⟩
        (repeat' (first | exact trivial | refine And.intro (by with_reducible rfl) ?_ | (with_reducible exact wkC_refl _) | (with_reducible exact wkCs_refl _) | refine And.intro ?_ ?_))
        all_goals rfl
      rintro ⟨k, its, ⟨ob0, ocap⟩⟩ ⟨hk, hil, hip, ho⟩
      (first | refine wX ?_ | exact wZ)
      refine brd_dec (fun h2 => ?_) (fun h2 => ?_)
      · rw [hc4] at h2
        ((conv => whnf); (repeat ((first | refine VrN.keep ?_ | refine BoxN.own ?_ | refine RwN.own ?_); (conv => whnf))))
        refine DrawN.plan [0, 2, 4, 9] [(1, 1), (3, 1), (5, 1), (6, 1), (7, 1), (8, 1), (10, 1), (11, 0)] [(12, 0), (13, 0), (14, 0)] (by decide +kernel) ?_
        (first | refine wX ?_ | exact wZ)
        have hit := grw_item x k 4 7 n hxb (by omega) (by decide) (by decide)
        simp only [Int.cast_ofNat_Int] at hit
        generalize (IntKind.i64.wrap (IntKind.u64.wrap (IntKind.u64.wrap (x.tdiv 4) + IntKind.u64.wrap (IntKind.u64.wrap (k : Int) * 7)))).tmod (n : Int) = it at *
        refine Nd.mk ⟨Nat.le_refl 1, rfl, rfl⟩ ?_
        (conv => whnf)
        refine AppN.grow 4 (iC its) [.int .i64 it] rfl rfl ⟨Nat.le_refl 1, ⟨by show (its.length + 1) * 8 ≤ _; omega, by show its.length + 1 < _; omega⟩, Nat.one_ne_zero⟩ fun wb wc hwc _ => ?_
        have hcl : iC its ++ [.int .i64 it] = iC (its ++ [it]) := by simp [iC]
        have hll : its.length + 1 = (its ++ [it]).length := by simp
        rw [hcl, hll]
        rw [hll] at hwc
        (first | refine wX ?_ | exact wZ)
        refine ⟨(k + 1, its ++ [it], ⟨some wb, wc⟩), ⟨by omega, by rw [← hll, hil], ?_, (fun h => by cases h), hwc, fun h => by have : wc = 0 := h; omega⟩, by show 4 - (k + 1) < 4 - k; omega, ?_, wkE_refl _, wkE_refl _, wkE_refl _, wkE_refl _, wkE_refl _, trivial⟩
        · intro y hy
          rcases List.mem_append.1 hy with hy | hy
          · exact hip y hy
          · rw [List.mem_singleton.1 hy]; exact hit
        (repeat' (first | exact trivial | refine And.intro (by with_reducible rfl) ?_ | (with_reducible exact wkC_refl _) | (with_reducible exact wkCs_refl _) | refine And.intro ?_ ?_))
        all_goals first | rfl | exact av_int (by rw [wrap_i64 (by omega)]; omega)
      · clear hc4
        have hna : at0 ob0 = none → its = [] := fun h => by
          cases ob0 with
          | none => exact List.eq_nil_of_length_eq_zero (ho.1 rfl).1
          | some b => cases h
        have hoc2' : its.length ≤ ocap := ho.2.1
        -- the cell is put behind the graph; ⟨⟨6, 0, [], [], its⟩, none, 0, at0 ob0, ocap⟩: the cell, , .dead, .dead, .dead: what else is over, ⟨SlAt.nil, hw.2.2.1⟩: its rows
        (first | refine wX ?_ | exact wZ)
        try refine Nd.mk ⟨Nat.le_refl 1, rfl, rfl⟩ ?_
        (conv => whnf)
        refine AppN.grow 1 (grC m) (cellC (⟨⟨6, 0, [], [], its⟩, none, 0, at0 ob0, ocap⟩ : CellP)) rfl rfl ⟨Nat.le_refl 1, ⟨by show (m.length + 1) * 80 ≤ _; omega, by omega⟩, by decide⟩ fun ob2 oc2 hoc2 _ => ?_
        (first | refine wX ?_ | exact wZ)
        have hm2 : m.length + 1 = (m ++ [(⟨⟨6, 0, [], [], its⟩, none, 0, at0 ob0, ocap⟩ : CellP)]).length := by simp
        have hg2 := grC_snoc m ⟨⟨6, 0, [], [], its⟩, none, 0, at0 ob0, ocap⟩
        refine ⟨⟨i + 1, some ob2, oc2, m ++ [⟨⟨6, 0, [], [], its⟩, none, 0, at0 ob0, ocap⟩]⟩, ⟨by omega, by rw [← hm2, hml], ?_, (fun h => by cases h), by rw [← hm2]; exact hoc2⟩, by show n - (i + 1) < n - i; omega, ?_, [.fact (fun w => SlAt a (L.length * 1) (iC L) w), .app 42 5 (grC m ++ cellC ⟨⟨6, 0, [], [], its⟩, none, 0, at0 ob0, ocap⟩) (some ⟨ob2, 0, none⟩) (m.length + 1) oc2, .fact (fun w => ∀ q ∈ m ++ [(⟨⟨6, 0, [], [], its⟩, none, 0, at0 ob0, ocap⟩ : CellP)], CellF q w), .dead, .dead, .dead], turnS ⟨.inr (.inl rfl), .inr (.inl rfl), .inr (.inr ⟨_, rfl, fun w hw q hq => ?_⟩), by repeat (first | exact trivial | refine ⟨.inl rfl, ?_⟩)⟩, ?_⟩
        · intro q hq
          rcases List.mem_append.1 hq with hq | hq
          · exact hmo q hq
          · rw [List.mem_singleton.1 hq]
            exact ⟨⟨fun _ => rfl, hna, Nat.zero_le _, by show its.length ≤ _; omega, (fun s h => (by cases h)), Nat.zero_le _, Nat.le_refl _, hoc2'⟩, hip, by show its.length ≤ 4; omega, Nat.zero_le _⟩
        · (repeat' (first | exact trivial | refine And.intro (by with_reducible rfl) ?_ | (with_reducible exact wkC_refl _) | (with_reducible exact wkCs_refl _) | refine And.intro ?_ ?_))
          all_goals first | rfl | exact av_int (by rw [wrap_i64 (by omega)]; omega) | (rw [hm2]; rfl)
        · rcases List.mem_append.1 hq with hq | hq
          · exact hw.2.1 q hq
          · rw [List.mem_singleton.1 hq]
            exact ⟨SlAt.nil, hw.2.2.1⟩
        · show wkH _ [Ent.fact _, .app 42 5 (grC (m ++ [_])) _ (m ++ [_]).length _, _]
          rw [← hm2, hg2]
          exact ⟨wkE_refl _, wkE_refl _, wkE_refl _, trivial⟩
    · -- the cell is put behind the graph; ⟨⟨7, 0, [], [], []⟩, none, 0, none, 0⟩: the cell, , .dead, .dead: what else is over, ⟨SlAt.nil, SlAt.nil⟩: its rows
      (first | refine wX ?_ | exact wZ)
      try refine Nd.mk ⟨Nat.le_refl 1, rfl, rfl⟩ ?_
      (conv => whnf)
      refine AppN.grow 1 (grC m) (cellC (⟨⟨7, 0, [], [], []⟩, none, 0, none, 0⟩ : CellP)) rfl rfl ⟨Nat.le_refl 1, ⟨by show (m.length + 1) * 80 ≤ _; omega, by omega⟩, by decide⟩ fun ob2 oc2 hoc2 _ => ?_
      (first | refine wX ?_ | exact wZ)
      have hm2 : m.length + 1 = (m ++ [(⟨⟨7, 0, [], [], []⟩, none, 0, none, 0⟩ : CellP)]).length := by simp
      have hg2 := grC_snoc m ⟨⟨7, 0, [], [], []⟩, none, 0, none, 0⟩
      refine ⟨⟨i + 1, some ob2, oc2, m ++ [⟨⟨7, 0, [], [], []⟩, none, 0, none, 0⟩]⟩, ⟨by omega, by rw [← hm2, hml], ?_, (fun h => by cases h), by rw [← hm2]; exact hoc2⟩, by show n - (i + 1) < n - i; omega, ?_, [.fact (fun w => SlAt a (L.length * 1) (iC L) w), .app 42 5 (grC m ++ cellC ⟨⟨7, 0, [], [], []⟩, none, 0, none, 0⟩) (some ⟨ob2, 0, none⟩) (m.length + 1) oc2, .fact (fun w => ∀ q ∈ m ++ [(⟨⟨7, 0, [], [], []⟩, none, 0, none, 0⟩ : CellP)], CellF q w), .dead, .dead], turnS ⟨.inr (.inl rfl), .inr (.inl rfl), .inr (.inr ⟨_, rfl, fun w hw q hq => ?_⟩), by repeat (first | exact trivial | refine ⟨.inl rfl, ?_⟩)⟩, ?_⟩
      · intro q hq
        rcases List.mem_append.1 hq with hq | hq
        · exact hmo q hq
        · rw [List.mem_singleton.1 hq]
          exact grw_plain n _ _ _ (by decide)
      · (repeat' (first | exact trivial | refine And.intro (by with_reducible rfl) ?_ | (with_reducible exact wkC_refl _) | (with_reducible exact wkCs_refl _) | refine And.intro ?_ ?_))
        all_goals first | rfl | exact av_int (by rw [wrap_i64 (by omega)]; omega) | (rw [hm2]; rfl)
      · rcases List.mem_append.1 hq with hq | hq
        · exact hw.2.1 q hq
        · rw [List.mem_singleton.1 hq]
          exact ⟨SlAt.nil, SlAt.nil⟩
      · show wkH _ [Ent.fact _, .app 42 5 (grC (m ++ [_])) _ (m ++ [_]).length _, _]
        rw [← hm2, hg2]
        exact ⟨wkE_refl _, wkE_refl _, wkE_refl _, trivial⟩
    · (first | refine wX ?_ | exact wZ)
      have hq2 : IntKind.u64.wrap (x.tdiv 2) = x / 2 := by rw [Int.tdiv_eq_ediv_of_nonneg (by omega)]; exact wrap_u64 (by omega)
      have hc3 : IntKind.i64.wrap ((IntKind.u64.wrap (x.tdiv 2)).tmod 3) = x / 2 % 3 := by rw [hq2, Int.tmod_eq_emod_of_nonneg (by omega)]; exact wrap_i64 (by omega)
      rw [show x.tmod 2 = x % 2 by rw [Int.tmod_eq_emod_of_nonneg (by omega)]]
      have hj : x % 2 = 0 ∨ x % 2 = 1 := by omega
      rcases hj with e | e <;> rw [e]
      · (first | refine wX ?_ | exact wZ)
        refine LoopN.intro (Nat × List (List UInt8) × BSt × List Int × BSt) (fun ⟨k, nms, o2, its, o⟩ => k ≤ 2 ∧ nms.length = k ∧ its.length = k ∧ (∀ y ∈ its, 0 ≤ y) ∧ (∀ s ∈ nms, s.length ≤ 2) ∧ o2.ok nms.length ∧ o.ok its.length)
          (fun ⟨k, nms, o2, its, o⟩ => mkS Tryz.f22.ntmps 0 [(0, .c (.v (.slice a L.length ca))), (3, .c (.v (.int .i64 (n : Int)))), (4, .c (.v (.slice (at0 ob) m.length oc))), (5, .c (.v (.int .i64 (i : Int)))), (6, .c (.v (.int .u64 x))), (7, .c (.lp 3 0)), (9, .c (.v (.int .i64 (k : Int))))])
          (fun ⟨k, nms, o2, its, o⟩ => [.fact (fun w => SlAt a (L.length * 1) (iC L) w), .app 42 5 (grC m) (at0 ob) m.length oc, .fact (fun w => ∀ p ∈ m, CellF p w), .blk 42 (vs (cellC ⟨⟨8, 0, [67], nms, its⟩, at0 o2.ob, o2.cap, at0 o.ob, o.cap⟩)), .dead, .app 9 1 (strC nms) (at0 o2.ob) nms.length o2.cap, .app 3 1 (iC its) (at0 o.ob) its.length o.cap]) (fun ⟨k, _, _, _, _⟩ => 3 - k) [.app 9 1 [] none 0 0, .app 3 1 [] none 0 0] rfl (fun ⟨_, _, _, _, _⟩ => rfl) (fun ⟨_, _, _, _, _⟩ => rfl) (fun ⟨_, _, _, _, _⟩ _ => okHB_eq rfl) ?_ ?_
        · refine ⟨(0, [], ⟨none, 0⟩, [], ⟨none, 0⟩), ⟨Nat.zero_le _, rfl, rfl, (fun y h => by cases h), (fun y h => by cases h), ⟨fun _ => ⟨rfl, rfl⟩, Nat.le_refl _, fun _ => rfl⟩, fun _ => ⟨rfl, rfl⟩, Nat.le_refl _, fun _ => rfl⟩, ?_, wkE_refl _, wkE_refl _, wkE_refl _, wkE_refl _, trivial, wkE_refl _, wkE_refl _, trivial⟩
          (repeat' (first | exact trivial | refine And.intro (by with_reducible rfl) ?_ | (with_reducible exact wkC_refl _) | (with_reducible exact wkCs_refl _) | refine And.intro ?_ ?_))
          all_goals rfl
        rintro ⟨k, nms, ⟨nb0, ncap⟩, its, ⟨ob0, ocap⟩⟩ ⟨hk, hnl, hil, hip, hnw, ho2, ho⟩
        (first | refine wX ?_ | exact wZ)
        refine brd_dec (fun h2 => ?_) (fun h2 => ?_)
        · rw [hc3] at h2
          have hk01 : k = 0 ∨ k = 1 := by omega
          rcases hk01 with rfl | rfl
          · -- a name and an item are put behind; [64, 97]: the name, 0: the round
            ((conv => whnf); (repeat ((first | refine VrN.keep ?_ | refine BoxN.own ?_ | refine RwN.own ?_); (conv => whnf))))
            refine DrawN.plan [0, 3] [(1, 1), (2, 0), (4, 1), (5, 1), (6, 0)] [(7, 0), (8, 0), (9, 0)] (by decide +kernel) ?_
            (first | refine wX ?_ | exact wZ)
            refine AppN.grow 5 (strC nms) [.string (bs [64, 97])] rfl rfl ⟨Nat.le_refl 1, ⟨by show (nms.length + 1) * 16 ≤ _; omega, by show nms.length + 1 < _; omega⟩, Nat.one_ne_zero⟩ fun xb xc hxc _ => ?_
            have hcn : strC nms ++ [.string (bs [64, 97])] = strC (nms ++ [[64, 97]]) := by simp [strC]
            have hln : nms.length + 1 = (nms ++ [([64, 97] : List UInt8)]).length := by simp
            rw [hcn, hln]
            rw [hln] at hxc
            (first | refine wX ?_ | exact wZ)
            refine DrawN.plan [0, 2, 4, 9] [(1, 1), (3, 1), (5, 1), (6, 1), (7, 1), (8, 1), (10, 1), (11, 0)] [(12, 0), (13, 0), (14, 0)] (by decide +kernel) ?_
            (first | refine wX ?_ | exact wZ)
            have hit := grw_item x 0 6 5 n hxb (by omega) (by decide) (by decide)
            simp only [Int.cast_ofNat_Int] at hit
            generalize hgi : (IntKind.i64.wrap (IntKind.u64.wrap (IntKind.u64.wrap (x.tdiv 6) + IntKind.u64.wrap (IntKind.u64.wrap (((0 : Nat) : Int)) * 5)))).tmod (n : Int) = it at *
            refine Nd.mk ⟨Nat.le_refl 1, rfl, rfl⟩ ?_
            (conv => whnf)
            refine AppN.grow 6 (iC its) [.int .i64 it] rfl rfl ⟨Nat.le_refl 1, ⟨by show (its.length + 1) * 8 ≤ _; omega, by show its.length + 1 < _; omega⟩, Nat.one_ne_zero⟩ fun wb wc hwc _ => ?_
            have hcl : iC its ++ [.int .i64 it] = iC (its ++ [it]) := by simp [iC]
            have hll : its.length + 1 = (its ++ [it]).length := by simp
            rw [hcl, hll]
            rw [hll] at hwc
            (first | refine wX ?_ | exact wZ)
            refine ⟨(0 + 1, nms ++ [([64, 97] : List UInt8)], ⟨some xb, xc⟩, its ++ [it], ⟨some wb, wc⟩), ⟨by omega, by rw [← hln, hnl], by rw [← hll, hil], ?_, ?_, ⟨(fun h => by cases h), hxc, fun h => by have : xc = 0 := h; omega⟩, (fun h => by cases h), hwc, fun h => by have : wc = 0 := h; omega⟩, by show 3 - (0 + 1) < 3 - 0; omega, ?_, wkE_refl _, wkE_refl _, wkE_refl _, wkE_refl _, trivial, wkE_refl _, wkE_refl _, trivial⟩
            · intro y hy
              rcases List.mem_append.1 hy with hy | hy
              · exact hip y hy
              · rw [List.mem_singleton.1 hy]; exact hit
            · intro y hy
              rcases List.mem_append.1 hy with hy | hy
              · exact hnw y hy
              · rw [List.mem_singleton.1 hy]; decide
            (repeat' (first | exact trivial | refine And.intro (by with_reducible rfl) ?_ | (with_reducible exact wkC_refl _) | (with_reducible exact wkCs_refl _) | refine And.intro ?_ ?_))
            all_goals first | rfl | exact av_int (by rw [wrap_i64 (by omega)]; omega)
          · -- a name and an item are put behind; [64, 98]: the name, 1: the round
            ((conv => whnf); (repeat ((first | refine VrN.keep ?_ | refine BoxN.own ?_ | refine RwN.own ?_); (conv => whnf))))
            refine DrawN.plan [0, 3] [(1, 1), (2, 0), (4, 1), (5, 1), (6, 0)] [(7, 0), (8, 0), (9, 0)] (by decide +kernel) ?_
            (first | refine wX ?_ | exact wZ)
            refine AppN.grow 5 (strC nms) [.string (bs [64, 98])] rfl rfl ⟨Nat.le_refl 1, ⟨by show (nms.length + 1) * 16 ≤ _; omega, by show nms.length + 1 < _; omega⟩, Nat.one_ne_zero⟩ fun xb xc hxc _ => ?_
            have hcn : strC nms ++ [.string (bs [64, 98])] = strC (nms ++ [[64, 98]]) := by simp [strC]
            have hln : nms.length + 1 = (nms ++ [([64, 98] : List UInt8)]).length := by simp
            rw [hcn, hln]
            rw [hln] at hxc
            (first | refine wX ?_ | exact wZ)
            refine DrawN.plan [0, 2, 4, 9] [(1, 1), (3, 1), (5, 1), (6, 1), (7, 1), (8, 1), (10, 1), (11, 0)] [(12, 0), (13, 0), (14, 0)] (by decide +kernel) ?_
            (first | refine wX ?_ | exact wZ)
            have hit := grw_item x 1 6 5 n hxb (by omega) (by decide) (by decide)
            simp only [Int.cast_ofNat_Int] at hit
            generalize hgi : (IntKind.i64.wrap (IntKind.u64.wrap (IntKind.u64.wrap (x.tdiv 6) + IntKind.u64.wrap (IntKind.u64.wrap (((1 : Nat) : Int)) * 5)))).tmod (n : Int) = it at *
            refine Nd.mk ⟨Nat.le_refl 1, rfl, rfl⟩ ?_
            (conv => whnf)
            refine AppN.grow 6 (iC its) [.int .i64 it] rfl rfl ⟨Nat.le_refl 1, ⟨by show (its.length + 1) * 8 ≤ _; omega, by show its.length + 1 < _; omega⟩, Nat.one_ne_zero⟩ fun wb wc hwc _ => ?_
            have hcl : iC its ++ [.int .i64 it] = iC (its ++ [it]) := by simp [iC]
            have hll : its.length + 1 = (its ++ [it]).length := by simp
            rw [hcl, hll]
            rw [hll] at hwc
            (first | refine wX ?_ | exact wZ)
            refine ⟨(1 + 1, nms ++ [([64, 98] : List UInt8)], ⟨some xb, xc⟩, its ++ [it], ⟨some wb, wc⟩), ⟨by omega, by rw [← hln, hnl], by rw [← hll, hil], ?_, ?_, ⟨(fun h => by cases h), hxc, fun h => by have : xc = 0 := h; omega⟩, (fun h => by cases h), hwc, fun h => by have : wc = 0 := h; omega⟩, by show 3 - (1 + 1) < 3 - 1; omega, ?_, wkE_refl _, wkE_refl _, wkE_refl _, wkE_refl _, trivial, wkE_refl _, wkE_refl _, trivial⟩
            · intro y hy
              rcases List.mem_append.1 hy with hy | hy
              · exact hip y hy
              · rw [List.mem_singleton.1 hy]; exact hit
            · intro y hy
              rcases List.mem_append.1 hy with hy | hy
              · exact hnw y hy
              · rw [List.mem_singleton.1 hy]; decide
            (repeat' (first | exact trivial | refine And.intro (by with_reducible rfl) ?_ | (with_reducible exact wkC_refl _) | (with_reducible exact wkCs_refl _) | refine And.intro ?_ ?_))
            all_goals first | rfl | exact av_int (by rw [wrap_i64 (by omega)]; omega)
        · clear hc3
          have hna : at0 ob0 = none → its = [] := fun h => by
            cases ob0 with
            | none => exact List.eq_nil_of_length_eq_zero (ho.1 rfl).1
            | some b => cases h
          have hnn : at0 nb0 = none → nms = [] := fun h => by
            cases nb0 with
            | none => exact List.eq_nil_of_length_eq_zero (ho2.1 rfl).1
            | some b => cases h
          have hoc2' : its.length ≤ ocap := ho.2.1
          have hnc2' : nms.length ≤ ncap := ho2.2.1
          -- the cell is put behind the graph; ⟨⟨8, 0, [67], nms, its⟩, at0 nb0, ncap, at0 ob0, ocap⟩: the cell, , .dead, .dead, .dead, .dead, .dead: what else is over, ⟨hw.2.2.1, hw.2.2.2.1⟩: its rows
          (first | refine wX ?_ | exact wZ)
          try refine Nd.mk ⟨Nat.le_refl 1, rfl, rfl⟩ ?_
          (conv => whnf)
          refine AppN.grow 1 (grC m) (cellC (⟨⟨8, 0, [67], nms, its⟩, at0 nb0, ncap, at0 ob0, ocap⟩ : CellP)) rfl rfl ⟨Nat.le_refl 1, ⟨by show (m.length + 1) * 80 ≤ _; omega, by omega⟩, by decide⟩ fun ob2 oc2 hoc2 _ => ?_
          (first | refine wX ?_ | exact wZ)
          have hm2 : m.length + 1 = (m ++ [(⟨⟨8, 0, [67], nms, its⟩, at0 nb0, ncap, at0 ob0, ocap⟩ : CellP)]).length := by simp
          have hg2 := grC_snoc m ⟨⟨8, 0, [67], nms, its⟩, at0 nb0, ncap, at0 ob0, ocap⟩
          refine ⟨⟨i + 1, some ob2, oc2, m ++ [⟨⟨8, 0, [67], nms, its⟩, at0 nb0, ncap, at0 ob0, ocap⟩]⟩, ⟨by omega, by rw [← hm2, hml], ?_, (fun h => by cases h), by rw [← hm2]; exact hoc2⟩, by show n - (i + 1) < n - i; omega, ?_, [.fact (fun w => SlAt a (L.length * 1) (iC L) w), .app 42 5 (grC m ++ cellC ⟨⟨8, 0, [67], nms, its⟩, at0 nb0, ncap, at0 ob0, ocap⟩) (some ⟨ob2, 0, none⟩) (m.length + 1) oc2, .fact (fun w => ∀ q ∈ m ++ [(⟨⟨8, 0, [67], nms, its⟩, at0 nb0, ncap, at0 ob0, ocap⟩ : CellP)], CellF q w), .dead, .dead, .dead, .dead, .dead], turnS ⟨.inr (.inl rfl), .inr (.inl rfl), .inr (.inr ⟨_, rfl, fun w hw q hq => ?_⟩), by repeat (first | exact trivial | refine ⟨.inl rfl, ?_⟩)⟩, ?_⟩
          · intro q hq
            rcases List.mem_append.1 hq with hq | hq
            · exact hmo q hq
            · rw [List.mem_singleton.1 hq]
              exact ⟨⟨hnn, hna, by show nms.length ≤ _; omega, by show its.length ≤ _; omega, (fun s h => Nat.le_trans (hnw s h) (by decide)), Nat.le_of_ble_eq_true rfl, hnc2', hoc2'⟩, hip, by show its.length ≤ 4; omega, by show nms.length ≤ 2; omega⟩
          · (repeat' (first | exact trivial | refine And.intro (by with_reducible rfl) ?_ | (with_reducible exact wkC_refl _) | (with_reducible exact wkCs_refl _) | refine And.intro ?_ ?_))
            all_goals first | rfl | exact av_int (by rw [wrap_i64 (by omega)]; omega) | (rw [hm2]; rfl)
          · rcases List.mem_append.1 hq with hq | hq
            · exact hw.2.1 q hq
            · rw [List.mem_singleton.1 hq]
              exact ⟨hw.2.2.1, hw.2.2.2.1⟩
          · show wkH _ [Ent.fact _, .app 42 5 (grC (m ++ [_])) _ (m ++ [_]).length _, _]
            rw [← hm2, hg2]
            exact ⟨wkE_refl _, wkE_refl _, wkE_refl _, trivial⟩
      · (first | refine wX ?_ | exact wZ)
        refine LoopN.intro (Nat × List (List UInt8) × BSt × List Int × BSt) (fun ⟨k, nms, o2, its, o⟩ => k ≤ 2 ∧ nms.length = k ∧ its.length = k ∧ (∀ y ∈ its, 0 ≤ y) ∧ (∀ s ∈ nms, s.length ≤ 2) ∧ o2.ok nms.length ∧ o.ok its.length)
          (fun ⟨k, nms, o2, its, o⟩ => mkS Tryz.f22.ntmps 0 [(0, .c (.v (.slice a L.length ca))), (3, .c (.v (.int .i64 (n : Int)))), (4, .c (.v (.slice (at0 ob) m.length oc))), (5, .c (.v (.int .i64 (i : Int)))), (6, .c (.v (.int .u64 x))), (7, .c (.lp 3 0)), (9, .c (.v (.int .i64 (k : Int))))])
          (fun ⟨k, nms, o2, its, o⟩ => [.fact (fun w => SlAt a (L.length * 1) (iC L) w), .app 42 5 (grC m) (at0 ob) m.length oc, .fact (fun w => ∀ p ∈ m, CellF p w), .blk 42 (vs (cellC ⟨⟨8, 0, [68], nms, its⟩, at0 o2.ob, o2.cap, at0 o.ob, o.cap⟩)), .dead, .app 9 1 (strC nms) (at0 o2.ob) nms.length o2.cap, .app 3 1 (iC its) (at0 o.ob) its.length o.cap]) (fun ⟨k, _, _, _, _⟩ => 3 - k) [.app 9 1 [] none 0 0, .app 3 1 [] none 0 0] rfl (fun ⟨_, _, _, _, _⟩ => rfl) (fun ⟨_, _, _, _, _⟩ => rfl) (fun ⟨_, _, _, _, _⟩ _ => okHB_eq rfl) ?_ ?_
        · refine ⟨(0, [], ⟨none, 0⟩, [], ⟨none, 0⟩), ⟨Nat.zero_le _, rfl, rfl, (fun y h => by cases h), (fun y h => by cases h), ⟨fun _ => ⟨rfl, rfl⟩, Nat.le_refl _, fun _ => rfl⟩, fun _ => ⟨rfl, rfl⟩, Nat.le_refl _, fun _ => rfl⟩, ?_, wkE_refl _, wkE_refl _, wkE_refl _, wkE_refl _, trivial, wkE_refl _, wkE_refl _, trivial⟩
          (repeat' (first | exact trivial | refine And.intro (by with_reducible rfl) ?_ | (with_reducible exact wkC_refl _) | (with_reducible exact wkCs_refl _) | refine And.intro ?_ ?_))
          all_goals rfl
        rintro ⟨k, nms, ⟨nb0, ncap⟩, its, ⟨ob0, ocap⟩⟩ ⟨hk, hnl, hil, hip, hnw, ho2, ho⟩
        (first | refine wX ?_ | exact wZ)
        refine brd_dec (fun h2 => ?_) (fun h2 => ?_)
        · rw [hc3] at h2
          have hk01 : k = 0 ∨ k = 1 := by omega
          rcases hk01 with rfl | rfl
          · -- a name and an item are put behind; [64, 97]: the name, 0: the round
            ((conv => whnf); (repeat ((first | refine VrN.keep ?_ | refine BoxN.own ?_ | refine RwN.own ?_); (conv => whnf))))
            refine DrawN.plan [0, 3] [(1, 1), (2, 0), (4, 1), (5, 1), (6, 0)] [(7, 0), (8, 0), (9, 0)] (by decide +kernel) ?_
            (first | refine wX ?_ | exact wZ)
            refine AppN.grow 5 (strC nms) [.string (bs [64, 97])] rfl rfl ⟨Nat.le_refl 1, ⟨by show (nms.length + 1) * 16 ≤ _; omega, by show nms.length + 1 < _; omega⟩, Nat.one_ne_zero⟩ fun xb xc hxc _ => ?_
            have hcn : strC nms ++ [.string (bs [64, 97])] = strC (nms ++ [[64, 97]]) := by simp [strC]
            have hln : nms.length + 1 = (nms ++ [([64, 97] : List UInt8)]).length := by simp
            rw [hcn, hln]
            rw [hln] at hxc
            (first | refine wX ?_ | exact wZ)
            refine DrawN.plan [0, 2, 4, 9] [(1, 1), (3, 1), (5, 1), (6, 1), (7, 1), (8, 1), (10, 1), (11, 0)] [(12, 0), (13, 0), (14, 0)] (by decide +kernel) ?_
            (first | refine wX ?_ | exact wZ)
            have hit := grw_item x 0 6 5 n hxb (by omega) (by decide) (by decide)
            simp only [Int.cast_ofNat_Int] at hit
            generalize hgi : (IntKind.i64.wrap (IntKind.u64.wrap (IntKind.u64.wrap (x.tdiv 6) + IntKind.u64.wrap (IntKind.u64.wrap (((0 : Nat) : Int)) * 5)))).tmod (n : Int) = it at *
            refine Nd.mk ⟨Nat.le_refl 1, rfl, rfl⟩ ?_
            (conv => whnf)
            refine AppN.grow 6 (iC its) [.int .i64 it] rfl rfl ⟨Nat.le_refl 1, ⟨by show (its.length + 1) * 8 ≤ _; omega, by show its.length + 1 < _; omega⟩, Nat.one_ne_zero⟩ fun wb wc hwc _ => ?_
            have hcl : iC its ++ [.int .i64 it] = iC (its ++ [it]) := by simp [iC]
            have hll : its.length + 1 = (its ++ [it]).length := by simp
            rw [hcl, hll]
            rw [hll] at hwc
            (first | refine wX ?_ | exact wZ)
            refine ⟨(0 + 1, nms ++ [([64, 97] : List UInt8)], ⟨some xb, xc⟩, its ++ [it], ⟨some wb, wc⟩), ⟨by omega, by rw [← hln, hnl], by rw [← hll, hil], ?_, ?_, ⟨(fun h => by cases h), hxc, fun h => by have : xc = 0 := h; omega⟩, (fun h => by cases h), hwc, fun h => by have : wc = 0 := h; omega⟩, by show 3 - (0 + 1) < 3 - 0; omega, ?_, wkE_refl _, wkE_refl _, wkE_refl _, wkE_refl _, trivial, wkE_refl _, wkE_refl _, trivial⟩
            · intro y hy
              rcases List.mem_append.1 hy with hy | hy
              · exact hip y hy
              · rw [List.mem_singleton.1 hy]; exact hit
            · intro y hy
              rcases List.mem_append.1 hy with hy | hy
              · exact hnw y hy
              · rw [List.mem_singleton.1 hy]; decide
            (repeat' (first | exact trivial | refine And.intro (by with_reducible rfl) ?_ | (with_reducible exact wkC_refl _) | (with_reducible exact wkCs_refl _) | refine And.intro ?_ ?_))
            all_goals first | rfl | exact av_int (by rw [wrap_i64 (by omega)]; omega)
          · -- a name and an item are put behind; [64, 98]: the name, 1: the round
            ((conv => whnf); (repeat ((first | refine VrN.keep ?_ | refine BoxN.own ?_ | refine RwN.own ?_); (conv => whnf))))
            refine DrawN.plan [0, 3] [(1, 1), (2, 0), (4, 1), (5, 1), (6, 0)] [(7, 0), (8, 0), (9, 0)] (by decide +kernel) ?_
            (first | refine wX ?_ | exact wZ)
            refine AppN.grow 5 (strC nms) [.string (bs [64, 98])] rfl rfl ⟨Nat.le_refl 1, ⟨by show (nms.length + 1) * 16 ≤ _; omega, by show nms.length + 1 < _; omega⟩, Nat.one_ne_zero⟩ fun xb xc hxc _ => ?_
            have hcn : strC nms ++ [.string (bs [64, 98])] = strC (nms ++ [[64, 98]]) := by simp [strC]
            have hln : nms.length + 1 = (nms ++ [([64, 98] : List UInt8)]).length := by simp
            rw [hcn, hln]
            rw [hln] at hxc
            (first | refine wX ?_ | exact wZ)
            refine DrawN.plan [0, 2, 4, 9] [(1, 1), (3, 1), (5, 1), (6, 1), (7, 1), (8, 1), (10, 1), (11, 0)] [(12, 0), (13, 0), (14, 0)] (by decide +kernel) ?_
            (first | refine wX ?_ | exact wZ)
            have hit := grw_item x 1 6 5 n hxb (by omega) (by decide) (by decide)
            simp only [Int.cast_ofNat_Int] at hit
            generalize hgi : (IntKind.i64.wrap (IntKind.u64.wrap (IntKind.u64.wrap (x.tdiv 6) + IntKind.u64.wrap (IntKind.u64.wrap (((1 : Nat) : Int)) * 5)))).tmod (n : Int) = it at *
            refine Nd.mk ⟨Nat.le_refl 1, rfl, rfl⟩ ?_
            (conv => whnf)
            refine AppN.grow 6 (iC its) [.int .i64 it] rfl rfl ⟨Nat.le_refl 1, ⟨by show (its.length + 1) * 8 ≤ _; omega, by show its.length + 1 < _; omega⟩, Nat.one_ne_zero⟩ fun wb wc hwc _ => ?_
            have hcl : iC its ++ [.int .i64 it] = iC (its ++ [it]) := by simp [iC]
            have hll : its.length + 1 = (its ++ [it]).length := by simp
            rw [hcl, hll]
            rw [hll] at hwc
            (first | refine wX ?_ | exact wZ)
            refine ⟨(1 + 1, nms ++ [([64, 98] : List UInt8)], ⟨some xb, xc⟩, its ++ [it], ⟨some wb, wc⟩), ⟨by omega, by rw [← hln, hnl], by rw [← hll, hil], ?_, ?_, ⟨(fun h => by cases h), hxc, fun h => by have : xc = 0 := h; omega⟩, (fun h => by cases h), hwc, fun h => by have : wc = 0 := h; omega⟩, by show 3 - (1 + 1) < 3 - 1; omega, ?_, wkE_refl _, wkE_refl _, wkE_refl _, wkE_refl _, trivial, wkE_refl _, wkE_refl _, trivial⟩
            · intro y hy
              rcases List.mem_append.1 hy with hy | hy
              · exact hip y hy
              · rw [List.mem_singleton.1 hy]; exact hit
            · intro y hy
              rcases List.mem_append.1 hy with hy | hy
              · exact hnw y hy
              · rw [List.mem_singleton.1 hy]; decide
            (repeat' (first | exact trivial | refine And.intro (by with_reducible rfl) ?_ | (with_reducible exact wkC_refl _) | (with_reducible exact wkCs_refl _) | refine And.intro ?_ ?_))
            all_goals first | rfl | exact av_int (by rw [wrap_i64 (by omega)]; omega)
        · clear hc3
          have hna : at0 ob0 = none → its = [] := fun h => by
            cases ob0 with
            | none => exact List.eq_nil_of_length_eq_zero (ho.1 rfl).1
            | some b => cases h
          have hnn : at0 nb0 = none → nms = [] := fun h => by
            cases nb0 with
            | none => exact List.eq_nil_of_length_eq_zero (ho2.1 rfl).1
            | some b => cases h
          have hoc2' : its.length ≤ ocap := ho.2.1
          have hnc2' : nms.length ≤ ncap := ho2.2.1
          -- the cell is put behind the graph; ⟨⟨8, 0, [68], nms, its⟩, at0 nb0, ncap, at0 ob0, ocap⟩: the cell, , .dead, .dead, .dead, .dead, .dead: what else is over, ⟨hw.2.2.1, hw.2.2.2.1⟩: its rows
          (first | refine wX ?_ | exact wZ)
          try refine Nd.mk ⟨Nat.le_refl 1, rfl, rfl⟩ ?_
          (conv => whnf)
          refine AppN.grow 1 (grC m) (cellC (⟨⟨8, 0, [68], nms, its⟩, at0 nb0, ncap, at0 ob0, ocap⟩ : CellP)) rfl rfl ⟨Nat.le_refl 1, ⟨by show (m.length + 1) * 80 ≤ _; omega, by omega⟩, by decide⟩ fun ob2 oc2 hoc2 _ => ?_
          (first | refine wX ?_ | exact wZ)
          have hm2 : m.length + 1 = (m ++ [(⟨⟨8, 0, [68], nms, its⟩, at0 nb0, ncap, at0 ob0, ocap⟩ : CellP)]).length := by simp
          have hg2 := grC_snoc m ⟨⟨8, 0, [68], nms, its⟩, at0 nb0, ncap, at0 ob0, ocap⟩
          refine ⟨⟨i + 1, some ob2, oc2, m ++ [⟨⟨8, 0, [68], nms, its⟩, at0 nb0, ncap, at0 ob0, ocap⟩]⟩, ⟨by omega, by rw [← hm2, hml], ?_, (fun h => by cases h), by rw [← hm2]; exact hoc2⟩, by show n - (i + 1) < n - i; omega, ?_, [.fact (fun w => SlAt a (L.length * 1) (iC L) w), .app 42 5 (grC m ++ cellC ⟨⟨8, 0, [68], nms, its⟩, at0 nb0, ncap, at0 ob0, ocap⟩) (some ⟨ob2, 0, none⟩) (m.length + 1) oc2, .fact (fun w => ∀ q ∈ m ++ [(⟨⟨8, 0, [68], nms, its⟩, at0 nb0, ncap, at0 ob0, ocap⟩ : CellP)], CellF q w), .dead, .dead, .dead, .dead, .dead], turnS ⟨.inr (.inl rfl), .inr (.inl rfl), .inr (.inr ⟨_, rfl, fun w hw q hq => ?_⟩), by repeat (first | exact trivial | refine ⟨.inl rfl, ?_⟩)⟩, ?_⟩
          · intro q hq
            rcases List.mem_append.1 hq with hq | hq
            · exact hmo q hq
            · rw [List.mem_singleton.1 hq]
              exact ⟨⟨hnn, hna, by show nms.length ≤ _; omega, by show its.length ≤ _; omega, (fun s h => Nat.le_trans (hnw s h) (by decide)), Nat.le_of_ble_eq_true rfl, hnc2', hoc2'⟩, hip, by show its.length ≤ 4; omega, by show nms.length ≤ 2; omega⟩
          · (repeat' (first | exact trivial | refine And.intro (by with_reducible rfl) ?_ | (with_reducible exact wkC_refl _) | (with_reducible exact wkCs_refl _) | refine And.intro ?_ ?_))
            all_goals first | rfl | exact av_int (by rw [wrap_i64 (by omega)]; omega) | (rw [hm2]; rfl)
          · rcases List.mem_append.1 hq with hq | hq
            · exact hw.2.1 q hq
            · rw [List.mem_singleton.1 hq]
              exact ⟨hw.2.2.1, hw.2.2.2.1⟩
          · show wkH _ [Ent.fact _, .app 42 5 (grC (m ++ [_])) _ (m ++ [_]).length _, _]
            rw [← hm2, hg2]
            exact ⟨wkE_refl _, wkE_refl _, wkE_refl _, trivial⟩
  · have hin : i = n := by omega
    subst hin
    (first | refine wX ?_ | exact wZ)
    refine LoopN.introS (Nat × List CellP) (fun ⟨j, m⟩ => j ≤ i ∧ m.length = i ∧ (∀ p ∈ m, GrwC i p)) (fun ⟨j, m⟩ => mkS Tryz.f22.ntmps 0 [(0, .c (.v (.slice a L.length ca))), (3, .c (.v (.int .i64 (i : Int)))), (4, .c (.v (.slice (at0 ob) i oc))), (10, .c (.v (.int .i64 (j : Int))))]) (fun ⟨j, m⟩ => [.fact (fun w => SlAt a (L.length * 1) (iC L) w), .app 42 5 (grC m) (at0 ob) i oc, .fact (fun w => ∀ p ∈ m, CellF p w)]) (fun ⟨j, _⟩ => i - j) [] rfl (fun _ => rfl) (fun _ => rfl) (fun _ _ => ⟨trivial, trivial, trivial, trivial⟩) ?_ ?_
    · refine ⟨(0, m), ⟨Nat.zero_le _, hml, hmo⟩, ?_, _, turn_refl _, wkE_refl _, ?_, wkE_refl _, trivial⟩
      · (repeat' (first | exact trivial | refine And.intro (by with_reducible rfl) ?_ | (with_reducible exact wkC_refl _) | (with_reducible exact wkCs_refl _) | refine And.intro ?_ ?_))
        all_goals first | rfl | rw [hml]
      · rw [← hml]; exact wkE_refl _
    rintro ⟨j, m2⟩ ⟨hj, hm2l, hm2o⟩
    (first | refine wX ?_ | exact wZ)
    refine brd_dec (fun h2 => ?_) (fun h2 => ?_)
    · obtain ⟨p, hp⟩ : ∃ p, m2[j]? = some p := ⟨_, List.getElem?_eq_getElem (by omega)⟩
      obtain ⟨gb, rfl⟩ : ∃ gb, ob = some gb := by
        cases ob with
        | none => have := hoa rfl; subst this; simp only [List.length_nil] at hml; omega
        | some gb => exact ⟨gb, rfl⟩
      obtain ⟨z, hz⟩ : ∃ z, L[j]? = some z := ⟨_, List.getElem?_eq_getElem (by omega)⟩
      have hsa : a.isSome = true := by
        cases a with
        | none => rw [ha rfl] at hz; cases hz
        | some b => rfl
      (first | refine wX ?_ | exact wZ)
      refine Nd.mk ⟨rfl, by omega, by omega⟩ ?_
      (first | refine wX ?_ | exact wZ)
      refine LdN.fld (.int .i64 p.c.kind) rfl (fun w hw => hw.2.1) (by rw [Int.toNat_natCast]; exact grC_get m2 j 0 (by decide) hp) ?_
      (first | refine wX ?_ | exact wZ)
      refine brd_eq (fun h7 => ?_) (fun h7 => ?_)
      rotate_left
      · (first | refine wX ?_ | exact wZ)
        refine ⟨(j + 1, m2), ⟨by omega, hm2l, hm2o⟩, by show i - (j + 1) < i - j; omega, ?_, _, turn_refl _, wkE_refl _, wkE_refl _, wkE_refl _, trivial⟩
        (repeat' (first | exact trivial | refine And.intro (by with_reducible rfl) ?_ | (with_reducible exact wkC_refl _) | (with_reducible exact wkCs_refl _) | refine And.intro ?_ ?_))
        all_goals first | rfl | exact av_int (by rw [wrap_i64 (by omega)]; omega)
      (first | refine wX ?_ | exact wZ)
      refine Nd.mk ⟨hsa, by omega, by omega⟩ ?_
      (first | refine wX ?_ | exact wZ)
      refine LdN.one (.int .i64 z) rfl (fun w hw => hw.1) (by rw [Int.toNat_natCast]; show (iC L)[j * 1]? = _; rw [Nat.mul_one]; exact iC_get hz) ?_
      ((conv => whnf); (repeat ((first | refine BoxN.own ?_ | refine VrN.norm (wrap_i64 (by omega)) ?_ | refine VrN.keep ?_ | refine DrawN.calm (by decide +kernel) ?_ | refine Nd.mk (by decide +kernel) ?_ | refine Nd.mk (by omega) ?_ | (refine Nd.mk ?_ ?_; focus ((repeat' (first | exact trivial | exact wkE_refl _ | refine And.intro ?_ ?_)); done)) | refine RdN.intro _ rfl (by rfl) ?_); (conv => whnf))))
      have hXb := wrap_u64_bd z
      generalize IntKind.u64.wrap z = X at *
      have hx0 : IntKind.u64.wrap (X.tdiv 9) = X / 9 := by rw [Int.tdiv_eq_ediv_of_nonneg (by omega)]; exact wrap_u64 (by omega)
      rw [hx0]
      obtain ⟨x, hx⟩ : ∃ x, x = X / 9 := ⟨_, rfl⟩
      rw [← hx]
      have hxb : 0 ≤ x ∧ x ≤ 2049638230412172402 := by omega
      clear hx0 hXb
      refine DrawN.plan [0, 1, 2, 4, 6, 9] [(3, 1), (5, 1), (7, 1), (8, 1), (10, 1), (11, 0), (12, 1), (13, 1)] [(14, 0)] (by decide +kernel) ?_
      ((conv => whnf); (repeat ((first | refine BoxN.own ?_ | refine VrN.norm (wrap_i64 (by omega)) ?_ | refine VrN.keep ?_ | refine DrawN.calm (by decide +kernel) ?_ | refine Nd.mk (by decide +kernel) ?_ | refine Nd.mk (by omega) ?_ | (refine Nd.mk ?_ ?_; focus ((repeat' (first | exact trivial | exact wkE_refl _ | refine And.intro ?_ ?_)); done)) | refine RdN.intro _ rfl (by rfl) ?_); (conv => whnf))))
      obtain ⟨v1, hv1⟩ : ∃ v, v = (IntKind.i64.wrap x).tmod (i : Int) := ⟨_, rfl⟩
      obtain ⟨v2, hv2⟩ : ∃ v, v = (IntKind.i64.wrap (IntKind.u64.wrap (x.tdiv 3))).tmod (i : Int) := ⟨_, rfl⟩
      rw [← hv1, ← hv2]
      refine RwN.known [.int .i64 v1, .int .i64 v2] rfl fun ib => ?_
      ((conv => whnf); (repeat ((first | refine BoxN.own ?_ | refine VrN.norm (wrap_i64 (by omega)) ?_ | refine VrN.keep ?_ | refine DrawN.calm (by decide +kernel) ?_ | refine Nd.mk (by decide +kernel) ?_ | refine Nd.mk (by omega) ?_ | (refine Nd.mk ?_ ?_; focus ((repeat' (first | exact trivial | exact wkE_refl _ | refine And.intro ?_ ?_)); done)) | refine RdN.intro _ rfl (by rfl) ?_); (conv => whnf))))
      refine Nd.mk ⟨rfl, by omega, by omega⟩ ?_
      ((conv => whnf); (repeat ((first | refine BoxN.own ?_ | refine VrN.norm (wrap_i64 (by omega)) ?_ | refine VrN.keep ?_ | refine DrawN.calm (by decide +kernel) ?_ | refine Nd.mk (by decide +kernel) ?_ | refine Nd.mk (by omega) ?_ | (refine Nd.mk ?_ ?_; focus ((repeat' (first | exact trivial | exact wkE_refl _ | refine And.intro ?_ ?_)); done)) | refine RdN.intro _ rfl (by rfl) ?_); (conv => whnf))))
      have hgl2 : (grC m2).length = i * 5 := by rw [grC_len, hm2l]
      refine EffW.appTo (i := 1) (q := j * 5 + 4) (ys := [.slice (some ⟨ib, 0, none⟩) 2 2]) (grC (m2.set j (setI p [v1, v2] (some ⟨ib, 0, none⟩) 2))) 5 rfl (by rw [Int.toNat_natCast]; show AV.c (CV.v (Value.pointer (some (((⟨gb, 0, none⟩ : Addr).add (j * 5)).add 4)))) = _; rw [add_lit0, add_lit]) rfl rfl rfl rfl rfl (by show _ + 1 ≤ _ * 5; omega) (by rw [put_set _ (by omega)]; exact grC_set [v1, v2] _ 2 hp) rfl ?_
      have hpm := List.mem_of_getElem? hp
      have hq1 : 0 ≤ v1 := by rw [hv1, wrap_i64 (by omega)]; exact Int.tmod_nonneg _ (by omega)
      have hq2 : 0 ≤ v2 := by
        have : 0 ≤ x.tdiv 3 ∧ x.tdiv 3 ≤ x := by rw [Int.tdiv_eq_ediv_of_nonneg hxb.1]; omega
        rw [hv2, wrap_u64 (by omega), wrap_i64 (by omega)]
        exact Int.tmod_nonneg _ (by omega)
      clear hv1 hv2
      have hi12 : i ≤ 12 := by omega
      (first | refine wX ?_ | exact wZ)
      refine brd_dec (fun h3 => ?_) (fun h3 => ?_)
      rotate_left
      · -- is it valid still? [v1, v2]: the items, ib: their block, 2: its capacity, , .dead, .dead, .dead: what is over, (by simp [hq1, hq2]): no item is below 0
        (first | refine wX ?_ | exact wZ)
        have hG : ∀ q ∈ m2.set j (setI p [v1, v2] (some ⟨ib, 0, none⟩) 2), GrwC i q := grw_set hm2o hpm ib 2 (by simp [hq1, hq2]) (Nat.le_of_ble_eq_true rfl) (Nat.le_refl 2)
        have hlen : (m2.set j (setI p [v1, v2] (some ⟨ib, 0, none⟩) 2)).length = i := by rw [List.length_set, hm2l]
        have has := as_o (at0 (some gb)) oc (m2.set j (setI p [v1, v2] (some ⟨ib, 0, none⟩) 2)) (fun h => by cases h) (grw_small hG (by omega)) (fun q hq => (hG q hq).ok)
        rw [hlen] at has
        refine factG (fun _ => rfl) has ?_ fun st hst => ?_
        · exact fun w hw => ⟨by rw [hlen]; exact hw.2.1, set_rows hpm hw.2.2.1 hw.2.2.2.1⟩
        obtain ⟨t, ht1, ht2⟩ := Valid_b st.oa st.oc st.m hst.oa (by have := congrArg List.length hst.c; simp only [List.length_map] at this; omega) hst.ok
        (first | refine wX ?_ | exact wZ)
        refine call1 (ht2 _ (fun w hw => hst.gr hw.2.2.2.2.1 hw.2.2.2.2.2.1)) ?_
        cases t with
        | true =>
          (first | refine wX ?_ | exact wZ)
          refine ⟨(j + 1, m2.set j (setI p [v1, v2] (some ⟨ib, 0, none⟩) 2)), ⟨by omega, hlen, hG⟩, by show i - (j + 1) < i - j; omega, ?_, [.fact (fun w => SlAt a (L.length * 1) (iC L) w), .app 42 5 (grC (m2.set j (setI p [v1, v2] (some ⟨ib, 0, none⟩) 2))) (some ⟨gb, 0, none⟩) i oc, .fact (fun w => ∀ q ∈ m2.set j (setI p [v1, v2] (some ⟨ib, 0, none⟩) 2), CellF q w), .dead, .dead, .dead], turnS ⟨.inr (.inl rfl), .inr (.inl rfl), .inr (.inr ⟨_, rfl, fun w hw => set_rows hpm hw.2.1 hw.2.2.1⟩), by repeat (first | exact trivial | refine ⟨.inl rfl, ?_⟩)⟩, wkE_refl _, wkE_refl _, wkE_refl _, trivial⟩
          (repeat' (first | exact trivial | refine And.intro (by with_reducible rfl) ?_ | (with_reducible exact wkC_refl _) | (with_reducible exact wkCs_refl _) | refine And.intro ?_ ?_))
          all_goals first | rfl | exact av_int (by rw [wrap_i64 (by omega)]; omega)
        | false =>
          have hp2 : (m2.set j (setI p [v1, v2] (some ⟨ib, 0, none⟩) 2))[j]? = some (setI p [v1, v2] (some ⟨ib, 0, none⟩) 2) := by rw [List.getElem?_set_self (by omega)]
          have hG2 : ∀ q ∈ m2.set j (setI p [v1, v2] (some ⟨ib, 0, none⟩) 2), GrwC i q := grw_set hm2o hpm ib 2 (by simp [hq1, hq2]) (Nat.le_of_ble_eq_true rfl) (by show 2 ≤ _; first | exact Nat.le_refl 2 | omega)
          have hlen2 : (m2.set j (setI p [v1, v2] (some ⟨ib, 0, none⟩) 2)).length = i := by rw [List.length_set, hm2l]
          have hgl3 : (grC (m2.set j (setI p [v1, v2] (some ⟨ib, 0, none⟩) 2))).length = i * 5 := by rw [grC_len, hlen]
          (first | refine wX ?_ | exact wZ)
          refine Nd.mk ⟨rfl, by omega, by omega⟩ ?_
          (first | refine wX ?_ | exact wZ)
          refine LdN.fld (.slice (some ⟨ib, 0, none⟩) (List.length [v1, v2]) 2) rfl (fun w hw => hw.2.1) (by rw [Int.toNat_natCast]; exact grC_get _ j 4 (by decide) hp2) ?_
          (first | refine wX ?_ | exact wZ)
          refine ReadW.slc_h (ob := some ib) rfl (by kernel_rfl) rfl rfl ⟨by decide, by first | decide | omega⟩ ?_
          (first | refine wX ?_ | exact wZ)
          refine Nd.mk ⟨rfl, by omega, by omega⟩ ?_
          (first | refine wX ?_ | exact wZ)
          refine EffW.appTo (i := 1) (q := j * 5 + 4) (ys := [.slice (some ⟨ib, 0, none⟩) 2 2]) (grC (m2.set j (setI p [v1, v2] (some ⟨ib, 0, none⟩) 2))) 5 rfl (by rw [Int.toNat_natCast]; show AV.c (CV.v (Value.pointer (some (((⟨gb, 0, none⟩ : Addr).add (j * 5)).add 4)))) = _; rw [add_lit0, add_lit]) rfl rfl rfl rfl rfl (by show _ + 1 ≤ _ * 5; omega) (by rw [put_set _ (by omega)]; have := grC_set [v1, v2] (some ⟨ib, 0, none⟩) 2 hp2; rw [List.set_set] at this; exact this) rfl ?_
          (first | refine wX ?_ | exact wZ)
          refine ⟨(j + 1, m2.set j (setI p [v1, v2] (some ⟨ib, 0, none⟩) 2)), ⟨by omega, hlen2, hG2⟩, by show i - (j + 1) < i - j; omega, ?_, [.fact (fun w => SlAt a (L.length * 1) (iC L) w), .app 42 5 (grC (m2.set j (setI p [v1, v2] (some ⟨ib, 0, none⟩) 2))) (some ⟨gb, 0, none⟩) i oc, .fact (fun w => ∀ q ∈ m2.set j (setI p [v1, v2] (some ⟨ib, 0, none⟩) 2), CellF q w), .dead, .dead, .dead], turnS ⟨.inr (.inl rfl), .inr (.inl rfl), .inr (.inr ⟨_, rfl, fun w hw => set_rows hpm hw.2.1 (SlAt.take (j := 2) hw.2.2.1 (Nat.le_of_ble_eq_true rfl))⟩), by repeat (first | exact trivial | refine ⟨.inl rfl, ?_⟩)⟩, wkE_refl _, wkE_refl _, wkE_refl _, trivial⟩
          (repeat' (first | exact trivial | refine And.intro (by with_reducible rfl) ?_ | (with_reducible exact wkC_refl _) | (with_reducible exact wkCs_refl _) | refine And.intro ?_ ?_))
          all_goals first | rfl | exact av_int (by rw [wrap_i64 (by omega)]; omega)
      (first | refine wX ?_ | exact wZ)
      refine brd_eq (fun h4 => ?_) (fun h4 => ?_)
      rotate_left
      · -- is it valid still? [v1, v2]: the items, ib: their block, 2: its capacity, , .dead, .dead, .dead: what is over, (by simp [hq1, hq2]): no item is below 0
        (first | refine wX ?_ | exact wZ)
        have hG : ∀ q ∈ m2.set j (setI p [v1, v2] (some ⟨ib, 0, none⟩) 2), GrwC i q := grw_set hm2o hpm ib 2 (by simp [hq1, hq2]) (Nat.le_of_ble_eq_true rfl) (Nat.le_refl 2)
        have hlen : (m2.set j (setI p [v1, v2] (some ⟨ib, 0, none⟩) 2)).length = i := by rw [List.length_set, hm2l]
        have has := as_o (at0 (some gb)) oc (m2.set j (setI p [v1, v2] (some ⟨ib, 0, none⟩) 2)) (fun h => by cases h) (grw_small hG (by omega)) (fun q hq => (hG q hq).ok)
        rw [hlen] at has
        refine factG (fun _ => rfl) has ?_ fun st hst => ?_
        · exact fun w hw => ⟨by rw [hlen]; exact hw.2.1, set_rows hpm hw.2.2.1 hw.2.2.2.1⟩
        obtain ⟨t, ht1, ht2⟩ := Valid_b st.oa st.oc st.m hst.oa (by have := congrArg List.length hst.c; simp only [List.length_map] at this; omega) hst.ok
        (first | refine wX ?_ | exact wZ)
        refine call1 (ht2 _ (fun w hw => hst.gr hw.2.2.2.2.1 hw.2.2.2.2.2.1)) ?_
        cases t with
        | true =>
          (first | refine wX ?_ | exact wZ)
          refine ⟨(j + 1, m2.set j (setI p [v1, v2] (some ⟨ib, 0, none⟩) 2)), ⟨by omega, hlen, hG⟩, by show i - (j + 1) < i - j; omega, ?_, [.fact (fun w => SlAt a (L.length * 1) (iC L) w), .app 42 5 (grC (m2.set j (setI p [v1, v2] (some ⟨ib, 0, none⟩) 2))) (some ⟨gb, 0, none⟩) i oc, .fact (fun w => ∀ q ∈ m2.set j (setI p [v1, v2] (some ⟨ib, 0, none⟩) 2), CellF q w), .dead, .dead, .dead], turnS ⟨.inr (.inl rfl), .inr (.inl rfl), .inr (.inr ⟨_, rfl, fun w hw => set_rows hpm hw.2.1 hw.2.2.1⟩), by repeat (first | exact trivial | refine ⟨.inl rfl, ?_⟩)⟩, wkE_refl _, wkE_refl _, wkE_refl _, trivial⟩
          (repeat' (first | exact trivial | refine And.intro (by with_reducible rfl) ?_ | (with_reducible exact wkC_refl _) | (with_reducible exact wkCs_refl _) | refine And.intro ?_ ?_))
          all_goals first | rfl | exact av_int (by rw [wrap_i64 (by omega)]; omega)
        | false =>
          have hp2 : (m2.set j (setI p [v1, v2] (some ⟨ib, 0, none⟩) 2))[j]? = some (setI p [v1, v2] (some ⟨ib, 0, none⟩) 2) := by rw [List.getElem?_set_self (by omega)]
          have hG2 : ∀ q ∈ m2.set j (setI p [v1, v2] (some ⟨ib, 0, none⟩) 2), GrwC i q := grw_set hm2o hpm ib 2 (by simp [hq1, hq2]) (Nat.le_of_ble_eq_true rfl) (by show 2 ≤ _; first | exact Nat.le_refl 2 | omega)
          have hlen2 : (m2.set j (setI p [v1, v2] (some ⟨ib, 0, none⟩) 2)).length = i := by rw [List.length_set, hm2l]
          have hgl3 : (grC (m2.set j (setI p [v1, v2] (some ⟨ib, 0, none⟩) 2))).length = i * 5 := by rw [grC_len, hlen]
          (first | refine wX ?_ | exact wZ)
          refine Nd.mk ⟨rfl, by omega, by omega⟩ ?_
          (first | refine wX ?_ | exact wZ)
          refine LdN.fld (.slice (some ⟨ib, 0, none⟩) (List.length [v1, v2]) 2) rfl (fun w hw => hw.2.1) (by rw [Int.toNat_natCast]; exact grC_get _ j 4 (by decide) hp2) ?_
          (first | refine wX ?_ | exact wZ)
          refine ReadW.slc_h (ob := some ib) rfl (by kernel_rfl) rfl rfl ⟨by decide, by first | decide | omega⟩ ?_
          (first | refine wX ?_ | exact wZ)
          refine Nd.mk ⟨rfl, by omega, by omega⟩ ?_
          (first | refine wX ?_ | exact wZ)
          refine EffW.appTo (i := 1) (q := j * 5 + 4) (ys := [.slice (some ⟨ib, 0, none⟩) 2 2]) (grC (m2.set j (setI p [v1, v2] (some ⟨ib, 0, none⟩) 2))) 5 rfl (by rw [Int.toNat_natCast]; show AV.c (CV.v (Value.pointer (some (((⟨gb, 0, none⟩ : Addr).add (j * 5)).add 4)))) = _; rw [add_lit0, add_lit]) rfl rfl rfl rfl rfl (by show _ + 1 ≤ _ * 5; omega) (by rw [put_set _ (by omega)]; have := grC_set [v1, v2] (some ⟨ib, 0, none⟩) 2 hp2; rw [List.set_set] at this; exact this) rfl ?_
          (first | refine wX ?_ | exact wZ)
          refine ⟨(j + 1, m2.set j (setI p [v1, v2] (some ⟨ib, 0, none⟩) 2)), ⟨by omega, hlen2, hG2⟩, by show i - (j + 1) < i - j; omega, ?_, [.fact (fun w => SlAt a (L.length * 1) (iC L) w), .app 42 5 (grC (m2.set j (setI p [v1, v2] (some ⟨ib, 0, none⟩) 2))) (some ⟨gb, 0, none⟩) i oc, .fact (fun w => ∀ q ∈ m2.set j (setI p [v1, v2] (some ⟨ib, 0, none⟩) 2), CellF q w), .dead, .dead, .dead], turnS ⟨.inr (.inl rfl), .inr (.inl rfl), .inr (.inr ⟨_, rfl, fun w hw => set_rows hpm hw.2.1 (SlAt.take (j := 2) hw.2.2.1 (Nat.le_of_ble_eq_true rfl))⟩), by repeat (first | exact trivial | refine ⟨.inl rfl, ?_⟩)⟩, wkE_refl _, wkE_refl _, wkE_refl _, trivial⟩
          (repeat' (first | exact trivial | refine And.intro (by with_reducible rfl) ?_ | (with_reducible exact wkC_refl _) | (with_reducible exact wkCs_refl _) | refine And.intro ?_ ?_))
          all_goals first | rfl | exact av_int (by rw [wrap_i64 (by omega)]; omega)
      have hp1 : (m2.set j (setI p [v1, v2] (some ⟨ib, 0, none⟩) 2))[j]? = some (setI p [v1, v2] (some ⟨ib, 0, none⟩) 2) := by rw [List.getElem?_set_self (by omega)]
      have hgl4 : (grC (m2.set j (setI p [v1, v2] (some ⟨ib, 0, none⟩) 2))).length = i * 5 := by rw [grC_len, List.length_set, hm2l]
      (first | refine wX ?_ | exact wZ)
      refine DrawN.plan [0, 1, 2, 3, 7, 10, 12, 15] [(4, 1), (5, 1), (6, 1), (8, 1), (9, 1), (11, 1), (13, 1), (14, 1), (16, 1), (17, 0)] [(18, 0), (19, 0), (20, 0), (21, 0)] (by decide +kernel) ?_
      (first | refine wX ?_ | exact wZ)
      refine Nd.mk ⟨rfl, by omega, by omega⟩ ?_
      (first | refine wX ?_ | exact wZ)
      refine LdN.fld (.slice (some ⟨ib, 0, none⟩) 2 2) rfl (fun w hw => hw.2.1) (by rw [Int.toNat_natCast]; exact grC_get _ j 4 (by decide) hp1) ?_
      (first | refine wX ?_ | exact wZ)
      obtain ⟨w1, hw1⟩ : ∃ v, v = (IntKind.i64.wrap (IntKind.u64.wrap (x.tdiv 5))).tmod (i : Int) := ⟨_, rfl⟩
      obtain ⟨w2, hw2⟩ : ∃ v, v = (IntKind.i64.wrap (IntKind.u64.wrap (x.tdiv 7))).tmod (i : Int) := ⟨_, rfl⟩
      rw [← hw1, ← hw2]
      have hq3 : 0 ≤ w1 := by
        have : 0 ≤ x.tdiv 5 ∧ x.tdiv 5 ≤ x := by rw [Int.tdiv_eq_ediv_of_nonneg hxb.1]; omega
        rw [hw1, wrap_u64 (by omega), wrap_i64 (by omega)]
        exact Int.tmod_nonneg _ (by omega)
      have hq4 : 0 ≤ w2 := by
        have : 0 ≤ x.tdiv 7 ∧ x.tdiv 7 ≤ x := by rw [Int.tdiv_eq_ediv_of_nonneg hxb.1]; omega
        rw [hw2, wrap_u64 (by omega), wrap_i64 (by omega)]
        exact Int.tmod_nonneg _ (by omega)
      clear hw1 hw2
      refine Nd.mk ⟨Nat.le_of_ble_eq_true rfl, rfl, rfl⟩ ?_
      (conv => whnf)
      refine AppN.grow 3 [.int .i64 v1, .int .i64 v2] [.int .i64 w1, .int .i64 w2] rfl rfl ⟨Nat.le_of_ble_eq_true rfl, ⟨by decide, by decide⟩, Nat.one_ne_zero⟩ fun wb wc hwc _ => ?_
      (first | refine wX ?_ | exact wZ)
      refine Nd.mk ⟨rfl, by omega, by omega⟩ ?_
      (first | refine wX ?_ | exact wZ)
      refine EffW.appTo (i := 1) (q := j * 5 + 4) (ys := [.slice (some ⟨wb, 0, none⟩) 4 wc]) (grC (m2.set j (setI p [v1, v2, w1, w2] (some ⟨wb, 0, none⟩) wc))) 5 rfl (by rw [Int.toNat_natCast]; show AV.c (CV.v (Value.pointer (some (((⟨gb, 0, none⟩ : Addr).add (j * 5)).add 4)))) = _; rw [add_lit0, add_lit]) rfl rfl rfl rfl rfl (by show _ + 1 ≤ _ * 5; omega) (by rw [put_set _ (by omega)]; have := grC_set [v1, v2, w1, w2] (some ⟨wb, 0, none⟩) wc hp1; rw [List.set_set] at this; exact this) rfl ?_
      -- is it valid still? [v1, v2, w1, w2]: the items, wb: their block, wc: its capacity, , .dead, .dead, .dead, .dead: what is over, (by simp [hq1, hq2, hq3, hq4]): no item is below 0
      (first | refine wX ?_ | exact wZ)
      have hG : ∀ q ∈ m2.set j (setI p [v1, v2, w1, w2] (some ⟨wb, 0, none⟩) wc), GrwC i q := grw_set hm2o hpm wb wc (by simp [hq1, hq2, hq3, hq4]) (Nat.le_of_ble_eq_true rfl) hwc
      have hlen : (m2.set j (setI p [v1, v2, w1, w2] (some ⟨wb, 0, none⟩) wc)).length = i := by rw [List.length_set, hm2l]
      have has := as_o (at0 (some gb)) oc (m2.set j (setI p [v1, v2, w1, w2] (some ⟨wb, 0, none⟩) wc)) (fun h => by cases h) (grw_small hG (by omega)) (fun q hq => (hG q hq).ok)
      rw [hlen] at has
      refine factG (fun _ => rfl) has ?_ fun st hst => ?_
      · exact fun w hw => ⟨by rw [hlen]; exact hw.2.1, set_rows hpm hw.2.2.1 hw.2.2.2.1⟩
      obtain ⟨t, ht1, ht2⟩ := Valid_b st.oa st.oc st.m hst.oa (by have := congrArg List.length hst.c; simp only [List.length_map] at this; omega) hst.ok
      (first | refine wX ?_ | exact wZ)
      refine call1 (ht2 _ (fun w hw => hst.gr hw.2.2.2.2.1 hw.2.2.2.2.2.1)) ?_
      cases t with
      | true =>
        (first | refine wX ?_ | exact wZ)
        refine ⟨(j + 1, m2.set j (setI p [v1, v2, w1, w2] (some ⟨wb, 0, none⟩) wc)), ⟨by omega, hlen, hG⟩, by show i - (j + 1) < i - j; omega, ?_, [.fact (fun w => SlAt a (L.length * 1) (iC L) w), .app 42 5 (grC (m2.set j (setI p [v1, v2, w1, w2] (some ⟨wb, 0, none⟩) wc))) (some ⟨gb, 0, none⟩) i oc, .fact (fun w => ∀ q ∈ m2.set j (setI p [v1, v2, w1, w2] (some ⟨wb, 0, none⟩) wc), CellF q w), .dead, .dead, .dead, .dead], turnS ⟨.inr (.inl rfl), .inr (.inl rfl), .inr (.inr ⟨_, rfl, fun w hw => set_rows hpm hw.2.1 hw.2.2.1⟩), by repeat (first | exact trivial | refine ⟨.inl rfl, ?_⟩)⟩, wkE_refl _, wkE_refl _, wkE_refl _, trivial⟩
        (repeat' (first | exact trivial | refine And.intro (by with_reducible rfl) ?_ | (with_reducible exact wkC_refl _) | (with_reducible exact wkCs_refl _) | refine And.intro ?_ ?_))
        all_goals first | rfl | exact av_int (by rw [wrap_i64 (by omega)]; omega)
      | false =>
        have hp2 : (m2.set j (setI p [v1, v2, w1, w2] (some ⟨wb, 0, none⟩) wc))[j]? = some (setI p [v1, v2, w1, w2] (some ⟨wb, 0, none⟩) wc) := by rw [List.getElem?_set_self (by omega)]
        have hG2 : ∀ q ∈ m2.set j (setI p [v1, v2] (some ⟨wb, 0, none⟩) wc), GrwC i q := grw_set hm2o hpm wb wc (by simp [hq1, hq2]) (Nat.le_of_ble_eq_true rfl) (by show 2 ≤ _; first | exact Nat.le_refl 2 | omega)
        have hlen2 : (m2.set j (setI p [v1, v2] (some ⟨wb, 0, none⟩) wc)).length = i := by rw [List.length_set, hm2l]
        have hgl3 : (grC (m2.set j (setI p [v1, v2, w1, w2] (some ⟨wb, 0, none⟩) wc))).length = i * 5 := by rw [grC_len, hlen]
        (first | refine wX ?_ | exact wZ)
        refine Nd.mk ⟨rfl, by omega, by omega⟩ ?_
        (first | refine wX ?_ | exact wZ)
        refine LdN.fld (.slice (some ⟨wb, 0, none⟩) (List.length [v1, v2, w1, w2]) wc) rfl (fun w hw => hw.2.1) (by rw [Int.toNat_natCast]; exact grC_get _ j 4 (by decide) hp2) ?_
        (first | refine wX ?_ | exact wZ)
        refine ReadW.slc_h (ob := some wb) rfl (by kernel_rfl) rfl rfl ⟨by decide, by first | decide | omega⟩ ?_
        (first | refine wX ?_ | exact wZ)
        refine Nd.mk ⟨rfl, by omega, by omega⟩ ?_
        (first | refine wX ?_ | exact wZ)
        refine EffW.appTo (i := 1) (q := j * 5 + 4) (ys := [.slice (some ⟨wb, 0, none⟩) 2 wc]) (grC (m2.set j (setI p [v1, v2] (some ⟨wb, 0, none⟩) wc))) 5 rfl (by rw [Int.toNat_natCast]; show AV.c (CV.v (Value.pointer (some (((⟨gb, 0, none⟩ : Addr).add (j * 5)).add 4)))) = _; rw [add_lit0, add_lit]) rfl rfl rfl rfl rfl (by show _ + 1 ≤ _ * 5; omega) (by rw [put_set _ (by omega)]; have := grC_set [v1, v2] (some ⟨wb, 0, none⟩) wc hp2; rw [List.set_set] at this; exact this) rfl ?_
        (first | refine wX ?_ | exact wZ)
        refine ⟨(j + 1, m2.set j (setI p [v1, v2] (some ⟨wb, 0, none⟩) wc)), ⟨by omega, hlen2, hG2⟩, by show i - (j + 1) < i - j; omega, ?_, [.fact (fun w => SlAt a (L.length * 1) (iC L) w), .app 42 5 (grC (m2.set j (setI p [v1, v2] (some ⟨wb, 0, none⟩) wc))) (some ⟨gb, 0, none⟩) i oc, .fact (fun w => ∀ q ∈ m2.set j (setI p [v1, v2] (some ⟨wb, 0, none⟩) wc), CellF q w), .dead, .dead, .dead, .dead], turnS ⟨.inr (.inl rfl), .inr (.inl rfl), .inr (.inr ⟨_, rfl, fun w hw => set_rows hpm hw.2.1 (SlAt.take (j := 2) hw.2.2.1 (Nat.le_of_ble_eq_true rfl))⟩), by repeat (first | exact trivial | refine ⟨.inl rfl, ?_⟩)⟩, wkE_refl _, wkE_refl _, wkE_refl _, trivial⟩
        (repeat' (first | exact trivial | refine And.intro (by with_reducible rfl) ?_ | (with_reducible exact wkC_refl _) | (with_reducible exact wkCs_refl _) | refine And.intro ?_ ?_))
        all_goals first | rfl | exact av_int (by rw [wrap_i64 (by omega)]; omega)
    · have hjn : j = i := by omega
      subst hjn
      have hob : at0 ob = none → m2 = [] := fun h => by
        cases ob with
        | none =>
          have := hoa rfl
          subst this
          simp only [List.length_nil] at hml
          exact List.eq_nil_of_length_eq_zero (by omega)
        | some b => cases h
      have hs2 := grw_small hm2o (by omega)
      (first | refine wX ?_ | exact wZ)
      refine loopS Nat (fun k => k ≤ j) (fun k => mkS Tryz.f22.ntmps 0 [(3, .c (.v (.int .i64 (j : Int)))), (4, .c (.v (.slice (at0 ob) j oc))), (12, .c (.v (.int .i64 (k : Int))))]) (fun k => j - k) rfl (fun _ => rfl) 0 (Nat.zero_le _) ?_ ?_
      · (repeat' (first | exact trivial | refine And.intro (by with_reducible rfl) ?_ | (with_reducible exact wkC_refl _) | (with_reducible exact wkCs_refl _) | refine And.intro ?_ ?_))
        all_goals rfl
      intro k hk
      (first | refine wX ?_ | exact wZ)
      refine brd_dec (fun h3 => ?_) (fun h3 => ?_)
      · obtain ⟨p, hp⟩ : ∃ p, m2[k]? = some p := ⟨_, List.getElem?_eq_getElem (by omega)⟩
        have hpm := List.mem_of_getElem? hp
        have hpo := hm2o p hpm
        have hpl := hpo.il
        have hsg : (at0 ob).isSome = true := by
          cases hq : at0 ob with
          | none => rw [hob hq] at hp; cases hp
          | some b => rfl
        (first | refine wX ?_ | exact wZ)
        refine loopS Nat (fun e => e ≤ p.c.items.length) (fun e => mkS Tryz.f22.ntmps 0 [(3, .c (.v (.int .i64 (j : Int)))), (4, .c (.v (.slice (at0 ob) j oc))), (12, .c (.v (.int .i64 (k : Int)))), (13, .c (.v (.int .i64 (e : Int))))]) (fun e => p.c.items.length - e) rfl (fun _ => rfl) 0 (Nat.zero_le _) ?_ ?_
        · (repeat' (first | exact trivial | refine And.intro (by with_reducible rfl) ?_ | (with_reducible exact wkC_refl _) | (with_reducible exact wkCs_refl _) | refine And.intro ?_ ?_))
          all_goals rfl
        intro e he
        (first | refine wX ?_ | exact wZ)
        refine Nd.mk ⟨hsg, by omega, by omega⟩ ?_
        (first | refine wX ?_ | exact wZ)
        refine LdN.fld (.slice p.ia p.c.items.length p.ic) rfl (fun w hw => hw.2.1) (by rw [Int.toNat_natCast]; exact grC_get m2 k 4 (by decide) hp) ?_
        (first | refine wX ?_ | exact wZ)
        refine brd_dec (fun h4 => ?_) (fun h4 => ?_)
        · obtain ⟨y, hy⟩ : ∃ z, p.c.items[e]? = some z := ⟨_, List.getElem?_eq_getElem (by omega)⟩
          have hya : p.ia.isSome = true := by
            cases hq : p.ia with
            | none => rw [hpo.ok.ia hq] at hy; cases hy
            | some b => rfl
          (first | refine wX ?_ | exact wZ)
          refine Nd.mk ⟨hsg, by omega, by omega⟩ ?_
          (first | refine wX ?_ | exact wZ)
          refine LdN.fld (.slice p.ia p.c.items.length p.ic) rfl (fun w hw => hw.2.1) (by rw [Int.toNat_natCast]; exact grC_get m2 k 4 (by decide) hp) ?_
          (first | refine wX ?_ | exact wZ)
          refine Nd.mk ⟨hya, by omega, by omega⟩ ?_
          (first | refine wX ?_ | exact wZ)
          refine LdN.one (.int .i64 y) rfl (fun w hw => (hw.2.2.1 p hpm).2) (by rw [Int.toNat_natCast]; show (iC p.c.items)[e * 1]? = _; rw [Nat.mul_one]; exact iC_get hy) ?_
          (first | refine wX ?_ | exact wZ)
          refine brd_dec (fun h5 => absurd h5 (by have := hpo.it y (List.mem_of_getElem? hy); omega)) (fun h5 => ?_)
          (first | refine wX ?_ | exact wZ)
          refine ⟨e + 1, by omega, by omega, ?_, by (repeat' (first | exact trivial | exact wkE_refl _ | refine And.intro ?_ ?_))⟩
          (repeat' (first | exact trivial | refine And.intro (by with_reducible rfl) ?_ | (with_reducible exact wkC_refl _) | (with_reducible exact wkCs_refl _) | refine And.intro ?_ ?_))
          all_goals first | rfl | exact av_int (by rw [wrap_i64 (by omega)]; omega)
        · (first | refine wX ?_ | exact wZ)
          refine ⟨k + 1, by omega, by omega, ?_, by (repeat' (first | exact trivial | exact wkE_refl _ | refine And.intro ?_ ?_))⟩
          (repeat' (first | exact trivial | refine And.intro (by with_reducible rfl) ?_ | (with_reducible exact wkC_refl _) | (with_reducible exact wkCs_refl _) | refine And.intro ?_ ?_))
          all_goals first | rfl | exact av_int (by rw [wrap_i64 (by omega)]; omega)
      · (first | refine wX ?_ | exact wZ)
        have has := as_o (at0 ob) oc m2 hob hs2 (fun q hq => (hm2o q hq).ok)
        rw [hm2l] at has
        refine factG (fun _ => rfl) has ?_ fun st hst => ?_
        · exact fun w hw => ⟨by rw [hm2l]; exact hw.2.1, hw.2.2.1⟩
        obtain ⟨t, ht1, ht2⟩ := Valid_b st.oa st.oc st.m hst.oa (by have := congrArg List.length hst.c; simp only [List.length_map] at this; omega) hst.ok
        (first | refine wX ?_ | exact wZ)
        refine call1 (ht2 _ (fun w hw => hst.gr hw.2.2.2.1 hw.2.2.2.2.1)) ?_
        cases t with
        | false =>
          (first | refine wX ?_ | exact wZ)
          exact fin_p (fun _ => True) ⟨none, 0, [], rfl, fun _ => rfl, (fun p h => by cases h), ⟨Nat.zero_le _, fun p h => by cases h⟩, .inl rfl, fun w _ => ⟨SlAt.nil, fun p h => by cases h⟩⟩ fun w hw => trivial
        | true =>
          (first | refine wX ?_ | exact wZ)
          exact fin_p (GrF (at0 ob) m2) ⟨at0 ob, oc, m2, by rw [hm2l], hob, (fun p hp => (hm2o p hp).ok), hs2, .inr (by rw [← hst.c]; exact ht1.1 rfl), fun w hw => hw⟩ fun w hw => ⟨by rw [hm2l]; exact hw.2.1, hw.2.2.1⟩
end Go.Proofs.YtahjbnfbilkbcaaGreatDoor

/-
  Plain: how deep what is reached is.
-/
namespace Go.Core
theorem fin_to {g : List Cell} {a b : Int} (t : To g a b) : ∀ h, FinH g h a → FinH g h b := by
  induction t with
  | refl => exact fun _ h => h
  | step hs _ ih =>
    intro h hf
    cases h with
    | zero => exact hf.elim
    | succ h => exact ih (h + 1) (finH_succ h _ (hf _ hs))
theorem fin_irr {g : List Cell} : ∀ (h : Nat) (i : Int), FinH g h i → ∀ k ∈ outs g i, ¬ To g k i
  | 0, _, h, _, _, _ => h.elim
  | h + 1, i, hf, k, hk, t => fin_irr h i (fin_to t h (hf k hk)) k hk t
theorem fin_bound {g : List Cell} (hg : InG g) : ∀ (m : Nat) (u : List Int) (i : Int) (h : Nat), FinH g h i → InI g i → (∀ x ∈ u, ∃ k ∈ outs g x, To g k i) → u.Nodup → (∀ x ∈ u, InI g x) → g.length ≤ m + u.length → FinH g m i := by
  intro m
  induction m with
  | zero =>
    intro u i h hf hi hw hu hui hl
    have hiu : i ∉ u := fun hm => by
      obtain ⟨k, hk, t⟩ := hw i hm
      exact fin_irr h i hf k hk t
    have := way_le (n := g.length) (way := i :: u) (List.nodup_cons.2 ⟨hiu, hu⟩) fun x hx => by
      rcases List.mem_cons.1 hx with rfl | hx
      · exact hi
      · exact hui x hx
    simp only [List.length_cons] at this
    omega
  | succ m ih =>
    intro u i h hf hi hw hu hui hl
    have hiu : i ∉ u := fun hm => by
      obtain ⟨k, hk, t⟩ := hw i hm
      exact fin_irr h i hf k hk t
    intro k hk
    cases h with
    | zero => exact hf.elim
    | succ h =>
      refine ih (i :: u) k h (hf k hk) (outs_in hg hi hk) (fun x hx => ?_) (List.nodup_cons.2 ⟨hiu, hu⟩) (fun x hx => ?_) (by simp only [List.length_cons]; omega)
      · rcases List.mem_cons.1 hx with rfl | hx
        · exact ⟨k, hk, .refl k⟩
        · obtain ⟨k2, hk2, t⟩ := hw x hx
          exact ⟨k2, hk2, t.trans (.step hk (.refl k))⟩
      · rcases List.mem_cons.1 hx with rfl | hx
        · exact hi
        · exact hui x hx
theorem fin_len {g : List Cell} (hg : InG g) {i : Int} (hi : InI g i) (h : Fin_ g i) : FinH g g.length i := by
  obtain ⟨m, hm⟩ := h
  exact fin_bound hg g.length [] i m hm hi (fun x hx => by cases hx) List.nodup_nil (fun x hx => by cases hx) (Nat.le_add_right _ _)
end Go.Core

/-
  Plain: texts and walks do not hang on the purse; the text of an array without circles; joined graphs, copies, what is the same.
-/
namespace Go.Core
theorem catT_congr {F G : Int → List UInt8} {pre : Nat → List UInt8} : ∀ (l : List Int) (i : Nat), (∀ k ∈ l, F k = G k) → catT F pre i l = catT G pre i l
  | [], _, _ => rfl
  | k :: l, j, h => by
    unfold catT
    rw [h k (by simp), catT_congr l (j + 1) fun x hx => h x (by simp [hx])]
theorem full_fin {lf : Cell → List UInt8} {g : List Cell} : ∀ (h n m : Nat) (way way' : List Int) (a : Int), FinH g h a → h ≤ n → h ≤ m → (∀ x ∈ way, ¬ To g a x) → (∀ x ∈ way', ¬ To g a x) → fullT lf g n way a = fullT lf g m way' a
  | 0, _, _, _, _, _, h, _, _, _, _ => h.elim
  | h + 1, n, m, way, way', a, hf, hn, hm, hw, hw' => by
    obtain ⟨n, rfl⟩ : ∃ k, n = k + 1 := ⟨n - 1, by omega⟩
    obtain ⟨m, rfl⟩ : ∃ k, m = k + 1 := ⟨m - 1, by omega⟩
    unfold fullT
    rw [if_neg (fun k => hw a k (.refl a)), if_neg (fun k => hw' a k (.refl a))]
    split
    · rfl
    have key : ∀ (w : List Int), (∀ x ∈ w, ¬ To g a x) → ∀ k ∈ outs g a, ∀ x ∈ w ++ [a], ¬ To g k x := fun w hw k hk x hx t => by
      rcases List.mem_append.1 hx with hx | hx
      · exact hw x hx (.step hk t)
      · rw [List.mem_singleton.1 hx] at t
        exact fin_irr (h + 1) a hf k hk t
    rw [catT_congr (F := fullT lf g n (way ++ [a])) (G := fullT lf g m (way' ++ [a])) (at_ g a).items _ fun k hk => full_fin h n m (way ++ [a]) (way' ++ [a]) k (hf k hk) (by omega) (by omega) (key way hw k hk) (key way' hw' k hk)]
/-- The text of a cell. -/
def fullL (lf : Cell → List UInt8) (g : List Cell) (u : Int) : List UInt8 := fullT lf g (g.length + 2) [] u
theorem catT_len {F : Int → List UInt8} {pre : Nat → List UInt8} {x : Int} : ∀ (l : List Int) (i : Nat), x ∈ l → (F x).length ≤ (catT F pre i l).length
  | y :: l, i, h => by
    unfold catT
    simp only [List.length_append]
    rcases List.mem_cons.1 h with rfl | h
    · omega
    · have := catT_len (F := F) (pre := pre) l (i + 1) h
      omega
/-- The text of an array without circles. -/
theorem parts_full {lf : Cell → List UInt8} {g : List Cell} (hg : InG g) {a : Int} (ha : InI g a) (hf : Fin_ g a) (hk : (at_ g a).kind = 6) : fullL lf g a = [91] ++ catT (fullL lf g) (preT (at_ g a)) 0 (at_ g a).items ++ [93] := by
  have hfl := fin_len hg ha hf
  have hfr := free_le g []
  conv => lhs; unfold fullL fullT
  rw [if_neg (by unfold isLeaf; simp [hk]), if_neg (by simp)]
  have e1 : frontT (at_ g a) = [91] := by unfold frontT; rw [if_neg (by omega), if_neg (by omega)]
  have e2 : backT (at_ g a) = [93] := by unfold backT; rw [if_neg (by omega), if_neg (by omega)]
  rw [e1, e2]
  congr 2
  refine catT_congr _ _ fun k hk => ?_
  obtain ⟨h, hh⟩ : ∃ h, g.length = h + 1 := ⟨g.length - 1, by have := ha.1; have := ha.2; omega⟩
  rw [hh] at hfl
  unfold fullL
  exact full_fin h _ _ _ _ k (hfl k hk) (by omega) (by omega) (fun x hx t => by
    rw [List.nil_append, List.mem_singleton] at hx
    subst hx
    exact fin_irr (h + 1) x hfl k hk t) (fun x hx => by cases hx)

/-! ### One graph within another -/
end Go.Core

/-
  Contracts: slices.Equal at strings.
-/
namespace Go.Proofs.YtahjbnfbilkbcaaGreatDoor
open Go.AX Go.RowKit Go.Core
set_option maxRecDepth 20000

end Go.Proofs.YtahjbnfbilkbcaaGreatDoor

/-
  AX, fifty-first text: maps with pairs of numbers as keys.
-/
namespace Go.AX

def pairV (p : Int × Int) : Value := .agg #[.int .i64 p.1, .int .i64 p.2]
/-- The type of a pair. -/
structure PairT (P : Program) (kt it : TypeId) : Prop where
  k : P.underlying kt = some (.array 2 it)
  i : P.underlying it = some (.int .i64)
  s : ∃ inf, P.info? it = some inf ∧ inf.size = 1
section
variable {P : Program} {kt it : TypeId}
theorem PairT.part (h : PairT P kt it) (w : World) {xs : Array Value} {off : Nat} {v : Value} (hx : xs[off]? = some v) : (Go.part it xs off).run P w = .ok v w := by
  simp [Go.part, isAgg, run_underlying h.i, hx]
theorem PairT.int (h : PairT P kt it) (w : World) (n : Nat) (x y : Int) : (Op.equalIn (n + 1) it (.int .i64 x) (.int .i64 y)).run P w = .ok (x == y) w := by
  unfold Op.equalIn
  simp [run_underlying h.i]
theorem PairT.equal (h : PairT P kt it) (w : World) (p q : Int × Int) : (Op.equal kt (pairV p) (pairV q)).run P w = .ok (decide (p = q)) w := by
  obtain ⟨inf, hi, hs⟩ := h.s
  obtain ⟨a, b⟩ := p
  obtain ⟨c, d⟩ := q
  have p1 : ∀ (x y : Int) (w : World), (Go.part it #[.int .i64 x, .int .i64 y] 0).run P w = .ok (.int .i64 x) w := fun x y w => h.part w rfl
  have p2 : ∀ (x y : Int) (w : World), (Go.part it #[.int .i64 x, .int .i64 y] 1).run P w = .ok (.int .i64 y) w := fun x y w => h.part w rfl
  have he := fun x y => h.int w 9998 x y
  have hso : (sizeOf it).run P w = .ok 1 w := by rw [← hs]; simp [sizeOf, typeInfo, hi, Result.andThen]
  show (Op.equalIn (9999 + 1) kt (.agg #[.int .i64 a, .int .i64 b]) (.agg #[.int .i64 c, .int .i64 d])).run P w = _
  unfold Op.equalIn
  simp only [Sem.run_bind, run_underlying h.k, Result.andThen_ok]
  simp only [Std.Legacy.Range.forIn_eq_forIn_range', Std.Legacy.Range.size, Nat.sub_zero, Nat.add_one_sub_one, Nat.div_one]
  rw [show List.range' 0 2 = [0, 1] from rfl]
  simp only [List.forIn_cons, List.forIn_nil, Sem.run_bind, hso, Result.andThen_ok, Nat.mul_one, p1, he]
  by_cases h1 : a = c
  · subst h1
    by_cases h2 : b = d
    · subst h2
      simp [p2, he, Result.andThen]
    · simp [p2, he, Result.andThen, h2]
  · simp [Result.andThen, h1]
theorem PairT.check (h : PairT P kt it) (w : World) (e : Bool) (p : Int × Int) : (Instr.checkKey e 10000 kt (pairV p)).run P w = .ok () w := by
  obtain ⟨inf, hi, hs⟩ := h.s
  obtain ⟨a, b⟩ := p
  have p1 : ∀ (x y : Int) (w : World), (Go.part it #[.int .i64 x, .int .i64 y] 0).run P w = .ok (.int .i64 x) w := fun x y w => h.part w rfl
  have p2 : ∀ (x y : Int) (w : World), (Go.part it #[.int .i64 x, .int .i64 y] 1).run P w = .ok (.int .i64 y) w := fun x y w => h.part w rfl
  have hc : ∀ x, (Instr.checkKey e 9999 it (.int .i64 x)).run P w = .ok () w := fun x => MapKept.run_checkKey (k := .int .i64 x) h.i (by simp [MapKept.IsKey]) e 9998
  have hso : (sizeOf it).run P w = .ok 1 w := by rw [← hs]; simp [sizeOf, typeInfo, hi, Result.andThen]
  show (Instr.checkKey e (9999 + 1) kt (.agg #[.int .i64 a, .int .i64 b])).run P w = _
  unfold Instr.checkKey
  simp only [Sem.run_bind, run_underlying h.k, Result.andThen_ok]
  simp only [Std.Legacy.Range.forIn_eq_forIn_range', Std.Legacy.Range.size, Nat.sub_zero, Nat.add_one_sub_one, Nat.div_one]
  rw [show List.range' 0 2 = [0, 1] from rfl]
  simp only [List.forIn_cons, List.forIn_nil, Sem.run_bind, hso, Result.andThen_ok, Nat.mul_one, p1, p2, hc, Sem.run_pure]
/-- What a map with pairs as keys holds. -/
def PairsAre (es : List MapEntry) (R : List ((Int × Int) × Value)) : Prop := es.map (fun e => (e.key, e.val)) = R.map fun r => (pairV r.1, r.2)
theorem PairT.find (h : PairT P kt it) (w : World) (p : Int × Int) : ∀ (es : List MapEntry) (R : List ((Int × Int) × Value)) (i : Nat), PairsAre es R → ∃ j, (Instr.findAsking kt (pairV p) es i).run P w = .ok ((R.lookup p).map fun v => (j, v)) w
  | [], [], i, _ => ⟨0, by simp [Instr.findAsking]⟩
  | [], r :: R, i, hr => by cases hr
  | e :: es, [], i, hr => by cases hr
  | e :: es, (q, v) :: R, i, hr => by
    unfold PairsAre at hr
    simp only [List.map_cons, List.cons.injEq, Prod.mk.injEq] at hr
    obtain ⟨⟨hk, hv⟩, hr⟩ := hr
    obtain ⟨j, hj⟩ := h.find w p es R (i + 1) hr
    have he := h.equal w p q
    rw [← hk] at he
    by_cases hpq : p = q
    · subst hpq
      refine ⟨i, ?_⟩
      rw [List.lookup_cons, beq_self_eq_true]
      simp [Instr.findAsking, he, hv, Result.andThen]
    · refine ⟨j, ?_⟩
      rw [List.lookup_cons, show (p == q) = false by simp [hpq]]
      simp [Instr.findAsking, he, hpq, hj, Result.andThen]
theorem PairT.findKey (h : PairT P kt it) (w : World) (p : Int × Int) {es : List MapEntry} {R : List ((Int × Int) × Value)} (hr : PairsAre es R) : ∃ j, (Instr.findKey kt (pairV p) es).run P w = .ok ((R.lookup p).map fun v => (j, v)) w := by
  rw [run_findKey_eq w (by rw [h.k])]
  exact h.find w p es R 0 hr
theorem PairsAre.put {es : Array MapEntry} {R : List ((Int × Int) × Value)} (h : PairsAre es.toList R) (p : Int × Int) (v : Value) (born : Nat) : PairsAre (es.push { key := pairV p, val := v, born := born }).toList (R ++ [(p, v)]) := by
  unfold PairsAre at *
  rw [Array.toList_push, List.map_append, List.map_append, h]
  rfl
end
/-- [2]int{x, y} -/
theorem ReadW.pair {P : Program} {o : Oper} {s : List AV} {H : List Ent} {K : AV → Prop} {T it : TypeId} {x y : Operand} {a b : Int} {inf : TypeInfo} (ho : o.op = .build T #[(0, x), (1, y)]) (hT : PairT P T it) (hi : P.info? T = some inf) (hz : inf.zero = some (.agg #[.int .i64 0, .int .i64 0]))
    (hx : opv s x = .c (.v (.int .i64 a))) (hy : opv s y = .c (.v (.int .i64 b))) (h : K (.c (.v (pairV (a, b))))) : ReadW P o s H K :=
  ReadW.val (pairV (a, b)) (fun cs b e => by rw [ho] at e; cases e) (by rw [ho]; show allPlain s [x, y] = true; simp [allPlain, hx, hy]) (fun w hw => by
    obtain ⟨i1, hi1, hs1⟩ := hT.s
    have hso : (sizeOf it).run P w = .ok 1 w := by rw [← hs1]; simp [sizeOf, typeInfo, hi1, Result.andThen]
    have hb : (Instr.build T #[(0, plainEv s x), (1, plainEv s y)]).run P w = .ok (pairV (a, b)) w := by
      rw [plainEv_v hx, plainEv_v hy]
      unfold Instr.build
      simp only [Sem.run_bind, run_zeroValue hi hz, run_underlying hT.k, Result.andThen_ok, hso]
      rfl
    unfold execOp
    simp [ho, hb, Result.andThen]) h
end Go.AX

/-
  Contract: the closure that walks two cells (program's Equal).
-/
namespace Go.Core
end Go.Core
namespace Go.Proofs.YtahjbnfbilkbcaaGreatDoor
open Go.AX Go.RowKit Go.Core
set_option maxRecDepth 20000

end Go.Proofs.YtahjbnfbilkbcaaGreatDoor

/-
  Contract: Equal (program).
-/
namespace Go.Core
theorem valid_in {g : List Cell} (h : ValidP g) : InG g := by
  intro c hc i hi
  have h1 := h.2.1 c hc
  unfold cellD rangeB at h1
  simp only [Bool.and_eq_true] at h1
  have := List.all_eq_true.1 h1.1.1 i hi
  simp only [Bool.and_eq_true, decide_eq_true_eq] at this
  exact this
end Go.Core
namespace Go.Proofs.YtahjbnfbilkbcaaGreatDoor
open Go.AX Go.RowKit Go.Core
set_option maxRecDepth 20000

end Go.Proofs.YtahjbnfbilkbcaaGreatDoor

/-
  Plain: copies and joined graphs are valid.
-/
namespace Go.Core
end Go.Core

/-
  Plain: the text of an array is that of its items.
-/
namespace Go.Core
theorem text_full (lf : Cell → List UInt8) (g : List Cell) (u : Int) : Go.Proofs.YtahjbnfbilkbcaaGreatDoor.textP lf g u = (fullL lf g u).take 20000 := by
  unfold Go.Proofs.YtahjbnfbilkbcaaGreatDoor.textP fullL
  have h := write_full (M := 20000) (leafT := lf) (g := g) (g.length + 2) [] [] u
  rw [h, List.nil_append]
theorem parts_text {lf : Cell → List UInt8} {g : List Cell} (hg : InG g) {k : Int} (hk : InI g k) (hf : Fin_ g k) (h6 : (at_ g k).kind = 6) (hl : (Go.Proofs.YtahjbnfbilkbcaaGreatDoor.textP lf g k).length < 20000) :
    Go.Proofs.YtahjbnfbilkbcaaGreatDoor.textP lf g k = [91] ++ catT (Go.Proofs.YtahjbnfbilkbcaaGreatDoor.textP lf g) (preT (at_ g k)) 0 (at_ g k).items ++ [93] := by
  rw [text_full, List.length_take] at hl
  rw [text_full, List.take_of_length_le (by omega)]
  have hp := parts_full (lf := lf) hg hk hf h6
  rw [hp] at hl ⊢
  simp only [List.length_append, List.length_cons, List.length_nil] at hl
  congr 2
  refine catT_congr _ _ fun x hx => ?_
  have := catT_len (F := fullL lf g) (pre := preT (at_ g k)) (x := x) (at_ g k).items 0 hx
  rw [text_full, List.take_of_length_le (by omega)]
theorem text_len (lf : Cell → List UInt8) (g : List Cell) (u : Int) : (Go.Proofs.YtahjbnfbilkbcaaGreatDoor.textP lf g u).length ≤ 20000 := by
  rw [text_full, List.length_take]
  omega
theorem catT_take {F : Int → List UInt8} {pre : Nat → List UInt8} : ∀ (l : List Int) (i j : Nat) (x : Int), l[j]? = some x → catT F pre i (l.take (j + 1)) = catT F pre i (l.take j) ++ pre (i + j) ++ F x
  | [], _, _, _, h => by cases h
  | y :: l, i, 0, x, h => by
    obtain rfl := Option.some.inj h
    simp [catT]
  | y :: l, i, j + 1, x, h => by
    have ih := catT_take (F := F) (pre := pre) l (i + 1) j x h
    rw [List.take_succ_cons, List.take_succ_cons]
    unfold catT
    rw [ih, show i + 1 + j = i + (j + 1) by omega]
    simp only [List.append_assoc]
theorem catT_bd {F : Int → List UInt8} {pre : Nat → List UInt8} {b c : Nat} (hF : ∀ x, (F x).length ≤ b) (hp : ∀ i, (pre i).length ≤ c) : ∀ (l : List Int) (i : Nat), (catT F pre i l).length ≤ l.length * (b + c)
  | [], _ => Nat.zero_le _
  | x :: l, i => by
    unfold catT
    have := catT_bd hF hp l (i + 1)
    have h1 := hF x
    have h2 := hp i
    simp only [List.length_append, List.length_cons]
    rw [Nat.add_mul]
    omega
end Go.Core

/-
  AX, fifty-third text: maps with numbers as keys, as lists of pairs: asked, written.
-/
namespace Go.AX

def seek {α : Type} [DecidableEq α] (k : α) : List (α × Value) → Nat → Option (Nat × Value)
  | [], _ => none
  | (q, v) :: R, i => if k = q then some (i, v) else seek k R (i + 1)
def upd {α : Type} [DecidableEq α] (k : α) (v : Value) : List (α × Value) → List (α × Value)
  | [] => [(k, v)]
  | (q, x) :: R => if k = q then (q, v) :: R else (q, x) :: upd k v R
theorem seek_look {α : Type} [DecidableEq α] (k : α) : ∀ (R : List (α × Value)) (i : Nat), (seek k R i).map Prod.snd = R.lookup k
  | [], _ => rfl
  | (q, v) :: R, i => by
    unfold seek
    rw [List.lookup_cons]
    by_cases h : k = q
    · subst h
      rw [if_pos rfl, beq_self_eq_true]
      rfl
    · rw [if_neg h, show (k == q) = false by simp [h]]
      exact seek_look k R (i + 1)
theorem look_upd {α : Type} [DecidableEq α] (k j : α) (v : Value) : ∀ R : List (α × Value), (upd k v R).lookup j = if j = k then some v else R.lookup j
  | [] => by
    unfold upd
    rw [List.lookup_cons]
    by_cases h : j = k
    · subst h; simp
    · rw [if_neg h, show (j == k) = false by simp [h]]
  | (q, x) :: R => by
    unfold upd
    have ih := look_upd k j v R
    by_cases h : k = q
    · subst h
      rw [if_pos rfl, List.lookup_cons, List.lookup_cons]
      by_cases h2 : j = k
      · subst h2; simp
      · rw [if_neg h2, show (j == k) = false by simp [h2]]
    · rw [if_neg h, List.lookup_cons, List.lookup_cons, ih]
      by_cases h2 : j = q
      · subst h2
        rw [beq_self_eq_true]
        simp only
        rw [if_neg (fun e => h e.symm)]
      · rw [show (j == q) = false by simp [h2]]
theorem seek_ge {α : Type} [DecidableEq α] (k : α) : ∀ (R : List (α × Value)) (i j : Nat) (v : Value), seek k R i = some (j, v) → i ≤ j
  | [], _, _, _, h => by cases h
  | (q, x) :: R, i, j, v, h => by
    unfold seek at h
    split at h
    · cases h; exact Nat.le_refl _
    · have := seek_ge k R (i + 1) j v h; omega
/-- What a map holds; its keys are told by enc. -/
def KeysAre {α : Type} (enc : α → Value) (es : List MapEntry) (R : List (α × Value)) : Prop := es.map (fun e => (e.key, e.val)) = R.map fun r => (enc r.1, r.2)
section
variable {α : Type} [DecidableEq α] {enc : α → Value}
theorem KeysAre.put {k : α} {v : Value} {born : Nat} : ∀ {es : List MapEntry} {R : List (α × Value)} {i : Nat}, KeysAre enc es R → seek k R i = none → KeysAre enc (es ++ [{ key := enc k, val := v, born := born }]) (upd k v R)
  | [], [], _, _, _ => rfl
  | [], _ :: _, _, h, _ => by cases h
  | _ :: _, [], _, h, _ => by cases h
  | e :: es, (q, x) :: R, i, h, hs => by
    unfold KeysAre at h
    simp only [List.map_cons, List.cons.injEq] at h
    unfold seek at hs
    split at hs
    · cases hs
    · rename_i hk
      have ih := KeysAre.put (v := v) (born := born) (es := es) (R := R) h.2 hs
      unfold upd
      rw [if_neg hk]
      unfold KeysAre at ih ⊢
      rw [List.cons_append, List.map_cons, List.map_cons, ih, h.1]
theorem KeysAre.set {k : α} {v : Value} : ∀ {es : List MapEntry} {R : List (α × Value)} {i j : Nat} {x : Value}, KeysAre enc es R → seek k R i = some (i + j, x) → KeysAre enc (es.modify j fun e => { e with key := enc k, val := v }) (upd k v R) ∧ ∃ e, es[j]? = some e ∧ e.key = enc k
  | [], [], _, _, _, _, hs => by cases hs
  | [], _ :: _, _, _, _, h, _ => by cases h
  | _ :: _, [], _, _, _, h, _ => by cases h
  | e :: es, (q, y) :: R, i, j, x, h, hs => by
    unfold KeysAre at h
    simp only [List.map_cons, List.cons.injEq] at h
    unfold seek at hs
    unfold upd
    split at hs
    · rename_i hk
      subst hk
      simp only [Option.some.injEq, Prod.mk.injEq] at hs
      obtain rfl : j = 0 := by omega
      rw [if_pos rfl]
      refine ⟨?_, e, rfl, congrArg Prod.fst h.1⟩
      unfold KeysAre
      show _ :: List.map _ es = _ :: _
      rw [h.2]
    · rename_i hk
      have hge := seek_ge k R (i + 1) (i + j) x hs
      obtain ⟨j, rfl⟩ : ∃ j2, j = j2 + 1 := ⟨j - 1, by omega⟩
      obtain ⟨h1, e2, h2, h3⟩ := KeysAre.set (v := v) (es := es) (R := R) (i := i + 1) (j := j) (x := x) h.2 (by rw [hs]; congr 2; omega)
      rw [if_neg hk]
      refine ⟨?_, e2, h2, h3⟩
      unfold KeysAre at h1 ⊢
      rw [show List.modify (e :: es) (j + 1) (fun e => { e with key := enc k, val := v }) = e :: List.modify es j (fun e => { e with key := enc k, val := v }) from rfl, List.map_cons, List.map_cons, h1, h.1]
end
/-- What is asked of a type of keys. -/
structure KeyT (P : Program) (kt : TypeId) {α : Type} [DecidableEq α] (enc : α → Value) : Prop where
  check : ∀ (w : World) (e : Bool) (k : α), (Instr.checkKey e 10000 kt (enc k)).run P w = .ok () w
  find : ∀ (w : World) (k : α) (es : List MapEntry) (R : List (α × Value)), KeysAre enc es R → (Instr.findKey kt (enc k) es).run P w = .ok (seek k R 0) w
  stay : ∀ (w : World) (k : α), (Instr.keyThatStays (enc k) (enc k)).run P w = .ok (enc k) w
theorem findNow_seek {κ : IntKind} (k : Int) : ∀ (es : List MapEntry) (R : List (Int × Value)) (i : Nat), KeysAre (fun k => .int κ k) es R → Instr.findNow (.int κ) (.int κ k) es i = some (seek k R i)
  | [], [], _, _ => rfl
  | [], _ :: _, _, h => by cases h
  | _ :: _, [], _, h => by cases h
  | e :: es, (q, x) :: R, i, h => by
    unfold KeysAre at h
    simp only [List.map_cons, List.cons.injEq, Prod.mk.injEq] at h
    have ih := findNow_seek k es R (i + 1) h.2
    unfold seek
    rw [Instr.findNow, h.1.1]
    by_cases hk : k = q
    · subst hk
      simp [Instr.sameNow, h.1.2]
    · have hb : (k == q) = false := by simp [hk]
      simp [Instr.sameNow, hb, hk, ih]
theorem intKeyT {P : Program} {kt : TypeId} {κ : IntKind} (h : P.underlying kt = some (.int κ)) : KeyT P kt (fun k : Int => .int κ k) where
  check := fun w e k => MapKept.run_checkKey (k := .int κ k) h (by simp [MapKept.IsKey]) e 9999
  find := fun w k es R hr => MapKept.run_findKey h (findNow_seek k es R 0 hr)
  stay := fun w k => MapKept.run_keyThatStays (d := .int κ) (k := .int κ k) (by simp [MapKept.IsKey])
section
variable {P : Program} {o : Oper} {s : List AV} {H : List Ent} {t kt et : TypeId} {m k : Operand} {b c : Nat} {es : Array MapEntry} {α : Type} [DecidableEq α] {enc : α → Value} {p : α}
/-- m[k] -/
theorem ReadW.keyMap {K : AV → Prop} {inf : TypeInfo} {z : Value} (R : List (α × Value)) (ho : o.op = .lookup t m k false) (ht : P.underlying t = some (.map kt et)) (hkt : KeyT P kt enc) (hi : P.info? et = some inf) (hz : inf.zero = some z)
    (hm : opv s m = .c (.v (.map (some b)))) (hk : opv s k = .c (.v (enc p))) (hF : ∀ w, Facts H w → w.heap[b]? = some (.map es c)) (hf : KeysAre enc es.toList R) (h : K (.c (.v ((R.lookup p).getD z)))) : ReadW P o s H K :=
  ReadW.val ((R.lookup p).getD z) (fun cs b e => by rw [ho] at e; cases e) (by rw [ho]; show allPlain s [m, k] = true; simp [allPlain, hm, hk]) (fun w hw => by
    have hb := hF w hw
    have hc := hkt.check w es.isEmpty p
    have hj := hkt.find w p es.toList R hf
    have hlk := seek_look p R 0
    have hrun : (Instr.lookup t (.map (some b)) (enc p) false).run P w = .ok ((R.lookup p).getD z) w := by
      cases hr : seek p R 0 with
      | none => rw [hr] at hj hlk; rw [← hlk]; simp [Instr.lookup, run_underlying ht, MapKept.run_getObj_map hb, hc, hj, Result.andThen, run_zeroValue hi hz]
      | some q => rw [hr] at hj hlk; rw [← hlk]; simp [Instr.lookup, run_underlying ht, MapKept.run_getObj_map hb, hc, hj, Result.andThen]
    unfold execOp
    simp only [ho, plainEv_v hm, plainEv_v hk, Sem.run_bind, hrun, Result.andThen_ok, Sem.run_pure]) h
/-- m[k] = v -/
theorem EffW.setMap {K : AV → List Ent → Prop} {x : Operand} {val : Value} (i : Nat) (R : List (α × Value)) (ho : o.op = .mapUpdate t m k x) (ht : P.underlying t = some (.map kt et)) (hkt : KeyT P kt enc)
    (hm : opv s m = .c (.v (.map (some b)))) (hk : opv s k = .c (.v (enc p))) (hx : opv s x = .c (.v val)) (hi : nthE H i = some (.mp b es c)) (hf : KeysAre enc es.toList R)
    (next : ∀ es' c', KeysAre enc es'.toList (upd p val R) → setEK H i (.mp b es' c') fun H' => K (.c .any) H') : EffW P o s H K := by
  rw [nthE_eq] at hi
  obtain ⟨es', c', hnew, hrun⟩ : ∃ es' c', KeysAre enc es'.toList (upd p val R) ∧ ∀ w : World, w.heap[b]? = some (.map es c) → (Instr.mapUpdate t (.map (some b)) (enc p) val).run P w = .ok () { w with heap := w.heap.setIfInBounds b (.map es' c') } := by
    cases hr : seek p R 0 with
    | none =>
      refine ⟨es.push { key := enc p, val := val, born := c }, c + 1, by rw [Array.toList_push]; exact hf.put hr, fun w hb => ?_⟩
      have hj := hkt.find w p es.toList R hf
      rw [hr] at hj
      simp [Instr.mapUpdate, run_underlying ht, MapKept.run_getObj_map hb, hkt.check w false p, hj, MapKept.run_setObj_map _ hb, Result.andThen]
    | some q =>
      obtain ⟨j, v0⟩ := q
      obtain ⟨h1, e, h2, h3⟩ := hf.set (v := val) (i := 0) (j := j) (x := v0) (by rw [Nat.zero_add]; exact hr)
      refine ⟨es.modify j fun e => { e with key := enc p, val := val }, c, by rw [Array.toList_modify]; exact h1, fun w hb => ?_⟩
      have hj := hkt.find w p es.toList R hf
      rw [hr] at hj
      have h2' : es[j]? = some e := by rw [← h2]; simp
      have hst : (Instr.keyThatStays (((es[j]?).map (·.key)).getD (enc p)) (enc p)).run P w = .ok (enc p) w := by
        rw [h2']
        show (Instr.keyThatStays e.key (enc p)).run P w = _
        rw [h3]
        exact hkt.stay w p
      simp only [Instr.mapUpdate, Sem.run_bind, run_underlying ht, Result.andThen_ok, MapKept.run_getObj_map hb, hkt.check w false p, hj, hst, MapKept.run_setObj_map _ hb]
  obtain ⟨_, hk2⟩ := setEK_spec (next es' c' hnew)
  refine Effs.w (fun ρ S w a hs hr => ?_) hk2
  have h1 : a.eval m = .map (some b) := by have := opv_rel hr m; rw [hm] at this; exact this
  have h2 : a.eval k = enc p := by have := opv_rel hr k; rw [hk] at this; exact this
  have h3 : a.eval x = val := by have := opv_rel hr x; rw [hx] at this; exact this
  have hb : w.heap[b]? = some (.map es c) := hs.ent i _ hi
  have hbl : b < w.heap.size := (Array.getElem?_eq_some_iff.1 hb).1
  have hS := hs.setG (e' := .mp b es' c') (c := b) (w' := { w with heap := w.heap.setIfInBounds b (.map es' c') }) hi rfl (by simp) (fun j _ hne => by simp [Ne.symm hne]) rfl rfl rfl (fun _ hc => .inl (Option.some.inj hc).symm) (by show (w.heap.setIfInBounds b _)[b]? = _; simp [hbl])
  refine ⟨.skip, undef, ρ, _, ?_, .inr ⟨rfl, rfl⟩, hS.1, hS.2, trivial⟩
  unfold execOp
  simp only [ho, h1, h2, h3, Sem.run_bind, Sem.run_pure, hrun w hb, Result.andThen_ok]
end
end Go.AX

/-
  Contract: what is reached (program).
-/
namespace Go.Core
def seenI (L : List Int) : List (Int × Value) := L.map fun i => (i, .bool true)
end Go.Core
namespace Go.Proofs.YtahjbnfbilkbcaaGreatDoor
open Go.AX Go.RowKit Go.Core
set_option maxRecDepth 20000

theorem intT : KeyT Tryz.prog 3 (fun k : Int => .int .i64 k) := intKeyT (by kernel_rfl)
structure WSt where
  es : Array MapEntry
  c : Nat
  o : BSt
def WSt.ok (L : List Int) (st : WSt) : Prop := KeysAre (fun k : Int => .int .i64 k) st.es.toList (seenI L) ∧ st.o.ok L.length
end Go.Proofs.YtahjbnfbilkbcaaGreatDoor

/-
  Contracts: reach, Reach (program).
-/
namespace Go.Proofs.YtahjbnfbilkbcaaGreatDoor
open Go.AX Go.RowKit Go.Core
set_option maxRecDepth 20000

end Go.Proofs.YtahjbnfbilkbcaaGreatDoor

/-
  Contracts: slices.ContainsFunc of numbers, by a closure that writes a map; circular (program).
-/
namespace Go.Core
theorem any_at {α : Type} {f : α → Int → Bool × α} {d : α} {l : List Int} {k : Nat} {x : Int} (h : l[k]? = some x) : anyL f d (l.drop k) = match f d x with | (true, d') => (true, d') | (false, d') => anyL f d' (l.drop (k + 1)) := by
  obtain ⟨hlt, hx⟩ := List.getElem?_eq_some_iff.1 h
  rw [List.drop_eq_getElem_cons hlt, hx]
  rfl
end Go.Core
namespace Go.Proofs.YtahjbnfbilkbcaaGreatDoor
open Go.AX Go.RowKit Go.Core
set_option maxRecDepth 20000

theorem rnS_pvs (σ : List Nat) (N : Nat) : ∀ xs : List Value, rnS σ N (pvs xs) = pvs xs
  | [] => rfl
  | x :: xs => by
    show rnA σ N (.c (.v x)) :: rnS σ N (pvs xs) = _
    rw [rnS_pvs σ N xs]
    rfl
def mpH (F : World → Prop) (mb : Nat) (st : Array MapEntry × Nat) : List Ent := [.mp mb st.1 st.2, .fact F]
theorem mpH_ok (F : World → Prop) (mb : Nat) (st : Array MapEntry × Nat) : okH (mpH F mb st).length (mpH F mb st) := okHB_eq rfl
/-- What a closure over a map answers. -/
def CloS (g : Nat) (caps : List Value) (F : World → Prop) (mb : Nat) (ok : List Int → Array MapEntry × Nat → Prop) (f : List Int → Int → Bool × List Int) (x : Int) : Prop :=
  ∀ d st, ok d st → SpecH Tryz.prog g (pvs [.int .i64 x] ++ pvs caps) (mpH F mb st) (RetG (ι := Array MapEntry × Nat) (fun st => ok (f d x).2 st) (fun _ => .bool (f d x).1) (mpH F mb))
set_option maxHeartbeats 4000000 in
theorem IndexM_c (g : Nat) (caps : Array Value) (F : World → Prop) (mb : Nat) (ok : List Int → Array MapEntry × Nat → Prop) (f : List Int → Int → Bool × List Int) (a : Option Addr) (cap : Nat) (l : List Int) (hf : ∀ x ∈ l, CloS g caps.toList F mb ok f x) (ha : a = none → l = []) (hl : l.length ≤ 200000000000000) (hF : ∀ w, F w → SlAt a (l.length * 1) (iC l) w) (d : List Int) (st : Array MapEntry × Nat) (hst : ok d st) :
    SpecH Tryz.prog 92 (pvs [.slice a l.length cap, .func (.func g) #[] caps]) (mpH F mb st) (RetG (ι := (Array MapEntry × Nat) × Int) (fun x => ok (anyL f d l).2 x.1 ∧ decide (0 ≤ x.2) = (anyL f d l).1) (fun x => .int .i64 x.2) (fun x => mpH F mb x.1)) := by
  refine ownC hm Tryz.func92 (by kernel_rfl) rfl rfl (fun _ _ => mpH_ok _ _ _) (fun _ _ => Nat.le_refl _) ?_
  (first | refine wX ?_ | exact wZ)
  refine LoopN.intro (Nat × List Int × (Array MapEntry × Nat)) (fun ⟨i, e, s⟩ => i ≤ l.length ∧ ok e s ∧ anyL f d l = anyL f e (l.drop i)) (fun ⟨i, _, _⟩ => mkS Tryz.f92.ntmps 0 [(0, .c (.v (.slice a l.length cap))), (1, .c (.v (.func (.func g) #[] caps))), (7, .c (.v (.int .i64 (l.length : Int)))), (8, .c (.v (.int .i64 (i : Int))))]) (fun ⟨_, _, s⟩ => mpH F mb s) (fun ⟨i, _, _⟩ => l.length - i) [] rfl (fun ⟨_, _, _⟩ => rfl) (fun ⟨_, _, _⟩ => rfl) (fun ⟨_, _, _⟩ _ => okHB_eq rfl) ?_ ?_
  · refine ⟨(0, d, st), ⟨Nat.zero_le _, hst, rfl⟩, ?_, wkE_refl _, wkE_refl _, trivial⟩
    (repeat' (first | exact trivial | refine And.intro (by with_reducible rfl) ?_ | (with_reducible exact wkC_refl _) | (with_reducible exact wkCs_refl _) | refine And.intro ?_ ?_))
    all_goals rfl
  rintro ⟨i, e, s⟩ ⟨hi, hs, he⟩
  (first | refine wX ?_ | exact wZ)
  refine brd_dec (fun h1 => ?_) (fun h1 => ?_)
  · obtain ⟨x, hx⟩ : ∃ o, l[i]? = some o := ⟨_, List.getElem?_eq_getElem (by omega)⟩
    have hsa : a.isSome = true := by
      cases a with
      | none => rw [ha rfl] at hx; cases hx
      | some b => rfl
    have hst := any_at (f := f) (d := e) hx
    (first | refine wX ?_ | exact wZ)
    refine Nd.mk ⟨hsa, by omega, by omega⟩ ?_
    (first | refine wX ?_ | exact wZ)
    refine LdN.one (.int .i64 x) rfl (fun w hw => hF w hw.2.1) (by rw [Int.toNat_natCast]; show (iC l)[i * 1]? = _; rw [Nat.mul_one]; exact iC_get hx) ?_
    (first | refine wX ?_ | exact wZ)
    refine callG (hf x (List.mem_of_getElem? hx) e s hs) [0, 1] rfl ⟨rfl, rfl, trivial⟩ (by show _ :: pvs caps.toList = rnA _ _ _ :: rnS _ _ (pvs caps.toList); rw [rnS_pvs]; rfl) fun s2 hs2 => ?_
    obtain ⟨⟨b, e2⟩, hb⟩ : ∃ z, f e x = z := ⟨_, rfl⟩
    rw [hb] at hs2 hst ⊢
    simp only at hs2 hst ⊢
    cases b with
    | true =>
      rw [hst] at he
      rw [he]
      (first | refine wX ?_ | exact wZ)
      exact ⟨(s2, (i : Int)), ⟨hs2, decide_eq_true (Int.natCast_nonneg _)⟩, rfl, wkE_refl _, wkE_refl _, trivial⟩
    | false =>
      (first | refine wX ?_ | exact wZ)
      refine ⟨(i + 1, e2, s2), ⟨by omega, hs2, by rw [he, hst]⟩, by show l.length - (i + 1) < l.length - i; omega, ?_, wkE_refl _, wkE_refl _, trivial⟩
      (repeat' (first | exact trivial | refine And.intro (by with_reducible rfl) ?_ | (with_reducible exact wkC_refl _) | (with_reducible exact wkCs_refl _) | refine And.intro ?_ ?_))
      all_goals first | rfl | exact av_int (by rw [wrap_i64 (by omega)]; omega)
  · have hin : i = l.length := by omega
    subst hin
    rw [List.drop_of_length_le (Nat.le_refl _)] at he
    rw [he]
    (first | refine wX ?_ | exact wZ)
    exact ⟨(s, -1), ⟨hs, rfl⟩, rfl, wkE_refl _, wkE_refl _, trivial⟩
theorem ContainsM_c (g : Nat) (caps : Array Value) (F : World → Prop) (mb : Nat) (ok : List Int → Array MapEntry × Nat → Prop) (f : List Int → Int → Bool × List Int) (a : Option Addr) (cap : Nat) (l : List Int) (hf : ∀ x ∈ l, CloS g caps.toList F mb ok f x) (ha : a = none → l = []) (hl : l.length ≤ 200000000000000) (hF : ∀ w, F w → SlAt a (l.length * 1) (iC l) w) (d : List Int) (st : Array MapEntry × Nat) (hst : ok d st) :
    SpecH Tryz.prog 46 (pvs [.slice a l.length cap, .func (.func g) #[] caps]) (mpH F mb st) (RetG (ι := Array MapEntry × Nat) (fun st => ok (anyL f d l).2 st) (fun _ => .bool (anyL f d l).1) (mpH F mb)) := by
  refine ownC hm Tryz.func46 (by kernel_rfl) rfl rfl (fun _ _ => mpH_ok _ _ _) (fun _ _ => Nat.le_refl _) ?_
  (first | refine wX ?_ | exact wZ)
  refine callG (IndexM_c g caps F mb ok f a cap l hf ha hl hF d st hst) [0, 1] rfl ⟨rfl, rfl, trivial⟩ rfl fun ⟨s2, k⟩ ⟨h1, h2⟩ => ?_
  simp only at h1 h2
  (first | refine wX ?_ | exact wZ)
  exact ⟨s2, h1, by rw [← h2], wkE_refl _, wkE_refl _, trivial⟩
def ccF (a : Option Addr) (ca : Nat) (l : List CellP) (sb gb fb mb : Nat) (w : World) : Prop :=
  GrF a l w ∧ SlAt (some ⟨sb, 0, none⟩) 1 [.map (some mb)] w ∧ SlAt (some ⟨gb, 0, none⟩) 1 [.slice a l.length ca] w ∧ SlAt (some ⟨fb, 0, none⟩) 1 [.func (.func 103) #[] #[.pointer (some ⟨sb, 0, none⟩), .pointer (some ⟨gb, 0, none⟩), .pointer (some ⟨fb, 0, none⟩)]] w
def colour (u d : List Int) (i : Int) : Int := if i ∈ u then 1 else if i ∈ d then 2 else 0
def okC (u d : List Int) (st : Array MapEntry × Nat) : Prop := ∃ R : List (Int × Value), KeysAre (fun k : Int => .int .i64 k) st.1.toList R ∧ ∀ i, (R.lookup i).getD (.int .i64 0) = .int .i64 (colour u d i)
theorem okC_put {u d : List Int} {R : List (Int × Value)} {i : Int} (h : ∀ i, (R.lookup i).getD (.int .i64 0) = .int .i64 (colour u d i)) {u2 d2 : List Int} {c : Int} (hc : colour u2 d2 i = c) (ho : ∀ j, j ≠ i → colour u2 d2 j = colour u d j) : ∀ j, ((upd i (.int .i64 c) R).lookup j).getD (.int .i64 0) = .int .i64 (colour u2 d2 j) := by
  intro j
  rw [look_upd]
  by_cases hj : j = i
  · subst hj
    rw [if_pos rfl, hc]
    rfl
  · rw [if_neg hj, h j, ho j hj]
set_option maxHeartbeats 4000000 in
theorem cwalk_c (a : Option Addr) (ca : Nat) (l : List CellP) (ha : a = none → l = []) (hs : Small l) (hok : ∀ p ∈ l, CellOk p) (hg : InG (l.map (·.c))) (sb gb fb mb : Nat) : ∀ (n : Nat) (u : List Int), u.Nodup → (∀ x ∈ u, 0 ≤ x ∧ x < (l.length : Int)) → l.length + 1 ≤ n + u.length → ∀ i, InI (l.map (·.c)) i →
    CloS 103 [.pointer (some ⟨sb, 0, none⟩), .pointer (some ⟨gb, 0, none⟩), .pointer (some ⟨fb, 0, none⟩)] (ccF a ca l sb gb fb mb) mb (okC u) (circF (l.map (·.c)) n u) i := by
  intro n
  induction n with
  | zero => intro u hu hui hn; have := way_le hu hui; omega
  | succ n ih =>
    intro u hu hui hn i0 hi d ⟨es, c⟩ ⟨R, hR, hcol⟩
    obtain ⟨i, rfl⟩ : ∃ i : Nat, i0 = (i : Int) := ⟨i0.toNat, by have := hi.1; omega⟩
    have hil : i < l.length := by have := hi.2; simp only [List.length_map] at this; omega
    obtain ⟨p, hp⟩ : ∃ x, l[i]? = some x := ⟨_, List.getElem?_eq_getElem hil⟩
    have hpm := List.mem_of_getElem? hp
    have hpo := hok p hpm
    have hps := hs.2 p hpm
    have hl := hs.1
    have hsa : a.isSome = true := by
      cases a with
      | none => rw [ha rfl] at hil; exact absurd hil (Nat.not_lt_zero _)
      | some b => rfl
    have hci := hcol (i : Int)
    have hout : outs (l.map (·.c)) (i : Int) = p.c.items := by unfold outs; rw [at_map hp]
    refine ownC hm Tryz.func103 (by kernel_rfl) rfl rfl (fun _ _ => mpH_ok _ _ _) (fun _ _ => Nat.le_refl _) ?_
    (first | refine wX ?_ | exact wZ)
    refine LdN.one (a := some ⟨sb, 0, none⟩) (q := 0) (.map (some mb)) rfl (fun w hw => hw.2.1.2.1) rfl ?_
    (first | refine wX ?_ | exact wZ)
    refine ReadW.keyMap (et := 3) (p := (i : Int)) R rfl (by kernel_rfl) intT rfl rfl rfl rfl (fun w hw => hw.1) hR ?_
    rw [hci]
    by_cases hiu : (i : Int) ∈ u
    · have h1 : colour u d (i : Int) = 1 := by unfold colour; rw [if_pos hiu]
      have hcf : circF (l.map (·.c)) (n + 1) u d (i : Int) = (true, d) := by unfold circF; rw [if_pos hiu]
      rw [h1, hcf]
      (first | refine wX ?_ | exact wZ)
      exact ⟨(es, c), ⟨R, hR, hcol⟩, rfl, wkH_refl _⟩
    by_cases hid : (i : Int) ∈ d
    · have h1 : colour u d (i : Int) = 2 := by unfold colour; rw [if_neg hiu, if_pos hid]
      have hcf : circF (l.map (·.c)) (n + 1) u d (i : Int) = (false, d) := by unfold circF; rw [if_neg hiu, if_pos hid]
      rw [h1, hcf]
      (first | refine wX ?_ | exact wZ)
      exact ⟨(es, c), ⟨R, hR, hcol⟩, rfl, wkH_refl _⟩
    have h1 : colour u d (i : Int) = 0 := by unfold colour; rw [if_neg hiu, if_neg hid]
    have hcf : circF (l.map (·.c)) (n + 1) u d (i : Int) = ((anyL (circF (l.map (·.c)) n ((i : Int) :: u)) d p.c.items).1, (i : Int) :: (anyL (circF (l.map (·.c)) n ((i : Int) :: u)) d p.c.items).2) := by
      conv => lhs; unfold circF
      rw [if_neg hiu, if_neg hid, hout]
    rw [h1, hcf]
    (first | refine wX ?_ | exact wZ)
    refine LdN.one (a := some ⟨sb, 0, none⟩) (q := 0) (.map (some mb)) rfl (fun w hw => hw.2.1.2.1) rfl ?_
    (first | refine wX ?_ | exact wZ)
    refine EffW.setMap (et := 3) (p := (i : Int)) 0 R rfl (by kernel_rfl) intT rfl rfl rfl rfl hR fun es2 c2 hk2 => ?_
    have hcol2 := okC_put (i := (i : Int)) (c := 1) hcol (u2 := (i : Int) :: u) (d2 := d) (by unfold colour; rw [if_pos (by simp)]) (fun j hj => by unfold colour; simp [hj])
    ((conv => whnf); (repeat ((first | refine VrN.keep ?_ | refine BoxN.own ?_ | refine RwN.own ?_); (conv => whnf))))
    refine DrawN.plan [1] [(0, 1), (2, 1), (3, 1), (4, 1), (5, 1)] [(6, 0), (7, 0)] (by decide +kernel) ?_
    (first | refine wX ?_ | exact wZ)
    refine LdN.one (a := some ⟨gb, 0, none⟩) (q := 0) (.slice a l.length ca) rfl (fun w hw => hw.2.1.2.2.1) rfl ?_
    (first | refine wX ?_ | exact wZ)
    refine Nd.mk ⟨hsa, by omega, by omega⟩ ?_
    (first | refine wX ?_ | exact wZ)
    refine LdN.fld (.slice p.ia p.c.items.length p.ic) rfl (fun w hw => hw.2.1.1.1) (by rw [Int.toNat_natCast]; exact grC_get l i 4 (by decide) hp) ?_
    (first | refine wX ?_ | exact wZ)
    refine LdN.one (a := some ⟨fb, 0, none⟩) (q := 0) (.func (.func 103) #[] #[.pointer (some ⟨sb, 0, none⟩), .pointer (some ⟨gb, 0, none⟩), .pointer (some ⟨fb, 0, none⟩)]) rfl (fun w hw => hw.2.1.2.2.2) rfl ?_
    (first | refine wX ?_ | exact wZ)
    have hu2 : ((i : Int) :: u).Nodup := List.nodup_cons.2 ⟨hiu, hu⟩
    have hui2 : ∀ x ∈ (i : Int) :: u, 0 ≤ x ∧ x < (l.length : Int) := fun x hx => by
      rcases List.mem_cons.1 hx with rfl | hx
      · omega
      · exact hui x hx
    have hih := ih ((i : Int) :: u) hu2 hui2 (by simp only [List.length_cons]; omega)
    refine callG (ContainsM_c 103 #[.pointer (some ⟨sb, 0, none⟩), .pointer (some ⟨gb, 0, none⟩), .pointer (some ⟨fb, 0, none⟩)] (ccF a ca l sb gb fb mb) mb (okC ((i : Int) :: u)) (circF (l.map (·.c)) n ((i : Int) :: u)) p.ia p.ic p.c.items (fun x hx => hih x (outs_in hg hi (by rw [hout]; exact hx))) hpo.ia hpo.il (fun w hw => (hw.1.2 p hpm).2) d (es2, c2) ⟨_, hk2, hcol2⟩) [0, 1] rfl ⟨rfl, rfl, trivial⟩ rfl fun ⟨es3, c3⟩ hst3 => ?_
    obtain ⟨⟨b, d3⟩, hb⟩ : ∃ z, anyL (circF (l.map (·.c)) n ((i : Int) :: u)) d p.c.items = z := ⟨_, rfl⟩
    rw [hb] at hst3 ⊢
    obtain ⟨R3, hR3, hcol3⟩ := hst3
    simp only at hcol3 ⊢
    (first | refine wX ?_ | exact wZ)
    refine LdN.one (a := some ⟨sb, 0, none⟩) (q := 0) (.map (some mb)) rfl (fun w hw => hw.2.1.2.1) rfl ?_
    (first | refine wX ?_ | exact wZ)
    refine EffW.setMap (et := 3) (p := (i : Int)) 0 R3 rfl (by kernel_rfl) intT rfl rfl rfl rfl hR3 fun es4 c4 hk4 => ?_
    have hcol4 := okC_put (i := (i : Int)) (c := 2) hcol3 (u2 := u) (d2 := (i : Int) :: d3) (by unfold colour; rw [if_neg hiu, if_pos (by simp)]) (fun j hj => by unfold colour; simp [hj])
    (first | refine wX ?_ | exact wZ)
    exact ⟨(es4, c4), ⟨_, hk4, hcol4⟩, rfl, wkE_refl _, wkE_refl _, trivial⟩
/-- Whether a circle is reached. -/
def circB (g : List Cell) (i : Int) : Bool := (circF g (g.length + 1) [] [] i).1
set_option maxHeartbeats 4000000 in
theorem circular_c {a : Option Addr} (ca : Nat) {l : List CellP} (ha : a = none → l = []) (hs : Small l) (hok : ∀ p ∈ l, CellOk p) (hg : InG (l.map (·.c))) (i : Int) (hi : InI (l.map (·.c)) i) :
    ∀ H, (∀ w, Facts H w → GrF a l w) → SpecH Tryz.prog 55 (pvs [.slice a l.length ca, .int .i64 i]) H (Ret (.bool (circB (l.map (·.c)) i)) H) := by
  refine factC hm Tryz.func55 (by kernel_rfl) rfl rfl ?_
  (conv => whnf)
  refine BoxN.known [.slice a l.length ca] rfl fun gb => ?_
  ((conv => whnf); (repeat ((first | refine RwN.own ?_ | refine VrN.norm (wrap_i64 (by omega)) ?_ | refine VrN.keep ?_ | refine DrawN.calm (by decide +kernel) ?_ | refine Nd.mk (by decide +kernel) ?_ | refine Nd.mk (by omega) ?_ | (refine Nd.mk ?_ ?_; focus ((repeat' (first | exact trivial | exact wkE_refl _ | refine And.intro ?_ ?_)); done)) | refine RdN.intro _ rfl (by rfl) ?_); (conv => whnf))))
  refine EffW.mkMap rfl fun mb => ?_
  ((conv => whnf); (repeat ((first | refine RwN.own ?_ | refine VrN.norm (wrap_i64 (by omega)) ?_ | refine VrN.keep ?_ | refine DrawN.calm (by decide +kernel) ?_ | refine Nd.mk (by decide +kernel) ?_ | refine Nd.mk (by omega) ?_ | (refine Nd.mk ?_ ?_; focus ((repeat' (first | exact trivial | exact wkE_refl _ | refine And.intro ?_ ?_)); done)) | refine RdN.intro _ rfl (by rfl) ?_); (conv => whnf))))
  refine BoxN.known [.map none] rfl fun sb => ?_
  ((conv => whnf); (repeat ((first | refine RwN.own ?_ | refine VrN.norm (wrap_i64 (by omega)) ?_ | refine VrN.keep ?_ | refine DrawN.calm (by decide +kernel) ?_ | refine Nd.mk (by decide +kernel) ?_ | refine Nd.mk (by omega) ?_ | (refine Nd.mk ?_ ?_; focus ((repeat' (first | exact trivial | exact wkE_refl _ | refine And.intro ?_ ?_)); done)) | refine RdN.intro _ rfl (by rfl) ?_); (conv => whnf))))
  refine EffW.appTo (i := 3) (q := 0) (ys := [.map (some mb)]) [.map (some mb)] 1 rfl rfl rfl rfl rfl rfl rfl (Nat.le_of_ble_eq_true rfl) rfl rfl ?_
  ((conv => whnf); (repeat ((first | refine RwN.own ?_ | refine VrN.norm (wrap_i64 (by omega)) ?_ | refine VrN.keep ?_ | refine DrawN.calm (by decide +kernel) ?_ | refine Nd.mk (by decide +kernel) ?_ | refine Nd.mk (by omega) ?_ | (refine Nd.mk ?_ ?_; focus ((repeat' (first | exact trivial | exact wkE_refl _ | refine And.intro ?_ ?_)); done)) | refine RdN.intro _ rfl (by rfl) ?_); (conv => whnf))))
  refine BoxN.known [.nilFunc] rfl fun fb => ?_
  ((conv => whnf); (repeat ((first | refine RwN.own ?_ | refine VrN.norm (wrap_i64 (by omega)) ?_ | refine VrN.keep ?_ | refine DrawN.calm (by decide +kernel) ?_ | refine Nd.mk (by decide +kernel) ?_ | refine Nd.mk (by omega) ?_ | (refine Nd.mk ?_ ?_; focus ((repeat' (first | exact trivial | exact wkE_refl _ | refine And.intro ?_ ?_)); done)) | refine RdN.intro _ rfl (by rfl) ?_); (conv => whnf))))
  refine EffW.appTo (i := 4) (q := 0) (ys := [.func (.func 103) #[] #[.pointer (some ⟨sb, 0, none⟩), .pointer (some ⟨gb, 0, none⟩), .pointer (some ⟨fb, 0, none⟩)]]) [.func (.func 103) #[] #[.pointer (some ⟨sb, 0, none⟩), .pointer (some ⟨gb, 0, none⟩), .pointer (some ⟨fb, 0, none⟩)]] 1 rfl rfl rfl (by simp [opv, nth, plainEv, avCells, vs]; try rfl) rfl rfl rfl (Nat.le_of_ble_eq_true rfl) rfl rfl ?_
  ((conv => whnf); (repeat ((first | refine RwN.own ?_ | refine VrN.norm (wrap_i64 (by omega)) ?_ | refine VrN.keep ?_ | refine DrawN.calm (by decide +kernel) ?_ | refine Nd.mk (by decide +kernel) ?_ | refine Nd.mk (by omega) ?_ | (refine Nd.mk ?_ ?_; focus ((repeat' (first | exact trivial | exact wkE_refl _ | refine And.intro ?_ ?_)); done)) | refine RdN.intro _ rfl (by rfl) ?_); (conv => whnf))))
  refine LdN.one (a := some ⟨fb, 0, none⟩) (q := 0) (.func (.func 103) #[] #[.pointer (some ⟨sb, 0, none⟩), .pointer (some ⟨gb, 0, none⟩), .pointer (some ⟨fb, 0, none⟩)]) rfl (fun w hw => hw.2.2.2.2.1) rfl ?_
  ((conv => whnf); (repeat ((first | refine RwN.own ?_ | refine VrN.norm (wrap_i64 (by omega)) ?_ | refine VrN.keep ?_ | refine DrawN.calm (by decide +kernel) ?_ | refine Nd.mk (by decide +kernel) ?_ | refine Nd.mk (by omega) ?_ | (refine Nd.mk ?_ ?_; focus ((repeat' (first | exact trivial | exact wkE_refl _ | refine And.intro ?_ ?_)); done)) | refine RdN.intro _ rfl (by rfl) ?_); (conv => whnf))))
  refine SpecH.args (args' := pvs [.int .i64 i] ++ pvs [.pointer (some ⟨sb, 0, none⟩), .pointer (some ⟨gb, 0, none⟩), .pointer (some ⟨fb, 0, none⟩)]) (by simp [pvs, opvs, opv, nth]; try rfl) ?_
  refine SpecH.turn [.fact (GrF a l), .fact (ccF a ca l sb gb fb mb), .mp mb #[] 0, .dead, .dead] ⟨.inr (.inl rfl), .inr (.inr ⟨_, rfl, fun w hw => ⟨hw.1, hw.2.2.1, hw.2.1, hw.2.2.2.1⟩⟩), .inr (.inl rfl), .inl rfl, .inl rfl, trivial⟩ ?_
  have hgl : (l.map (·.c)).length = l.length := by simp
  refine callG (cwalk_c a ca l ha hs hok hg sb gb fb mb ((l.map (·.c)).length + 1) [] List.nodup_nil (fun x hx => by cases hx) (by rw [hgl]; simp) i hi [] (#[], 0) ⟨[], rfl, fun j => rfl⟩) [2, 1] rfl ⟨rfl, rfl, trivial⟩ rfl fun ⟨es, c⟩ _ => ?_
  rw [show (circF (l.map (·.c)) ((l.map (·.c)).length + 1) [] [] i).1 = circB (l.map (·.c)) i from rfl]
  (first | refine wX ?_ | exact wZ)
end Go.Proofs.YtahjbnfbilkbcaaGreatDoor

/-
  Contract: how deep (program).
-/
namespace Go.Proofs.YtahjbnfbilkbcaaGreatDoor
open Go.AX Go.RowKit Go.Core
set_option maxRecDepth 20000

end Go.Proofs.YtahjbnfbilkbcaaGreatDoor

/-
  Contract: the document's list of pairs (equal).
-/
namespace Go.Core
/-- A pair's place among all. -/
def idxP (n : Nat) (p : Int × Int) : Nat := p.1.toNat * n + p.2.toNat
theorem idxP_lt {g : List Cell} {p : Int × Int} (h : InP g p) : idxP g.length p < g.length * g.length := by
  obtain ⟨⟨h1, h2⟩, h3, h4⟩ := h
  unfold idxP
  have : (p.1.toNat + 1) * g.length ≤ g.length * g.length := Nat.mul_le_mul_right _ (by omega)
  rw [Nat.add_mul, Nat.one_mul] at this
  omega
theorem idxP_inj {g : List Cell} {p q : Int × Int} (hp : InP g p) (hq : InP g q) (h : idxP g.length p = idxP g.length q) : p = q := by
  obtain ⟨⟨a1, a2⟩, a3, a4⟩ := hp
  obtain ⟨⟨b1, b2⟩, b3, b4⟩ := hq
  unfold idxP at h
  have m1 : (p.1.toNat * g.length + p.2.toNat) % g.length = p.2.toNat := by rw [Nat.mul_add_mod_self_right]; exact Nat.mod_eq_of_lt (by omega)
  have m2 : (q.1.toNat * g.length + q.2.toNat) % g.length = q.2.toNat := by rw [Nat.mul_add_mod_self_right]; exact Nat.mod_eq_of_lt (by omega)
  have hz : p.2.toNat = q.2.toNat := by rw [← m1, ← m2, h]
  have hx : p.1.toNat = q.1.toNat := Nat.eq_of_mul_eq_mul_right (show 0 < g.length by omega) (by omega)
  exact Prod.ext (by omega) (by omega)
/-- Which pairs were seen. -/
structure SeenS (g : List Cell) (l : List (Int × Int)) (S : List Bool) : Prop where
  len : S.length = g.length * g.length
  get : ∀ p, InP g p → S[idxP g.length p]? = some (decide (p ∈ l))
theorem SeenS.none (g : List Cell) : SeenS g [] (List.replicate (g.length * g.length) false) := ⟨by simp, fun p hp => by rw [List.getElem?_replicate, if_pos (idxP_lt hp)]; simp⟩
theorem SeenS.put {g : List Cell} {l : List (Int × Int)} {S : List Bool} (h : SeenS g l S) {p : Int × Int} (hp : InP g p) : SeenS g (l ++ [p]) (S.set (idxP g.length p) true) := by
  refine ⟨by rw [List.length_set, h.len], fun q hq => ?_⟩
  by_cases e : q = p
  · subst e
    rw [List.getElem?_set_self (by rw [h.len]; exact idxP_lt hq)]
    simp
  · rw [List.getElem?_set_ne (fun he => e (idxP_inj hp hq he).symm), h.get q hq]
    simp [e]
end Go.Core
namespace Go.Proofs.YtahjbnfbilkbcaaGreatDoor
open Go.AX Go.RowKit Go.Core
set_option maxRecDepth 20000

end Go.Proofs.YtahjbnfbilkbcaaGreatDoor

/-
  Contracts: OneKey, Equal (document), OneKey (program); CoreEquals (law).
-/
namespace Go.Core
end Go.Core
namespace Go.Proofs.YtahjbnfbilkbcaaGreatDoor
open Go.AX Go.RowKit Go.Core
set_option maxRecDepth 20000

theorem ask_bool (g : List Cell) (cs : List Int) : ∃ b : Bool, b = true ↔ AskP g cs := by
  by_cases h : AskP g cs
  · exact ⟨true, fun _ => h, fun _ => rfl⟩
  · exact ⟨false, (fun h => by cases h), fun h2 => absurd h2 h⟩
end Go.Proofs.YtahjbnfbilkbcaaGreatDoor

/-
  Contracts: Reach, Circular, Depth (program).
-/
namespace Go.Proofs.YtahjbnfbilkbcaaGreatDoor
open Go.AX Go.RowKit Go.Core
set_option maxRecDepth 20000

set_option maxHeartbeats 4000000 in
theorem Circular_c {a : Option Addr} (ca : Nat) {l : List CellP} (ha : a = none → l = []) (hs : Small l) (hok : ∀ p ∈ l, CellOk p) (u : Int) :
    ∀ H, (∀ w, Facts H w → GrF a l w) → ∃ e : Bool, (e = true ↔ AskP (l.map (·.c)) [u]) ∧ SpecH Tryz.prog 23 (pvs [.slice a l.length ca, .int .i64 u]) H (Ret (.tuple #[.bool (e && circB (l.map (·.c)) u), errI e]) H) := by
  intro H hH
  obtain ⟨e, he⟩ := ask_bool (l.map (·.c)) [u]
  refine ⟨e, he, ?_⟩
  refine factC hm Tryz.func23 (by kernel_rfl) rfl rfl ?_ H hH
  ((conv => whnf); (repeat ((first | refine BoxN.own ?_ | refine VrN.norm (wrap_i64 (by omega)) ?_ | refine VrN.keep ?_ | refine DrawN.calm (by decide +kernel) ?_ | refine Nd.mk (by decide +kernel) ?_ | refine Nd.mk (by omega) ?_ | (refine Nd.mk ?_ ?_; focus ((repeat' (first | exact trivial | exact wkE_refl _ | refine And.intro ?_ ?_)); done)) | refine RdN.intro _ rfl (by rfl) ?_); (conv => whnf))))
  refine RwN.known [.int .i64 u] rfl fun rb => ?_
  ((conv => whnf); (repeat ((first | refine BoxN.own ?_ | refine VrN.norm (wrap_i64 (by omega)) ?_ | refine VrN.keep ?_ | refine DrawN.calm (by decide +kernel) ?_ | refine Nd.mk (by decide +kernel) ?_ | refine Nd.mk (by omega) ?_ | (refine Nd.mk ?_ ?_; focus ((repeat' (first | exact trivial | exact wkE_refl _ | refine And.intro ?_ ?_)); done)) | refine RdN.intro _ rfl (by rfl) ?_); (conv => whnf))))
  -- .fact (GrF a l): the entries ahead, (fun w hw => ⟨hw.1, hw.2.1⟩): the facts
  obtain ⟨t, ht1, ht2⟩ := asked_c a ca l ha hs hok (some ⟨rb, 0, none⟩) 1 [u] (fun h => by cases h) (by simp) [.fact (GrF a l), .app 3 1 [.int .i64 u] (some ⟨rb, 0, none⟩) 1 1] (fun w hw => ⟨hw.1, hw.2.1⟩)
  obtain rfl : t = e := by rw [Bool.eq_iff_iff, ht1, he]
  refine call1 ht2 ?_
  cases t with
  | false =>
    (first | refine wX ?_ | exact wZ)
    rfl
  | true =>
    have hask := he.1 rfl
    have hin := valid_in hask.1
    (first | refine wX ?_ | exact wZ)
    refine call1 (circular_c ca ha hs hok hin u (hask.2 u (by simp)) _ (fun w hw => hw.1)) ?_
    (first | refine wX ?_ | exact wZ)
    rfl
end Go.Proofs.YtahjbnfbilkbcaaGreatDoor

/-
  Contract: CoreParts (law).
-/
namespace Go.Proofs.YtahjbnfbilkbcaaGreatDoor
open Go.AX Go.RowKit Go.Core
set_option maxRecDepth 20000

theorem fin_noC {g : List Cell} {i : Int} (h : circB g i = false) : Fin_ g i := circ_fin h
set_option maxHeartbeats 8000000 in
theorem CoreParts_c (a : Option Addr) (ca : Nat) (L : List Int) (ha : a = none → L = []) (hl : L.length ≤ 200000000000000) (z : Int) : ∀ H, (∀ w, Facts H w → SlAt a (L.length * 1) (iC L) w ∧ TabF w) → SpecH Tryz.prog 5 (pvs [.slice a L.length ca, .int .i64 z]) H (Ret (.bool true) H) := by
  refine factC hm Tryz.func5 (by kernel_rfl) rfl rfl ?_
  (first | refine wX ?_ | exact wZ)
  refine SpecF.call (Grown_c a ca L ha hl) (fun w hw => hw.1.1) fun v G hv => ?_
  obtain ⟨oa, oc, m, rfl, hoa, hok, hs, hval, hG⟩ := hv
  (first | refine wX ?_ | exact wZ)
  refine brd_eq (fun h1 => ?_) (fun h1 => ?_)
  · (first | refine wX ?_ | exact wZ)
    refine call1 (sane_c _) ?_
    (first | refine wX ?_ | exact wZ)
  have hne : m ≠ [] := fun e => h1 (by rw [e]; rfl)
  have hv := hval.resolve_left hne
  have hin := valid_in hv
  have hgl : (m.map (·.c)).length = m.length := by simp
  have h500 : m.length ≤ 500 := by have := hv.1; omega
  have hpos : 0 < m.length := List.length_pos_iff.2 hne
  (first | refine wX ?_ | exact wZ)
  have hXb := wrap_u64_bd z
  generalize IntKind.u64.wrap z = X at *
  have hwl : IntKind.u64.wrap (m.length : Int) = (m.length : Int) := wrap_u64 (by omega)
  have hk0 : IntKind.i64.wrap (X.tmod (IntKind.u64.wrap (m.length : Int))) = ((X.toNat % m.length : Nat) : Int) := by
    have h2 := Int.emod_lt_of_pos X (show (0 : Int) < m.length by omega)
    have h3 := Int.emod_nonneg X (show (m.length : Int) ≠ 0 by omega)
    rw [hwl, Int.tmod_eq_emod_of_nonneg hXb.1, wrap_i64 (by omega), Int.natCast_emod, Int.toNat_of_nonneg hXb.1]
  have hklt : X.toNat % m.length < m.length := Nat.mod_lt _ hpos
  refine Nd.mk ?_ ?_
  · rw [hwl]; omega
  (first | refine wX ?_ | exact wZ)
  rw [hk0]
  generalize X.toNat % m.length = k at *
  clear hk0 hXb
  obtain ⟨p, hp⟩ : ∃ p, m[k]? = some p := ⟨_, List.getElem?_eq_getElem hklt⟩
  have hpm := List.mem_of_getElem? hp
  have hpo := hok p hpm
  have hps := hs.2 p hpm
  have hat : at_ (m.map (·.c)) (k : Int) = p.c := at_map hp
  have hki : InI (m.map (·.c)) (k : Int) := ⟨by omega, by rw [hgl]; omega⟩
  have hask : ∀ x, InI (m.map (·.c)) x → AskP (m.map (·.c)) [x] := fun x hx => ⟨hv, fun y hy => by rw [List.mem_singleton.1 hy]; exact hx⟩
  obtain ⟨e1, he1, hes1⟩ := Circular_c oc hoa hs hok (k : Int) [.fact (fun w => SlAt a (L.length * 1) (iC L) w ∧ TabF w), .fact G] (fun w hw => hG w hw.2.1)
  obtain rfl : e1 = true := he1.2 (hask _ hki)
  (first | refine wX ?_ | exact wZ)
  refine call1 hes1 ?_
  obtain ⟨e2, he2, hes2⟩ := Text_c (E := TabF) oc hoa hs hok (envL hoa hs hok) (k : Int) [.fact (fun w => SlAt a (L.length * 1) (iC L) w ∧ TabF w), .fact G] (fun w hw => ⟨hG w hw.2.1, hw.1.2⟩)
  obtain rfl : e2 = true := he2.2 (hask _ hki)
  (first | refine wX ?_ | exact wZ)
  refine call1 hes2 ?_
  rw [if_pos rfl]
  obtain ⟨T, hT⟩ : ∃ T, T = textP (leafS qL itL) (m.map (·.c)) (k : Int) := ⟨_, rfl⟩
  rw [← hT]
  cases hcb : circB (m.map (·.c)) (k : Int) with
  | true =>
    (first | refine wX ?_ | exact wZ)
    refine call1 (sane_c _) ?_
    (first | refine wX ?_ | exact wZ)
  | false =>
  (first | refine wX ?_ | exact wZ)
  have hsa : oa.isSome = true := by
    cases oa with
    | none => exact absurd (hoa rfl) hne
    | some b => rfl
  refine Nd.mk ⟨hsa, by omega, by omega⟩ ?_
  (first | refine wX ?_ | exact wZ)
  refine LdN.fld (.int .i64 p.c.kind) rfl (fun w hw => (hG w hw.2.1).1) (by rw [Int.toNat_natCast]; exact grC_get m k 0 (by decide) hp) ?_
  (first | refine wX ?_ | exact wZ)
  refine brd_ne (fun h6 => ?_) (fun h6 => ?_)
  · (first | refine wX ?_ | exact wZ)
    refine call1 (sane_c _) ?_
    (first | refine wX ?_ | exact wZ)
  (first | refine wX ?_ | exact wZ)
  rw [bs_size]
  refine brd_dec (fun h7 => ?_) (fun h7 => ?_)
  · (first | refine wX ?_ | exact wZ)
    refine call1 (sane_c _) ?_
    (first | refine wX ?_ | exact wZ)
  have hTl : T.length < 20000 := by omega
  have hparts := parts_text (lf := leafS qL itL) hin hki (fin_noC hcb) (by rw [hat]; exact h6) (by rw [← hT]; exact hTl)
  rw [← hT, hat] at hparts
  clear hT
  obtain ⟨F, hF⟩ : ∃ F, F = textP (leafS qL itL) (m.map (·.c)) := ⟨_, rfl⟩
  rw [← hF] at hparts
  have hFl : ∀ x, (F x).length ≤ 20000 := fun x => by rw [hF]; exact text_len _ _ _
  have hpl : ∀ i, (preT p.c i).length ≤ 2 := fun i => by rw [preT_6 h6]; split <;> simp
  have hcl : ∀ j, (catT F (preT p.c) 0 (p.c.items.take j)).length ≤ 40004000 := fun j => by
    have h := catT_bd hFl hpl (p.c.items.take j) 0
    have h2 : (p.c.items.take j).length ≤ 2000 := by rw [List.length_take]; omega
    have h3 := Nat.mul_le_mul_right (20000 + 2) h2
    omega
  (first | refine wX ?_ | exact wZ)
  refine loopS Nat (fun j => j ≤ p.c.items.length) (fun j => mkS Tryz.f5.ntmps 0 [(5, .c (.v (.slice oa m.length oc))), (6, .c (.v (.int .i64 (k : Int)))), (9, .c (.v (.string (bs T)))), (11, .c (.v (.string (bs ([91] ++ catT F (preT p.c) 0 (p.c.items.take j)))))), (12, .c (.v (.int .i64 (j : Int))))]) (fun j => p.c.items.length - j) rfl (fun _ => rfl) 0 (Nat.zero_le _) ?_ ?_
  · (repeat' (first | exact trivial | refine And.intro (by with_reducible rfl) ?_ | (with_reducible exact wkC_refl _) | (with_reducible exact wkCs_refl _) | refine And.intro ?_ ?_))
    all_goals rfl
  intro j hj
  have hcj := hcl j
  (first | refine wX ?_ | exact wZ)
  refine Nd.mk ⟨hsa, by omega, by omega⟩ ?_
  (first | refine wX ?_ | exact wZ)
  refine LdN.fld (.slice p.ia p.c.items.length p.ic) rfl (fun w hw => (hG w hw.2.1).1) (by rw [Int.toNat_natCast]; exact grC_get m k 4 (by decide) hp) ?_
  (first | refine wX ?_ | exact wZ)
  refine brd_dec (fun h8 => ?_) (fun h8 => ?_)
  · obtain ⟨y, hy⟩ : ∃ z, p.c.items[j]? = some z := ⟨_, List.getElem?_eq_getElem (by omega)⟩
    have hya : p.ia.isSome = true := by
      cases hq : p.ia with
      | none => rw [hpo.ia hq] at hy; cases hy
      | some b => rfl
    have hyi : InI (m.map (·.c)) y := hin p.c (List.mem_map.2 ⟨p, hpm, rfl⟩) y (List.mem_of_getElem? hy)
    obtain ⟨e3, he3, hes3⟩ := Text_c (E := TabF) oc hoa hs hok (envL hoa hs hok) y [.fact (fun w => SlAt a (L.length * 1) (iC L) w ∧ TabF w), .fact G] (fun w hw => ⟨hG w hw.2.1, hw.1.2⟩)
    obtain rfl : e3 = true := he3.2 (hask _ hyi)
    rw [if_pos rfl, ← hF] at hes3
    have hFy := hFl y
    have hct := catT_take (F := F) (pre := preT p.c) p.c.items 0 j y hy
    rw [Nat.zero_add, preT_6 h6] at hct
    (first | refine wX ?_ | exact wZ)
    refine Nd.mk ⟨hsa, by omega, by omega⟩ ?_
    (first | refine wX ?_ | exact wZ)
    refine LdN.fld (.slice p.ia p.c.items.length p.ic) rfl (fun w hw => (hG w hw.2.1).1) (by rw [Int.toNat_natCast]; exact grC_get m k 4 (by decide) hp) ?_
    (first | refine wX ?_ | exact wZ)
    refine Nd.mk ⟨hya, by omega, by omega⟩ ?_
    (first | refine wX ?_ | exact wZ)
    refine LdN.one (.int .i64 y) rfl (fun w hw => ((hG w hw.2.1).2 p hpm).2) (by rw [Int.toNat_natCast]; show (iC p.c.items)[j * 1]? = _; rw [Nat.mul_one]; exact iC_get hy) ?_
    (first | refine wX ?_ | exact wZ)
    refine call1 hes3 ?_
    (first | refine wX ?_ | exact wZ)
    refine brd_dec (fun h9 => ?_) (fun h9 => ?_)
    · rw [if_pos (by omega)] at hct
      (first | refine wX ?_ | exact wZ)
      refine Nd.mk (by show (bs _).size + 2 < _; rw [bs_size]; simp; omega) ?_
      rw [show (bs ([91] ++ catT F (preT p.c) 0 (p.c.items.take j)) ++ ({ data := #[44, 32] } : ByteArray)) = bs ([91] ++ catT F (preT p.c) 0 (p.c.items.take j) ++ [44, 32]) by rw [← bs_app]; rfl]
      (first | refine wX ?_ | exact wZ)
      refine Nd.mk (by show (bs _).size + (bs _).size < _; rw [bs_size, bs_size]; simp; omega) ?_
      rw [bs_app, show [91] ++ catT F (preT p.c) 0 (p.c.items.take j) ++ [44, 32] ++ F y = [91] ++ catT F (preT p.c) 0 (p.c.items.take (j + 1)) by rw [hct]; simp only [List.append_assoc]]
      (first | refine wX ?_ | exact wZ)
      refine ⟨j + 1, by omega, by omega, ?_, by (repeat' (first | exact trivial | exact wkE_refl _ | refine And.intro ?_ ?_))⟩
      (repeat' (first | exact trivial | refine And.intro (by with_reducible rfl) ?_ | (with_reducible exact wkC_refl _) | (with_reducible exact wkCs_refl _) | refine And.intro ?_ ?_))
      all_goals first | rfl | exact av_int (by rw [wrap_i64 (by omega)]; omega)
    · rw [if_neg (by omega), List.append_nil] at hct
      (first | refine wX ?_ | exact wZ)
      refine Nd.mk (by show (bs _).size + (bs _).size < _; rw [bs_size, bs_size]; simp; omega) ?_
      rw [bs_app, show [91] ++ catT F (preT p.c) 0 (p.c.items.take j) ++ F y = [91] ++ catT F (preT p.c) 0 (p.c.items.take (j + 1)) by rw [hct]; simp only [List.append_assoc]]
      (first | refine wX ?_ | exact wZ)
      refine ⟨j + 1, by omega, by omega, ?_, by (repeat' (first | exact trivial | exact wkE_refl _ | refine And.intro ?_ ?_))⟩
      (repeat' (first | exact trivial | refine And.intro (by with_reducible rfl) ?_ | (with_reducible exact wkC_refl _) | (with_reducible exact wkCs_refl _) | refine And.intro ?_ ?_))
      all_goals first | rfl | exact av_int (by rw [wrap_i64 (by omega)]; omega)
  · have hjl : j = p.c.items.length := by omega
    subst hjl
    rw [List.take_length] at *
    (first | refine wX ?_ | exact wZ)
    refine Nd.mk (by show (bs _).size + 1 < _; rw [bs_size]; simp; omega) ?_
    rw [show (bs ([91] ++ catT F (preT p.c) 0 p.c.items) ++ ({ data := #[93] } : ByteArray)) = bs T by rw [hparts, ← bs_app _ [93]]; rfl]
    (first | refine wX ?_ | exact wZ)
    rw [beq_self_eq_true]
    (first | refine wX ?_ | exact wZ)
    refine call1 (sane_c _) ?_
    (first | refine wX ?_ | exact wZ)
end Go.Proofs.YtahjbnfbilkbcaaGreatDoor

/-
  CorePartsCardSaid is proved: of every list of numbers and index CoreParts returns true and leaves its arguments as they were; the listed tables are tied to the program's text.
-/
namespace Go.Proofs.YtahjbnfbilkbcaaGreatDoor
open Go.ChangeShapes Go.WideShapes Go.ChangeAt Go.RowKit Go.AX Go.Core
set_option maxRecDepth 100000

namespace CoreParts
theorem own : ownKnob Tryz.prog.godebug = none := own0
theorem walk {H : Type} {enc : TypeId × Value → H} (W : World) (base : Nat) (args : Array Value) (ds : List (DataW H)) (p : List MemPlace) (k : Known enc Tryz.prog Tryz.f5 W base args ds p) (_hL : laidMetH Tryz.prog laid3 W) : Walk Tryz.prog 5 args W := by
  obtain ⟨u, v, rfl⟩ := arr2 (trodAll_len k.trod).2
  obtain ⟨n, rfl⟩ := okWide_int Tryz.underlying3 (k.val 1 _ v rfl rfl)
  obtain ⟨a, l, cap, rfl, ⟨_hq, ha, hs⟩, _, hr⟩ := k.low.ints (e := 3) (i := .i64) 0 rfl rfl (by kernel_rfl) (by kernel_rfl) (by kernel_rfl) (by decide +kernel)
  have hia : a = none → l = [] := fun e => by
    rcases ha with h | h
    · rw [e] at h; cases h
    · exact List.eq_nil_of_length_eq_zero h
  exact walkH [.fact fun w => SlAt a (l.length * 1) (iC l) w ∧ TabF w] (fun _ he => ⟨_, List.mem_singleton.1 he, by rw [Nat.mul_one]; exact hs.and (tab_imm (tabL_of _hL))⟩) (CoreParts_c a cap l hia _hq n _ fun w hw => hw.1)

theorem lifted (os : Os) (started : os.Started) (H : Type) (enc : TypeId × Value → H) :
    ReturnsInHanded {} Tryz.checked os 5 .any (fun w args => (Rows.corePartsSpec.pre enc Tryz.prog Tryz.f5 [] false w args ∧ laidMetH Tryz.prog laid3 w) ∧ sizedMet enc Tryz.prog Tryz.f5 (OpenSpec.ofChange Rows.corePartsSpec) false w args) (Rows.corePartsSpec.post enc Tryz.prog Tryz.f5 false true false false) := by
  refine liftS (C := Tryz.checked) own started (by kernel_rfl) Tryz.func5
    (ChangeSpec.witness_shaped (enc := enc) (C := Tryz.checked) (os := os) (X := fun w _ => laidMetH Tryz.prog laid3 w) false (World.laidAll Tryz.prog os laid3) #[.slice none 0 0, .int .i64 0] 8 (World.laidAll_os _ _ _) (World.shaped_of_ZipB (by kernel_rfl) (by kernel_rfl)) (by kernel_rfl) (by kernel_rfl) (by kernel_rfl) (door_met os _))
    laidOut rfl (t := _) rfl (by kernel_rfl) (by kernel_rfl) ?_ walk
  intro ds hd
  match ds, hd with
  | [d0, d1], _ => rfl

theorem over : Rows.corePartsRow.holds Tryz.pinned (OpenSpec.ofChange Rows.corePartsSpec) :=
  OpenClaim.holds_of_wide 5 Tryz.f5 rfl rfl rfl rfl rfl rfl rfl ⟨rfl, rfl, rfl, rfl, rfl⟩ rfl rfl rfl rfl rfl (by kernel_rfl) Tryz.func5 (by kernel_rfl)
    (of_decide_eq_true (by kernel_rfl)) (by unfold Func.isWrapper; first | (rw [if_pos (by decide +kernel)]; kernel_rfl) | (rw [if_neg (by decide +kernel)]; exact ⟨rfl, rfl⟩))
    (fun os started H enc _ => lifted os started H enc)

theorem proved : Rows.CorePartsCardSaid :=
  Claim7.holds_tied_plain_at .later [] [.data, .data, .data] true (true, "8c46145c91ca01cbbdc693332ca60911ae9d66bc5eabc04f89f5f042d1271d1b") true
    over (fun _ h => by cases h) (by kernel_rfl) (fun _ h => by cases h) coreParts_row_tie rfl ⟨rfl, rfl⟩ (by kernel_rfl) rfl
    (fun f fn hf hfn => by
      obtain rfl : f = 5 := Option.some.inj ((show Tryz.prog.funcNamed "cabochon/cabochonlaw21.CoreParts" = some 5 by kernel_rfl).symm.trans hf) |>.symm
      obtain rfl : fn = Tryz.f5 := (Option.some.inj (Tryz.func5.symm.trans hfn)).symm
      exact ⟨by kernel_rfl, fun j t ht => by
        have hm : t ∈ Tryz.f5.params.toList := by simpa using Array.mem_of_getElem? ht
        have hall : (Tryz.f5.params.toList.all fun u => !Tryz.prog.wantsStandIn u) = true := by kernel_rfl
        exact (show Tryz.prog.wantsStandIn t = false by simpa using List.all_eq_true.1 hall t hm)⟩)
    (by kernel_rfl)
#print axioms proved
end CoreParts
end Go.Proofs.YtahjbnfbilkbcaaGreatDoor
