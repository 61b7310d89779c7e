/-
  MarshalBackCardSaid is proved: of every numbers MarshalBack returns true; the listed tables are tied to the program's text.
-/
import Derived.Lib.SlBytesConst
import Derived.Test.YtgogonnnojcioaaGreatDoorCards
import Derived.Test.YtgogonnnojcioaaGreatDoorTie
import Derived.Test.YtgogonnnojcioaaGreatDoorMba9
set_option linter.unusedVariables false
set_option linter.unusedSimpArgs false
namespace Go.Proofs.YtgogonnnojcioaaGreatDoor
open Go.AX Go.RowKit Go.Core Go.Marshal
set_option maxRecDepth 20000
abbrev nilP : CellP := ⟨nilC, none, 0, none, 0⟩
theorem grC_put : ∀ {m : List CellP} {j : Nat} (q : CellP), j < m.length → (grC m).take (j * 5) ++ cellC q ++ (grC m).drop (j * 5 + 5) = grC (m.set j q)
 | p :: m, 0, q, _ => by simp [grC, cellC]
 | p :: m, j + 1, q, h => by
  have ih := grC_put (m := m) (j := j) q (by simpa using h)
  have e : grC (p :: m) = cellC p ++ grC m := by simp [grC]
  have l5 : (cellC p).length = 5 := rfl
  rw [List.set_cons_succ, show grC (p :: m.set j q) = cellC p ++ grC (m.set j q) by simp [grC], ← ih, e, show (j + 1) * 5 = (cellC p).length + j * 5 by rw [l5]; omega, List.take_length_add_append, show (cellC p).length + j * 5 + 5 = (cellC p).length + (j * 5 + 5) by omega, List.drop_length_add_append]
  simp
theorem seal_rd {H : List Ent} {rb : Nat} {st : PS} {p : RdP} (hl : 5 ≤ H.length) (h0 : H[0]? = some (.app 84 5 (rdC st p) (some ⟨rb, 0, none⟩) 1 1)) (h1 : H[1]? = some (.app 57 5 (grC p.m) p.ga p.m.length p.gc)) (h3 : H[3]? = some (.app 3 1 (iC st.cells) p.ca st.cells.length p.cc)) (h4 : H[4]? = some (.app 9 1 (strC st.ss) p.sa st.ss.length p.sc)) (hΓ : ∀ w, Facts (restL H (rdE rb st p)) w → ∀ q ∈ p.m, CellF q w) : SealOk H (rdE rb st p) := by
 refine ⟨hl, fun i e he => ?_⟩
 rcases i with _ | _ | _ | _ | _ | i
 ·obtain rfl := Option.some.inj he
  exact .inr (.inl ⟨_, _, _, _, _, _, rfl, h0⟩)
 ·obtain rfl := Option.some.inj he
  exact .inr (.inl ⟨_, _, _, _, _, _, rfl, h1⟩)
 ·exact .inr (.inr ⟨_, (Option.some.inj he).symm, hΓ⟩)
 ·obtain rfl := Option.some.inj he
  exact .inr (.inl ⟨_, _, _, _, _, _, rfl, h3⟩)
 ·obtain rfl := Option.some.inj he
  exact .inr (.inl ⟨_, _, _, _, _, _, rfl, h4⟩)
 ·cases he
theorem cell_dead_c (n : Nat) (rb : Nat) (st : PS) (p : RdP) (ok : RdOk st p) (he : st.e ≠ 0) : SpecH Tryz.prog 64 [.c (.v (.pointer (some ⟨rb, 0, none⟩)))] (rdE rb st p) (RetG (ι := RdP) (fun p' => RdOk (cellM n st).2 p') (fun _ => .int .i64 (cellM n st).1) fun p' => rdE rb (cellM n st).2 p') := by
 have hcm : cellM n st = (0, st) := by
  cases n with
  | zero => show (0, failM st 99) = _; rw [fail_dead he]
  | succ n => exact cell_dead n he
 rw [hcm]
 refine ownC hm Tryz.func64 (by kernel_rfl) rfl rfl (fun _ _ => rdE_ok _ _ _) (fun _ _ => Nat.le_refl _) ?_
 have hne := next_m rb st p
 rw [next_dead he] at hne
 refine wX ?_
 refine callG (hne) [0, 1, 2, 3, 4] rfl ⟨rfl, rfl, rfl, rfl, rfl, trivial⟩ rfl fun _ _ => ?_
 refine wX ?_
 refine LdN.one (a := some ⟨rb, 0, none⟩) (q := 4) (.int .i64 st.e) rfl (fun w hw => hw.1) rfl ?_
 refine wX ?_
 refine brd_ne (fun _ => ?_) (fun h => absurd h he)
 refine wX ?_
 exact ⟨p, ok, rfl, wkH_refl _⟩
theorem cell_step (n : Nat) (hc : CellC n) : CellC (n + 1) := by
  intro rb st p ok bd hn
  by_cases he : st.e ≠ 0
  · exact cell_dead_c (n + 1) rb st p ok he
  have hn : st.s.length < n + 1 := hn.resolve_right he
  have hcm : cellM (n + 1) st = (if (nextM st).2.e ≠ 0 then (0, (nextM st).2) else if (nextM st).1 = 64 then refM (nextM st).2 else if 500 ≤ (nextM st).2.g.length ∨ (nextM st).1 ∉ begins then (0, failM (nextM st).2 4) else (((nextM st).2.g.length : Int), { (innerM (cellM n) (nextM st).1 (openM (nextM st).1 (nextM st).2)).2 with g := (innerM (cellM n) (nextM st).1 (openM (nextM st).1 (nextM st).2)).2.g.set (nextM st).2.g.length (innerM (cellM n) (nextM st).1 (openM (nextM st).1 (nextM st).2)).1 })) := rfl
  generalize cellM (n + 1) st = R at hcm ⊢
  refine SpecH.sealP ?_
  refine spec_of_exec hm Tryz.func64 (by kernel_rfl) rfl rfl ?_
  have hne := next_m rb st p
  have b1 := bd.le (next_le st)
  have ok1 := ok.same (next_keep st)
  have hlt := next_lt (st := st)
  generalize nextM st = q at hne hcm b1 ok1 hlt ⊢
  obtain ⟨x, s1⟩ := q
  simp only at hne hcm b1 ok1 hlt
  refine wX ?_
  refine callG (hne) [0, 1, 2, 3, 4] rfl ⟨rfl, rfl, rfl, rfl, rfl, trivial⟩ rfl fun _ _ => ?_
  refine wX ?_
  refine LdN.one (a := some ⟨rb, 0, none⟩) (q := 4) (.int .i64 s1.e) rfl (fun w hw => hw.1) rfl ?_
  refine wX ?_
  refine brd_ne (fun h1 => ?_) (fun h1 => ?_)
  · rw [if_pos h1] at hcm
    subst hcm
    refine wX ?_
    refine ⟨rdE rb (s1) (p), Nat.le_of_ble_eq_true rfl, seal_rd (Nat.le_of_ble_eq_true rfl) rfl rfl rfl rfl (fun w hw => hw.1), ⟨_, rfl⟩, ⟨p, ok1, rfl, rfl⟩⟩
  rw [if_neg (fun h => h h1)] at hcm
  obtain ⟨hl1, _⟩ := hlt (.inl h1)
  have hn1 : s1.s.length < n ∨ s1.e ≠ 0 := .inl (by omega)
  refine wX ?_
  refine brd_eq (fun h64 => ?_) (fun h64 => ?_)
  · obtain rfl : x = 64 := UInt8.toNat_inj.1 (by have : x.toNat = 64 := by omega
                                                 rw [this]; rfl)
    rw [if_pos rfl] at hcm
    have hnum := number_m rb s1 p maxN (by decide)
    have ok2 := ok1.same (num_keep maxN s1)
    have hmo := num_most maxN s1
    unfold refM at hcm
    simp only at hcm
    generalize numM maxN s1 = q at hnum ok2 hmo hcm ⊢
    obtain ⟨k, s2⟩ := q
    simp only at hnum ok2 hmo hcm
    have hmo : k ≤ 1000000000000000 := hmo
    refine wX ?_
    refine callG (hnum) [0, 1, 2, 3, 4] rfl ⟨rfl, rfl, rfl, rfl, rfl, trivial⟩ rfl fun _ _ => ?_
    refine wX ?_
    refine LdN.one (a := some ⟨rb, 0, none⟩) (q := 4) (.int .i64 s2.e) rfl (fun w hw => hw.1) rfl ?_
    refine wX ?_
    by_cases he2 : s2.e = 0
    · rw [show (s2.e == 0) = true by rw [he2]; rfl]
      rw [if_neg (fun h => h he2)] at hcm
      refine wX ?_
      refine LdN.one (a := some ⟨rb, 0, none⟩) (q := 2) (.slice p.ca s2.cells.length p.cc) rfl (fun w hw => hw.1) rfl ?_
      refine wX ?_
      refine brd_dec (fun hk => ?_) (fun hk => ?_)
      · rw [if_pos (by omega)] at hcm
        subst hcm
        refine wX ?_
        refine callG (fail_m rb s2 p 4) [0, 1, 2, 3, 4] rfl ⟨rfl, rfl, rfl, rfl, rfl, trivial⟩ rfl fun _ _ => ?_
        have he4 : (failM s2 4).e = 4 := fail_e he2 4
        refine wX ?_
        refine LdN.one (a := some ⟨rb, 0, none⟩) (q := 4) (.int .i64 (failM s2 4).e) rfl (fun w hw => hw.1) rfl ?_
        rw [he4]
        refine wX ?_
        refine ⟨rdE rb (failM s2 4) (p), Nat.le_of_ble_eq_true rfl, seal_rd (Nat.le_of_ble_eq_true rfl) rfl rfl rfl rfl (fun w hw => hw.1), ⟨_, rfl⟩, ⟨p, ok2.same (fail_ss s2 4), rfl, rfl⟩⟩
      · have hkl : k < s2.cells.length := by omega
        rw [if_neg (by omega)] at hcm
        subst hcm
        have hsa : p.ca.isSome = true := by
          cases h : p.ca with
          | none =>
            rw [ok2.ca h] at hkl
            exact absurd hkl (Nat.not_lt_zero _)
          | some b => rfl
        have hget : s2.cells[k]? = some (s2.cells.getD k 0) := by rw [List.getD_eq_getElem?_getD, List.getElem?_eq_getElem hkl]; rfl
        refine wX ?_
        refine LdN.one (a := some ⟨rb, 0, none⟩) (q := 4) (.int .i64 s2.e) rfl (fun w hw => hw.1) rfl ?_
        rw [he2]
        refine wX ?_
        refine LdN.one (a := some ⟨rb, 0, none⟩) (q := 2) (.slice p.ca s2.cells.length p.cc) rfl (fun w hw => hw.1) rfl ?_
        refine wX ?_
        refine Nd.mk ⟨hsa, by omega, by omega⟩ ?_
        refine wX ?_
        refine LdN.one (.int .i64 (s2.cells.getD k 0)) rfl (fun w hw => hw.2.2.2.1) (by show (iC s2.cells)[Int.toNat _ * 1]? = _; rw [Int.toNat_natCast, Nat.mul_one]; exact iC_get hget) ?_
        refine wX ?_
        refine ⟨rdE rb (s2) (p), Nat.le_of_ble_eq_true rfl, seal_rd (Nat.le_of_ble_eq_true rfl) rfl rfl rfl rfl (fun w hw => hw.1), ⟨_, rfl⟩, ⟨p, ok2, rfl, rfl⟩⟩
    · rw [show (s2.e == 0) = false by simpa using he2]
      rw [if_pos he2] at hcm
      subst hcm
      refine wX ?_
      refine LdN.one (a := some ⟨rb, 0, none⟩) (q := 4) (.int .i64 s2.e) rfl (fun w hw => hw.1) rfl ?_
      refine wX ?_
      refine brd_ne (fun _ => ?_) (fun h => absurd h he2)
      refine wX ?_
      refine ⟨rdE rb (s2) (p), Nat.le_of_ble_eq_true rfl, seal_rd (Nat.le_of_ble_eq_true rfl) rfl rfl rfl rfl (fun w hw => hw.1), ⟨_, rfl⟩, ⟨p, ok2, rfl, rfl⟩⟩
  have hx64 : x ≠ 64 := fun h => h64 (by rw [h]; rfl)
  rw [if_neg hx64] at hcm
  have hml : p.m.length = s1.g.length := by rw [← ok1.g, List.length_map]
  refine wX ?_
  refine LdN.one (a := some ⟨rb, 0, none⟩) (q := 1) (.slice p.ga p.m.length p.gc) rfl (fun w hw => hw.1) rfl ?_
  have hfail : (500 ≤ s1.g.length ∨ x ∉ begins) → R = (0, failM s1 4) := fun h => by rw [hcm, if_pos h]
  have hxl := x.toNat_lt
  have hw32 : IntKind.i32.wrap (x.toNat : Int) = (x.toNat : Int) := by simp [IntKind.wrap, IntKind.bits, IntKind.signed]; omega
  have hb10 : ∀ c ∈ [(48 : UInt8), 84, 70, 105, 34, 58, 59, 91, 123, 111], c.toNat < 128 := by decide
  have hb4 : ∀ c ∈ [(34 : UInt8), 91, 123, 111], c.toNat < 128 := by decide
  refine wX ?_
  by_cases h5 : 500 ≤ s1.g.length
  · rw [show decide ((p.m.length : Int) ≥ 500) = true by simp; omega]
    have hcm := hfail (.inl h5)
    subst hcm
    refine wX ?_
    refine callG (fail_m rb s1 p 4) [0, 1, 2, 3, 4] rfl ⟨rfl, rfl, rfl, rfl, rfl, trivial⟩ rfl fun _ _ => ?_
    refine wX ?_
    refine ⟨rdE rb (failM s1 4) (p), Nat.le_of_ble_eq_true rfl, seal_rd (Nat.le_of_ble_eq_true rfl) rfl rfl rfl rfl (fun w hw => hw.1), ⟨_, rfl⟩, ⟨p, ok1.same (fail_ss s1 4), rfl, rfl⟩⟩
  rw [show decide ((p.m.length : Int) ≥ 500) = false by simp; omega]
  refine wX ?_
  rw [hw32]
  refine call1 (ContainsRune_m 48 84 [70, 105, 34, 58, 59, 91, 123, 111] hb10 (by decide) x _) ?_
  by_cases hx : x ∈ begins
  · rw [show decide (x ∈ [(48 : UInt8), 84, 70, 105, 34, 58, 59, 91, 123, 111]) = true from decide_eq_true hx]
    rw [if_neg (fun h => h.elim h5 (fun h => h hx))] at hcm
    have hfe : (fun w => ∀ q ∈ p.m, CellF q w) = (fun w => ∀ q ∈ p.m ++ [nilP], CellF q w) := by
      funext w
      refine propext ⟨fun h q hq => ?_, fun h q hq => h q (List.mem_append_left _ hq)⟩
      rcases List.mem_append.1 hq with hq | hq
      · exact h q hq
      · obtain rfl := List.mem_singleton.1 hq
        exact ⟨slAt_nil w, slAt_nil w⟩
    have hgl := b1.g
    have hcl := b1.cl
    have hle := inner_le (cell_takes n) x (openM x s1)
    have hol : (openM x s1).g.length = s1.g.length + 1 := by unfold openM; simp
    have hogl := hle.g
    rw [hol] at hogl
    have b2 : Bd (openM x s1) := ⟨by rw [hol]; omega, by
      rw [hol]
      show (if x ∈ named then s1.cells ++ [(s1.g.length : Int)] else s1.cells).length ≤ _
      split
      · simp; omega
      · omega, b1.pot⟩
    have hn2 : (openM x s1).s.length < n ∨ (openM x s1).e ≠ 0 := hn1
    have hml2 : p.m.length + 1 = (p.m ++ [nilP]).length := by simp
    refine wX ?_
    refine LdN.one (a := some ⟨rb, 0, none⟩) (q := 1) (.slice p.ga p.m.length p.gc) rfl (fun w hw => hw.1) rfl ?_
    refine wX ?_
    refine AppN.grow 1 (grC p.m) (cellC nilP) rfl rfl ⟨Nat.le_refl 1, ⟨by show (p.m.length + 1) * 80 ≤ _; omega, by omega⟩, by decide⟩ fun gb gc' g1 g2 => ?_
    refine wX ?_
    rw [← grC_snoc, hml2, hfe]
    refine EffW.appTo (i := 0) (q := 1) (ys := [_]) (rdC { s1 with g := s1.g ++ [nilC] } { p with m := p.m ++ [nilP], ga := some ⟨gb, 0, none⟩, gc := gc' }) 5 rfl rfl rfl rfl rfl rfl rfl (Nat.le_of_ble_eq_true rfl) rfl rfl ?_
    refine wX ?_
    rw [hw32]
    refine call1 (ContainsRune_m 34 91 [123, 111] hb4 (by decide) x _) ?_
    by_cases hnm : x ∈ named
    · rw [show decide (x ∈ [(34 : UInt8), 91, 123, 111]) = true from decide_eq_true hnm]
      have ho : openM x s1 = { s1 with g := s1.g ++ [nilC], cells := s1.cells ++ [(s1.g.length : Int)] } := by unfold openM; rw [if_pos hnm]
      refine wX ?_
      refine LdN.one (a := some ⟨rb, 0, none⟩) (q := 2) (.slice p.ca s1.cells.length p.cc) rfl (fun w hw => hw.1) rfl ?_
      refine wX ?_
      refine Nd.mk ⟨Nat.le_refl 1, rfl, rfl⟩ ?_
      (conv => whnf)
      refine AppN.grow 3 (iC s1.cells) [.int .i64 (p.m.length : Int)] rfl rfl ⟨Nat.le_refl 1, ⟨by show (s1.cells.length + 1) * 8 ≤ _; omega, by omega⟩, by decide⟩ fun cb cc' g3 g4 => ?_
      refine wX ?_
      have e1 : iC s1.cells ++ [.int .i64 (p.m.length : Int)] = iC (s1.cells ++ [(s1.g.length : Int)]) := by rw [hml]; simp [iC]
      have e2 : s1.cells.length + 1 = (s1.cells ++ [(s1.g.length : Int)]).length := by simp
      rw [e1, e2]
      refine EffW.appTo (i := 0) (q := 2) (ys := [_]) (rdC { s1 with g := s1.g ++ [nilC], cells := s1.cells ++ [(s1.g.length : Int)] } { p with m := p.m ++ [nilP], ga := some ⟨gb, 0, none⟩, gc := gc', ca := some ⟨cb, 0, none⟩, cc := cc' }) 5 rfl rfl rfl rfl rfl rfl rfl (Nat.le_of_ble_eq_true rfl) rfl rfl ?_
      have ok2 : RdOk { s1 with g := s1.g ++ [nilC], cells := s1.cells ++ [(s1.g.length : Int)] } { p with m := p.m ++ [nilP], ga := some ⟨gb, 0, none⟩, gc := gc', ca := some ⟨cb, 0, none⟩, cc := cc' } :=
        ⟨by show (p.m ++ [nilP]).map (·.c) = s1.g ++ [nilC]; rw [List.map_append, ok1.g]; rfl, fun y hy => (List.mem_append.1 hy).elim (ok1.cell y) (fun h => by obtain rfl := List.mem_singleton.1 h; exact ok_leaf rfl rfl (Nat.zero_le _)), (fun h => by cases h), (fun h => by cases h), ok1.sa, ok1.sw, .inr ⟨gb, rfl⟩⟩
      rw [ho] at hcm hle hogl b2 hn2
      have hin := inner_rd n hc rb ({ s1 with g := s1.g ++ [nilC], cells := s1.cells ++ [(s1.g.length : Int)] }) ({ p with m := p.m ++ [nilP], ga := some ⟨gb, 0, none⟩, gc := gc', ca := some ⟨cb, 0, none⟩, cc := cc' }) ok2 b2 hn2 x hx
      generalize innerM (cellM n) x ({ s1 with g := s1.g ++ [nilC], cells := s1.cells ++ [(s1.g.length : Int)] }) = r at hcm hle hogl hin ⊢
      obtain ⟨c, s3⟩ := r
      simp only at hcm hle hogl hin
      refine wX ?_
      refine callG hin [0, 1, 2, 3, 4] rfl ⟨rfl, rfl, rfl, rfl, rfl, trivial⟩ rfl fun q hq => ?_
      obtain ⟨⟨qm, qga, qgc, qca, qcc, qsa, qsc⟩, na, nc, ia, ic⟩ := q
      obtain ⟨hq1, hq2⟩ := hq
      simp only at hq1 hq2
      have hqm : qm.length = s3.g.length := by
        have := hq1.g
        rw [← this, List.length_map]
      have hat : s1.g.length < qm.length := by rw [hqm]; omega
      obtain ⟨qb, hqb⟩ : ∃ b : Nat, qga = some ⟨b, 0, none⟩ := hq1.gx.resolve_left fun h => by
        have h9 : qm = [] := hq1.ga h
        rw [h9] at hat
        exact absurd hat (Nat.not_lt_zero _)
      subst hqb
      subst hcm
      rw [hml]
      refine wX ?_
      refine DrawN.planQ [0, 4] [1, 2, 3, 5, 6] [(7, 0)] (by decide +kernel) ?_
      refine wX ?_
      refine LdN.one (a := some ⟨rb, 0, none⟩) (q := 1) (.slice (some ⟨qb, 0, none⟩) qm.length qgc) rfl (fun w hw => hw.1) rfl ?_
      refine wX ?_
      refine Nd.mk ⟨rfl, by omega, by omega⟩ ?_
      refine wX ?_
      refine EffW.appTo (i := 1) (q := s1.g.length * 5) (ys := cellC ⟨c, na, nc, ia, ic⟩) (grC (qm.set s1.g.length ⟨c, na, nc, ia, ic⟩)) 5 rfl (ptr_lit rfl (by show (s1.g.length : Int).toNat * 5 = _; rw [Int.toNat_natCast])) rfl rfl rfl rfl rfl (by show s1.g.length * 5 + 5 ≤ qm.length * 5; omega) (grC_put _ hat) rfl ?_
      refine wX ?_
      have hrc : rdC { s3 with g := s3.g.set s1.g.length c } ⟨qm.set s1.g.length ⟨c, na, nc, ia, ic⟩, some ⟨qb, 0, none⟩, qgc, qca, qcc, qsa, qsc⟩ = rdC s3 ⟨qm, some ⟨qb, 0, none⟩, qgc, qca, qcc, qsa, qsc⟩ := by simp [rdC]
      refine ⟨rdE rb { s3 with g := s3.g.set s1.g.length c } ⟨qm.set s1.g.length ⟨c, na, nc, ia, ic⟩, some ⟨qb, 0, none⟩, qgc, qca, qcc, qsa, qsc⟩, Nat.le_of_ble_eq_true rfl, seal_rd (Nat.le_of_ble_eq_true rfl) (by rw [hrc]; rfl) (by rw [List.length_set]; rfl) rfl rfl (fun w hw y hy => ?_), ⟨_, rfl⟩, ⟨_, ?_, rfl, rfl⟩⟩
      · rcases List.mem_or_eq_of_mem_set hy with h | h
        · exact hw.1 y h
        · subst h
          exact ⟨hw.2.1, hw.2.2.1⟩
      · exact ⟨by show (qm.set _ _).map (·.c) = s3.g.set _ _; rw [List.map_set]; exact congrArg (fun l => List.set l s1.g.length c) hq1.g, fun y hy => (List.mem_or_eq_of_mem_set hy).elim (hq1.cell y) (fun h => by subst h; exact hq2), (fun h => by cases h), hq1.ca, hq1.sa, hq1.sw, .inr ⟨qb, rfl⟩⟩
    · rw [show decide (x ∈ [(34 : UInt8), 91, 123, 111]) = false from decide_eq_false hnm]
      have ho : openM x s1 = { s1 with g := s1.g ++ [nilC] } := by unfold openM; rw [if_neg hnm]
      have ok2 : RdOk { s1 with g := s1.g ++ [nilC] } { p with m := p.m ++ [nilP], ga := some ⟨gb, 0, none⟩, gc := gc' } :=
        ⟨by show (p.m ++ [nilP]).map (·.c) = s1.g ++ [nilC]; rw [List.map_append, ok1.g]; rfl, fun y hy => (List.mem_append.1 hy).elim (ok1.cell y) (fun h => by obtain rfl := List.mem_singleton.1 h; exact ok_leaf rfl rfl (Nat.zero_le _)), (fun h => by cases h), ok1.ca, ok1.sa, ok1.sw, .inr ⟨gb, rfl⟩⟩
      rw [ho] at hcm hle hogl b2 hn2
      have hin := inner_rd n hc rb ({ s1 with g := s1.g ++ [nilC] }) ({ p with m := p.m ++ [nilP], ga := some ⟨gb, 0, none⟩, gc := gc' }) ok2 b2 hn2 x hx
      generalize innerM (cellM n) x ({ s1 with g := s1.g ++ [nilC] }) = r at hcm hle hogl hin ⊢
      obtain ⟨c, s3⟩ := r
      simp only at hcm hle hogl hin
      refine wX ?_
      refine callG hin [0, 1, 2, 3, 4] rfl ⟨rfl, rfl, rfl, rfl, rfl, trivial⟩ rfl fun q hq => ?_
      obtain ⟨⟨qm, qga, qgc, qca, qcc, qsa, qsc⟩, na, nc, ia, ic⟩ := q
      obtain ⟨hq1, hq2⟩ := hq
      simp only at hq1 hq2
      have hqm : qm.length = s3.g.length := by
        have := hq1.g
        rw [← this, List.length_map]
      have hat : s1.g.length < qm.length := by rw [hqm]; omega
      obtain ⟨qb, hqb⟩ : ∃ b : Nat, qga = some ⟨b, 0, none⟩ := hq1.gx.resolve_left fun h => by
        have h9 : qm = [] := hq1.ga h
        rw [h9] at hat
        exact absurd hat (Nat.not_lt_zero _)
      subst hqb
      subst hcm
      rw [hml]
      refine wX ?_
      refine DrawN.planQ [0, 4] [1, 2, 3, 5, 6] [(7, 0)] (by decide +kernel) ?_
      refine wX ?_
      refine LdN.one (a := some ⟨rb, 0, none⟩) (q := 1) (.slice (some ⟨qb, 0, none⟩) qm.length qgc) rfl (fun w hw => hw.1) rfl ?_
      refine wX ?_
      refine Nd.mk ⟨rfl, by omega, by omega⟩ ?_
      refine wX ?_
      refine EffW.appTo (i := 1) (q := s1.g.length * 5) (ys := cellC ⟨c, na, nc, ia, ic⟩) (grC (qm.set s1.g.length ⟨c, na, nc, ia, ic⟩)) 5 rfl (ptr_lit rfl (by show (s1.g.length : Int).toNat * 5 = _; rw [Int.toNat_natCast])) rfl rfl rfl rfl rfl (by show s1.g.length * 5 + 5 ≤ qm.length * 5; omega) (grC_put _ hat) rfl ?_
      refine wX ?_
      have hrc : rdC { s3 with g := s3.g.set s1.g.length c } ⟨qm.set s1.g.length ⟨c, na, nc, ia, ic⟩, some ⟨qb, 0, none⟩, qgc, qca, qcc, qsa, qsc⟩ = rdC s3 ⟨qm, some ⟨qb, 0, none⟩, qgc, qca, qcc, qsa, qsc⟩ := by simp [rdC]
      refine ⟨rdE rb { s3 with g := s3.g.set s1.g.length c } ⟨qm.set s1.g.length ⟨c, na, nc, ia, ic⟩, some ⟨qb, 0, none⟩, qgc, qca, qcc, qsa, qsc⟩, Nat.le_of_ble_eq_true rfl, seal_rd (Nat.le_of_ble_eq_true rfl) (by rw [hrc]; rfl) (by rw [List.length_set]; rfl) rfl rfl (fun w hw y hy => ?_), ⟨_, rfl⟩, ⟨_, ?_, rfl, rfl⟩⟩
      · rcases List.mem_or_eq_of_mem_set hy with h | h
        · exact hw.1 y h
        · subst h
          exact ⟨hw.2.1, hw.2.2.1⟩
      · exact ⟨by show (qm.set _ _).map (·.c) = s3.g.set _ _; rw [List.map_set]; exact congrArg (fun l => List.set l s1.g.length c) hq1.g, fun y hy => (List.mem_or_eq_of_mem_set hy).elim (hq1.cell y) (fun h => by subst h; exact hq2), (fun h => by cases h), hq1.ca, hq1.sa, hq1.sw, .inr ⟨qb, rfl⟩⟩
  · rw [show decide (x ∈ [(48 : UInt8), 84, 70, 105, 34, 58, 59, 91, 123, 111]) = false from decide_eq_false hx]
    have hcm := hfail (.inr hx)
    subst hcm
    refine wX ?_
    refine callG (fail_m rb s1 p 4) [0, 1, 2, 3, 4] rfl ⟨rfl, rfl, rfl, rfl, rfl, trivial⟩ rfl fun _ _ => ?_
    refine wX ?_
    refine ⟨rdE rb (failM s1 4) (p), Nat.le_of_ble_eq_true rfl, seal_rd (Nat.le_of_ble_eq_true rfl) rfl rfl rfl rfl (fun w hw => hw.1), ⟨_, rfl⟩, ⟨p, ok1.same (fail_ss s1 4), rfl, rfl⟩⟩
theorem cell_rd : ∀ n : Nat, CellC n
 | 0 => fun rb st p ok bd hn => cell_dead_c 0 rb st p ok (hn.resolve_left (by omega))
 | n + 1 => cell_step n (cell_rd n)
end Go.Proofs.YtgogonnnojcioaaGreatDoor
namespace Go.Marshal
open Go.Core
end Go.Marshal
namespace Go.Proofs.YtgogonnnojcioaaGreatDoor
open Go.AX Go.RowKit Go.Core Go.Marshal
set_option maxRecDepth 20000
end Go.Proofs.YtgogonnnojcioaaGreatDoor
namespace Go.Marshal
open Go.Core
def WdC (c : Cell) : Prop := c.names.length ≤ 30001 ∧ c.items.length ≤ 30001
def Wd (st : PS) : Prop := ∀ c ∈ st.g, WdC c
theorem num_g (most : Nat) (st : PS) : (numM most st).2.g = st.g := by
 unfold numM
 split
 ·rfl
 split <;> rfl
theorem fail_g (st : PS) (e : Int) : (failM st e).g = st.g := by unfold failM; split <;> rfl
theorem next_g (st : PS) : (nextM st).2.g = st.g := by
 unfold nextM
 split
 ·rfl
 split <;> rfl
theorem text_g (most : Nat) (st : PS) : (textM most st).2.g = st.g := by
 have h := num_g maxN st
 unfold textM
 split
 ·exact h
 split
 ·exact h
 split <;> exact h
theorem sym_g (x : UInt8) (st : PS) : (symM x st).2.g = st.g := by
 have h1 := text_g 40 st
 have h2 := num_g maxN st
 unfold symM
 split
 ·simp only
  split
  ·rw [fail_g]; exact h1
  ·exact h1
 split
 ·split
  ·exact h2
  ·rw [fail_g]; exact h2
 ·exact fail_g _ _
theorem name_g (ns : List B) (st : PS) : (nameM ns st).2.g = st.g := by
 unfold nameM
 simp only
 split
 ·rw [fail_g, sym_g, next_g]
 ·rw [sym_g, next_g]
theorem class_g (st : PS) : (classM st).2.g = st.g := by
 unfold classM
 simp only
 split
 ·rw [fail_g, sym_g, next_g]
 ·rw [sym_g, next_g]
def WdF (f : PS → Int × PS) : Prop := ∀ st, Bd st → Wd st → Wd (f st).2
theorem items_wd {f : PS → Int × PS} (hf : Takes f) (hw : WdF f) : ∀ (n : Nat) (l : List Int) (st : PS), Bd st → Wd st → Wd (itemsM f n l st).2
 | 0, _, _, _, h => h
 | n + 1, l, st, b, h => by
  unfold itemsM
  split
  ·exact items_wd hf hw n _ _ (b.le (hf.le st)) (hw st b h)
  ·exact h
theorem attrs_wd {f : PS → Int × PS} (hf : Takes f) (hw : WdF f) : ∀ (n : Nat) (ns : List B) (l : List Int) (st : PS), Bd st → Wd st → Wd (attrsM f n ns l st).2
 | 0, _, _, _, _, h => h
 | n + 1, ns, l, st, b, h => by
  unfold attrsM
  split
  ·have b2 := b.le (name_le ns st)
   have h2 : Wd (nameM ns st).2 := by unfold Wd; rw [name_g]; exact h
   exact attrs_wd hf hw n _ _ _ (b2.le (hf.le _)) (hw _ b2 h2)
  ·exact h
theorem liv_le (st : PS) : liv st ≤ 1 := by unfold liv; split <;> omega
theorem items_w {f : PS → Int × PS} (hf : Takes f) (n : Nat) (st : PS) (b : Bd st) : (itemsM f n [] st).1.length ≤ 30001 := by
 have h := (items_le hf n [] st).2
 have h1 := liv_le st
 have h2 := b.pot
 have h3 : ([] : List Int).length = 0 := rfl
 omega
theorem inner_wd {f : PS → Int × PS} (hf : Takes f) (hw : WdF f) (x : UInt8) (st : PS) (b : Bd st) (h : Wd st) : WdC (innerM f x st).1 ∧ Wd (innerM f x st).2 := by
 have z : ∀ {c : Cell}, c.names = [] → c.items = [] → WdC c := fun h1 h2 => ⟨by rw [h1]; exact Nat.zero_le _, by rw [h2]; exact Nat.zero_le _⟩
 have bn := b.le (num_le maxN st)
 have hn : Wd (numM maxN st).2 := by unfold Wd; rw [num_g]; exact h
 unfold innerM
 split
 ·exact ⟨z rfl rfl, h⟩
 split
 ·exact ⟨z rfl rfl, h⟩
 split
 ·exact ⟨z rfl rfl, by unfold Wd; rw [num_g]; exact h⟩
 split
 ·exact ⟨z rfl rfl, by unfold Wd; rw [text_g]; exact h⟩
 split
 ·exact ⟨z rfl rfl, by unfold Wd; rw [sym_g]; exact h⟩
 split
 ·exact ⟨⟨Nat.zero_le _, items_w hf _ _ bn⟩, items_wd hf hw _ _ _ bn hn⟩
 split
 ·exact ⟨⟨Nat.zero_le _, items_w hf _ _ bn⟩, items_wd hf hw _ _ _ bn hn⟩
 split
 ·have bc := b.le (class_le st)
  have b2 := bc.le (num_le maxN (classM st).2)
  have h2 : Wd (numM maxN (classM st).2).2 := by unfold Wd; rw [num_g, class_g]; exact h
  obtain ⟨_, h4, h5⟩ := attrs_le hf (numM maxN (classM st).2).1 [] [] (numM maxN (classM st).2).2
  have h6 := liv_le (numM maxN (classM st).2).2
  have h7 := b2.pot
  have h8 : ([] : List Int).length = 0 := rfl
  have h9 : ([] : List B).length = 0 := rfl
  refine ⟨⟨?_, ?_⟩, attrs_wd hf hw _ _ _ _ b2 h2⟩
  ·show (attrsM f (numM maxN (classM st).2).1 [] [] (numM maxN (classM st).2).2).1.1.length ≤ _
   omega
  ·show (attrsM f (numM maxN (classM st).2).1 [] [] (numM maxN (classM st).2).2).1.2.length ≤ _
   omega
 ·exact ⟨z rfl rfl, h⟩
theorem open_bd {x : UInt8} {st : PS} (b : Bd st) (hg : ¬ 500 ≤ st.g.length) : Bd (openM x st) := by
 have b1 := b.cl
 refine ⟨?_, ?_, b.pot⟩
 ·show (st.g ++ [nilC]).length ≤ _
  simp
  omega
 ·show (if x ∈ named then st.cells ++ [(st.g.length : Int)] else st.cells).length ≤ (st.g ++ [nilC]).length
  split
  ·simp; omega
  ·simp; omega
theorem cell_wd : ∀ n : Nat, WdF (cellM n)
 | 0 => fun st b h => by
  show ∀ c ∈ (failM st 99).g, _
  rw [fail_g]
  exact h
 | n + 1 => fun st b h => by
  have ih := cell_wd n
  have b1 := b.le (next_le st)
  have h1 : Wd (nextM st).2 := by unfold Wd; rw [next_g]; exact h
  unfold cellM
  simp only
  split
  ·exact h1
  split
  ·unfold refM
   simp only
   have hn : Wd (numM maxN (nextM st).2).2 := by unfold Wd; rw [num_g]; exact h1
   split
   ·exact hn
   split
   ·unfold Wd; rw [fail_g]; exact hn
   ·exact hn
  split
  ·unfold Wd; rw [fail_g]; exact h1
  ·rename_i h2 h3
   have hg : ¬ 500 ≤ (nextM st).2.g.length := fun h => h3 (.inl h)
   have bo := open_bd (x := (nextM st).1) b1 hg
   have ho : Wd (openM (nextM st).1 (nextM st).2) := by
    intro c hc
    rcases List.mem_append.1 (show c ∈ (nextM st).2.g ++ [nilC] from hc) with hc | hc
    ·exact h1 c hc
    ·obtain rfl := List.mem_singleton.1 hc
     exact ⟨Nat.zero_le _, Nat.zero_le _⟩
   obtain ⟨w1, w2⟩ := inner_wd (cell_takes n) ih (nextM st).1 (openM (nextM st).1 (nextM st).2) bo ho
   intro c hc
   rcases List.mem_or_eq_of_mem_set (show c ∈ (innerM (cellM n) (nextM st).1 (openM (nextM st).1 (nextM st).2)).2.g.set (nextM st).2.g.length (innerM (cellM n) (nextM st).1 (openM (nextM st).1 (nextM st).2)).1 from hc) with hc | hc
   ·exact w2 c hc
   ·rw [hc]; exact w1
end Go.Marshal
namespace Go.AX
open Go.RowKit
theorem run_convert_own {P : Program} (w : World) (t e : TypeId) (b : Nat) (arr : Array Value) (fr : Nat × Nat) (n c : Nat) (hb : w.heap[b]? = some (.cells arr e fr)) (ht : P.underlying t = some (.slice e)) (he : P.underlying e = some (.int .u8)) :
  (convert t t (.slice (some ⟨b, 0, none⟩) n c)).run P w = .ok (.slice (some ⟨b, 0, none⟩) n c) (w.freeze ⟨b, arr.size, none⟩ 1) := by
 have hsh : w.shape? b = some (e, arr.size) := by
  unfold World.shape?
  rw [hb]
 simp [convert, run_underlying ht, run_underlying he, markStringish, hsh]
theorem EffW.constB {P : Program} {o : Oper} {s : List AV} {H : List Ent} {K : AV → List Ent → Prop} {t e : TypeId} {x : Operand} {b n c : Nat} {xs : List Value} (i : Nat) (ho : o.op = .convert t t x) (ht : P.underlying t = some (.slice e)) (he : P.underlying e = some (.int .u8))
  (hx : opv s x = .c (.v (.slice (some ⟨b, 0, none⟩) n c))) (hi : nthE H i = some (.app e 1 xs (some ⟨b, 0, none⟩) n c)) (hk : K (.c (.v (.slice (some ⟨b, 0, none⟩) n c))) H) : EffW P o s H K := by
 intro ρ S w ac hsat hr
 have hxr := opv_rel hr x
 rw [hx] at hxr
 have hxe : ac.eval x = .slice (some ⟨b, 0, none⟩) n c := hxr
 rw [nthE_eq] at hi
 have hilt : i < H.length := (List.getElem?_eq_some_iff.1 hi).1
 have hset : H.set i (.app e 1 xs (some ⟨b, 0, none⟩) n c) = H := by
  apply List.ext_getElem?
  intro j
  by_cases hj : i = j
  ·subst hj
   rw [List.getElem?_set_self hilt, hi]
  ·rw [List.getElem?_set_ne hj]
 rcases hsat.ent i _ hi with ⟨h0, _⟩ | ⟨b', hb', hrow⟩
 ·cases h0
 ·obtain rfl : b = b' := by
   injection hb' with h1
   injection h1
  obtain ⟨arr, fr, ⟨hb, hfr⟩, h1, h2, h3, h4, h5⟩ := hrow
  have hrun := run_convert_own w t e b arr fr n c hb ht he
  have hbl : b < w.heap.size := (Array.getElem?_eq_some_iff.1 hb).1
  have hb2 : (w.freeze ⟨b, arr.size, none⟩ 1).heap[b]? = some (.cells arr e (if fr.1 == fr.2 then (arr.size, arr.size + 1) else (min fr.1 arr.size, max fr.2 (arr.size + 1)))) := by
   simp [World.freeze, Array.getElem?_modify, hb]
  have hS := hsat.setG (e' := .app e 1 xs (some ⟨b, 0, none⟩) n c) (c := b) (w' := w.freeze ⟨b, arr.size, none⟩ 1) hi rfl (by simp [World.freeze]) (fun k _ hne => by simp [World.freeze, Array.getElem?_modify, Ne.symm hne]) rfl rfl rfl (fun c hc => .inl (Option.some.inj hc).symm)
   (.inr ⟨b, rfl, arr, _, ⟨hb2, by
    split
    ·exact .inr (Nat.le_refl _)
    ·rename_i hne
     rcases hfr with h | h
     ·simp [h] at hne
     ·exact .inr (by show arr.size ≤ min fr.1 arr.size; omega)⟩, h1, h2, h3, h4, h5⟩)
  rw [hset] at hS
  refine ⟨_, _, hk, _, _, _, _, ?_, .inl rfl, hS.1, hS.2, rfl⟩
  unfold execOp
  simp only [ho, hxe, Sem.run_bind, hrun, Result.andThen_ok, Sem.run_pure]
end Go.AX
namespace Go.Proofs.YtgogonnnojcioaaGreatDoor
open Go.AX Go.RowKit Go.Core Go.Marshal
set_option maxRecDepth 20000
theorem checkW (a : Option Addr) (ca : Nat) (l : List CellP) (ha : a = none → l = []) (hs : l.length ≤ 2000 ∧ ∀ p ∈ l, p.c.names.length ≤ 40000 ∧ p.c.items.length ≤ 40000) (hok : ∀ p ∈ l, CellOk p) (b : Bool) (hb : b = true ↔ ValidP (l.map (·.c))) :
  ∀ H, (∀ w, Facts H w → GrF a l w) → SpecH Tryz.prog 65 (pvs [.slice a l.length ca]) H (Ret (errI b) H) := by
 intro H hH
 obtain ⟨b2, hb2, h⟩ := Check_w a ca l ha hs hok H hH
 have e : b2 = b := by rw [Bool.eq_iff_iff, hb, hb2]
 rw [← e]
 exact h
def P0 : RdP := ⟨[], none, 0, none, 0, none, 0⟩
def RdR (st : PS) (v : Value) (G : World → Prop) : Prop := ∃ (rb : Nat) (p : RdP), v = .tuple #[.pointer (some ⟨rb, 0, none⟩), .int .i64 st.e] ∧ RdOk st p ∧ ∀ w, G w → SlAt (some ⟨rb, 0, none⟩) 5 (rdC st p) w ∧ SlAt p.ga (p.m.length * 5) (grC p.m) w ∧ (∀ q ∈ p.m, CellF q w) ∧ SlAt p.sa (st.ss.length * 1) (strC st.ss) w
set_option maxHeartbeats 4000000 in
theorem read_c (s : List UInt8) (hs : s.length ≤ 20000) : SpecF Tryz.prog 41 [.string (bs s)] (fun w => ∀ q ∈ ([] : List CellP), CellF q w) (RdR (readM s)) := by
 refine specF_of ?_
 refine SpecH.pad [.app 57 5 [] none 0 0, .app 3 1 [] none 0 0, .app 9 1 [] none 0 0] rfl ?_
 refine spec_of_exec hm Tryz.func41 (by kernel_rfl) rfl rfl ?_
 have hsz := bs_size s
 refine wXB ?_
 refine brd_dec (fun h => absurd h (by rw [hsz]; omega)) (fun _ => ?_)
 refine wXB ?_
 refine BoxN.known [.string (bs s), .slice none 0 0, .slice none 0 0, .slice none 0 0, .int .i64 0] rfl fun rb => ?_
 refine wXK ?_
 refine RwN.known [.int .u8 67, .int .u8 77, .int .u8 1] rfl fun hb => ?_
 refine wXK ?_
 refine EffW.constB 5 rfl Tryz.underlying29 Tryz.underlying5 rfl rfl ?_
 obtain ⟨S0, hS0⟩ : ∃ S0, headM headB ⟨s, [], [], [], 0⟩ = S0 := ⟨_, rfl⟩
 have ok0 : RdOk ⟨s, [], [], [], 0⟩ P0 := ⟨rfl, (fun q hq => by cases hq), fun _ => rfl, fun _ => rfl, fun _ => rfl, (fun t ht => by cases ht), .inl rfl⟩
 have bd0 : Bd ⟨s, [], [], [], 0⟩ := ⟨Nat.zero_le _, Nat.le_refl _, by show 0 + s.length ≤ _; omega⟩
 refine wXK ?_
 refine LoopN.intro (Nat × PS) (fun ⟨i, st⟩ => i ≤ 3 ∧ headM (headB.drop i) st = S0 ∧ RdOk st P0 ∧ Le 0 ⟨s, [], [], [], 0⟩ st)
  (fun ⟨i, _⟩ => mkS Tryz.f41.ntmps 0 [(4, .c (.v (.pointer (some ⟨rb, 0, none⟩)))), (14, .c (.v (.slice (some ⟨hb, 0, none⟩) 3 3))), (15, .c (.v (.int .i64 3))), (16, .c (.v (.int .i64 (i : Int))))])
  (fun ⟨_, st⟩ => [.fact fun w => ∀ q ∈ ([] : List CellP), CellF q w, .app 57 5 [] none 0 0, .app 3 1 (iC st.cells) none st.cells.length 0, .app 9 1 (strC st.ss) none st.ss.length 0, .app 84 5 (rdC st P0) (some ⟨rb, 0, none⟩) 1 1, .app 5 1 [.int .u8 67, .int .u8 77, .int .u8 1] (some ⟨hb, 0, none⟩) 3 3]) (fun ⟨i, _⟩ => 3 - i) [] rfl
  (fun _ => rfl) (fun _ => rfl) (fun _ _ => okHB_eq rfl) ⟨(0, ⟨s, [], [], [], 0⟩), ⟨by omega, hS0, ok0, Le.refl _⟩, ?_, ?_⟩ ?_
 ·exact wKK
 ·exact ⟨wkE_refl _, wkE_refl _, wkE_refl _, wkE_refl _, wkE_refl _, wkE_refl _, wkH_nil _⟩
 rintro ⟨i, st⟩ ⟨h1, h2, h3, h4⟩
 refine wXK ?_
 refine brd_dec (fun hi => ?_) (fun hi => ?_)
 ·obtain ⟨c, hc⟩ : ∃ c, headB[i]? = some c := ⟨_, List.getElem?_eq_getElem (by show i < 3; omega)⟩
  have hd : headB.drop i = c :: headB.drop (i + 1) := by
   obtain ⟨h5, h6⟩ := List.getElem?_eq_some_iff.1 hc
   rw [← h6, List.getElem_cons_drop]
  rw [hd] at h2
  have h2 : headM (headB.drop (i + 1)) (if (nextM st).1 ≠ c then failM (nextM st).2 4 else (nextM st).2) = S0 := h2
  have hcv : ([.int .u8 67, .int .u8 77, .int .u8 1] : List Value)[i]? = some (.int .u8 (c.toNat : Int)) := by
   rcases i with _ | _ | _ | i
   ·cases hc; rfl
   ·cases hc; rfl
   ·cases hc; rfl
   ·cases hc
  have hnx := next_m rb st P0
  have hln := h4.trans (next_le st)
  have okn := h3.same (next_keep st)
  generalize nextM st = r at h2 hnx hln okn ⊢
  obtain ⟨x, st2⟩ := r
  simp only at h2 hnx hln okn
  refine wXK ?_
  refine Nd.mk ⟨rfl, by omega, by omega⟩ ?_
  refine wXK ?_
  refine LdN.one (.int .u8 (c.toNat : Int)) rfl (fun w hw => hw.2.2.2.2.2.1) (by show ([.int .u8 67, .int .u8 77, .int .u8 1] : List Value)[Int.toNat _ * 1]? = _; rw [Int.toNat_natCast, Nat.mul_one]; exact hcv) ?_
  refine wXK ?_
  refine callG (hnx) [4, 1, 0, 2, 3] rfl ⟨rfl, rfl, rfl, rfl, rfl, trivial⟩ rfl fun _ _ => ?_
  refine wXK ?_
  refine brd_ne (fun h7 => ?_) (fun h7 => ?_)
  ·have hxc : x ≠ c := fun h => h7 (by rw [h])
   rw [if_pos hxc] at h2
   refine wXK ?_
   refine callG (fail_m rb st2 P0 4) [4, 1, 0, 2, 3] rfl ⟨rfl, rfl, rfl, rfl, rfl, trivial⟩ rfl fun _ _ => ?_
   refine wXK ?_
   refine ⟨(i + 1, failM st2 4), ⟨by omega, h2, okn.same (fail_ss st2 4), hln.trans (fail_le st2 4)⟩, by show 3 - (i + 1) < 3 - i; omega, ?_, wkE_refl _, wkE_refl _, wkE_refl _, wkE_refl _, wkE_refl _, wkE_refl _, wkH_nil _⟩
   exact wKK
  ·have hxc : x = c := UInt8.toNat_inj.1 (by omega)
   rw [if_neg (fun h => h hxc)] at h2
   refine wXK ?_
   refine ⟨(i + 1, st2), ⟨by omega, h2, okn, hln⟩, by show 3 - (i + 1) < 3 - i; omega, ?_, wkE_refl _, wkE_refl _, wkE_refl _, wkE_refl _, wkE_refl _, wkE_refl _, wkH_nil _⟩
   exact wKK
 ·obtain rfl : i = 3 := by omega
  have h2 : st = S0 := h2
  subst h2
  have hR : readM s = checkM (endM (cellM (s.length + 1) st).2) := by unfold readM; rw [hS0]
  rw [hR]
  have hs4 : st.s.length ≤ s.length := h4.s
  have bd4 := bd0.le h4
  have hce := cell_rd (s.length + 1) rb st P0 h3 bd4 (.inl (by omega))
  have hwd := cell_wd (s.length + 1) st bd4 (by unfold Wd; rw [← h3.g]; intro c hc; cases hc)
  have bd5 := bd4.le ((cell_takes (s.length + 1)).le st)
  generalize cellM (s.length + 1) st = r at hce hwd bd5 ⊢
  obtain ⟨z, st1⟩ := r
  simp only at hce hwd bd5
  refine wXK ?_
  refine callG hce [4, 1, 0, 2, 3] rfl ⟨rfl, rfl, rfl, rfl, rfl, trivial⟩ rfl fun p hp => ?_
  refine wXK ?_
  refine LdN.one (a := some ⟨rb, 0, none⟩) (q := 4) (.int .i64 st1.e) rfl (fun w hw => hw.2.2.2.2.1) rfl ?_
  refine wXK ?_
  by_cases he : st1.e = 0
  ·rw [show (st1.e == 0) = true by rw [he]; rfl]
   refine wXK ?_
   refine LdN.one (a := some ⟨rb, 0, none⟩) (q := 0) (.string (bs st1.s)) rfl (fun w hw => hw.2.2.2.2.1) rfl ?_
   refine wXK ?_
   have hsn : ((bs st1.s).data.toList == (⟨#[]⟩ : ByteArray).data.toList) = decide (st1.s = []) := by rw [bs_list]; cases st1.s <;> rfl
   rw [hsn]
   by_cases hs1 : st1.s = []
   ·rw [decide_eq_true hs1]
    have e1 : endM st1 = st1 := by
     unfold endM
     rw [if_neg (fun h => h.2 hs1)]
    have hml : p.m.length = st1.g.length := by rw [← hp.g, List.length_map]
    have hgl := bd5.g
    obtain ⟨b, hb⟩ : ∃ b : Bool, b = true ↔ ValidP (p.m.map (·.c)) := by
     by_cases h : ValidP (p.m.map (·.c))
     ·exact ⟨true, fun _ => h, fun _ => rfl⟩
     ·exact ⟨false, (fun h => by cases h), fun h2 => absurd h2 h⟩
    have e2 : checkM st1 = { st1 with e := if b then 0 else 1 } := by
     unfold checkM
     rw [if_pos he]
     congr 1
     rw [← hp.g]
     cases b with
     | true => rw [if_pos (hb.1 rfl)]; rfl
     | false => rw [if_neg (fun h => by have := hb.2 h; cases this)]; rfl
    have hwm : ∀ q ∈ p.m, q.c.names.length ≤ 40000 ∧ q.c.items.length ≤ 40000 := fun q hq => by
     have := hwd q.c (by rw [← hp.g]; exact List.mem_map.2 ⟨q, hq, rfl⟩)
     exact ⟨Nat.le_trans this.1 (by decide), Nat.le_trans this.2 (by decide)⟩
    rw [show (z, st1).2 = st1 from rfl, e1, e2]
    refine wXK ?_
    refine LdN.one (a := some ⟨rb, 0, none⟩) (q := 4) (.int .i64 st1.e) rfl (fun w hw => hw.2.2.2.2.1) rfl ?_
    rw [he]
    refine wXK ?_
    refine LdN.one (a := some ⟨rb, 0, none⟩) (q := 1) (.slice p.ga p.m.length p.gc) rfl (fun w hw => hw.2.2.2.2.1) rfl ?_
    refine wXK ?_
    refine call1 (checkW p.ga p.gc p.m hp.ga ⟨by omega, hwm⟩ hp.cell b hb _ (fun w hw => ⟨hw.2.1, hw.1⟩)) ?_
    refine wXK ?_
    refine EffW.appTo (i := 4) (q := 4) (ys := [_]) (rdC ({ st1 with e := if b then 0 else 1 }) p) 5 rfl rfl rfl rfl rfl rfl rfl (Nat.le_of_ble_eq_true rfl) rfl rfl ?_
    refine wXK ?_
    refine LdN.one (a := some ⟨rb, 0, none⟩) (q := 4) (.int .i64 (if b then 0 else 1)) rfl (fun w hw => hw.2.2.2.2.1) rfl ?_
    refine wXK ?_
    exact fin_p (fun w => SlAt (some ⟨rb, 0, none⟩) 5 (rdC ({ st1 with e := if b then 0 else 1 }) p) w ∧ SlAt p.ga (p.m.length * 5) (grC p.m) w ∧ (∀ q ∈ p.m, CellF q w) ∧ SlAt p.sa (({ st1 with e := if b then 0 else 1 }).ss.length * 1) (strC ({ st1 with e := if b then 0 else 1 }).ss) w) ⟨rb, p, rfl, hp.same (st' := { st1 with e := if b then 0 else 1 }) ⟨rfl, rfl, rfl⟩, fun w hw => hw⟩ (fun w hw => ⟨hw.2.2.2.2.1, hw.2.1, hw.1, hw.2.2.2.1⟩)
   ·rw [decide_eq_false hs1]
    have e1 : endM st1 = failM st1 4 := by
     unfold endM
     rw [if_pos ⟨he, hs1⟩]
    have he4 : (failM st1 4).e = 4 := fail_e he 4
    have e2 : checkM (failM st1 4) = failM st1 4 := check_dead (by rw [he4]; decide)
    rw [show (z, st1).2 = st1 from rfl, e1, e2]
    have ok4 := hp.same (fail_ss st1 4)
    refine wXK ?_
    refine callG (fail_m rb st1 p 4) [4, 1, 0, 2, 3] rfl ⟨rfl, rfl, rfl, rfl, rfl, trivial⟩ rfl fun _ _ => ?_
    generalize failM st1 4 = st4 at he4 ok4 ⊢
    refine wXK ?_
    refine LdN.one (a := some ⟨rb, 0, none⟩) (q := 4) (.int .i64 st4.e) rfl (fun w hw => hw.2.2.2.2.1) rfl ?_
    rw [he4]
    refine wXK ?_
    refine LdN.one (a := some ⟨rb, 0, none⟩) (q := 4) (.int .i64 st4.e) rfl (fun w hw => hw.2.2.2.2.1) rfl ?_
    refine wXK ?_
    exact fin_p (fun w => SlAt (some ⟨rb, 0, none⟩) 5 (rdC (st4) p) w ∧ SlAt p.ga (p.m.length * 5) (grC p.m) w ∧ (∀ q ∈ p.m, CellF q w) ∧ SlAt p.sa ((st4).ss.length * 1) (strC (st4).ss) w) ⟨rb, p, rfl, ok4, fun w hw => hw⟩ (fun w hw => ⟨hw.2.2.2.2.1, hw.2.1, hw.1, hw.2.2.2.1⟩)
  ·have e1 : checkM (endM st1) = st1 := by rw [end_dead he, check_dead he]
   rw [e1]
   rw [show (st1.e == 0) = false by simpa using he]
   refine wXK ?_
   refine LdN.one (a := some ⟨rb, 0, none⟩) (q := 4) (.int .i64 st1.e) rfl (fun w hw => hw.2.2.2.2.1) rfl ?_
   refine wXK ?_
   refine brd_eq (fun h => absurd h he) (fun _ => ?_)
   refine wXK ?_
   refine LdN.one (a := some ⟨rb, 0, none⟩) (q := 4) (.int .i64 st1.e) rfl (fun w hw => hw.2.2.2.2.1) rfl ?_
   refine wXK ?_
   exact fin_p (fun w => SlAt (some ⟨rb, 0, none⟩) 5 (rdC (st1) p) w ∧ SlAt p.ga (p.m.length * 5) (grC p.m) w ∧ (∀ q ∈ p.m, CellF q w) ∧ SlAt p.sa ((st1).ss.length * 1) (strC (st1).ss) w) ⟨rb, p, rfl, hp, fun w hw => hw⟩ (fun w hw => ⟨hw.2.2.2.2.1, hw.2.1, hw.1, hw.2.2.2.1⟩)
theorem read_long (s : List UInt8) (hs : 20000 < s.length) : ∀ H, SpecH Tryz.prog 41 (pvs [.string (bs s)]) H (Ret (.tuple #[.pointer none, .int .i64 2]) H) := by
 refine pureC hm Tryz.func41 (by kernel_rfl) rfl rfl ?_
 have hsz := bs_size s
 refine wX ?_
 refine brd_dec (fun h => ?_) (fun h => absurd (show (s.length : Int) > 20000 by omega) (by rw [hsz] at h; exact h))
 exact wZ
def GraphR (g : List Cell) (v : Value) (G : World → Prop) : Prop := ∃ (a : Option Addr) (c : Nat) (m : List CellP), v = .slice a m.length c ∧ m.map (·.c) = g ∧ (a = none → m = []) ∧ (∀ q ∈ m, CellOk q) ∧ ∀ w, G w → GrF a m w
def LoadR (r : Except Int (List Cell × List B)) (v : Value) (G : World → Prop) : Prop := match r with
 | .error e => v = .tuple #[.slice none 0 0, .int .i64 e]
 | .ok (g, _) => ∃ v1, v = .tuple #[v1, .int .i64 0] ∧ GraphR g v1 G
theorem Load_c (s : List UInt8) : SpecF Tryz.prog 16 [.string (bs s)] (fun _ => True) (LoadR (loadS s)) := by
 refine specF hm Tryz.func16 (by kernel_rfl) rfl rfl ?_
 by_cases hs : 20000 < s.length
 ·have hl : loadS s = .error 2 := by unfold loadS; rw [if_pos hs]
  rw [hl]
  refine wX ?_
  refine call1 (read_long s hs _) ?_
  refine wX ?_
  exact fin_v rfl
 ·have href := load_ref (s := s) (by omega)
  ((conv => whnf); (repeat ((first | refine VrN.keep ?_ | refine BoxN.own ?_ | refine RwN.own ?_); (conv => whnf))))
  refine SpecF.call (read_c s (by omega)) (fun w _ q hq => by cases hq) fun v G hR => ?_
  obtain ⟨rb, p, rfl, ok, hG⟩ := hR
  generalize readM s = st at href ok hG ⊢
  cases hl : loadS s with
  | error e =>
   obtain ⟨h1, h2⟩ := href.2 e hl
   refine wX ?_
   rw [h1]
   refine brd_ne (fun _ => ?_) (fun h => absurd h h2)
   refine wX ?_
   exact fin_v rfl
  | ok r =>
   obtain ⟨h1, h2, h3⟩ := href.1 r hl
   obtain ⟨g, ss⟩ := r
   refine wX ?_
   rw [h1]
   refine wX ?_
   refine LdN.one (a := some ⟨rb, 0, none⟩) (q := 1) (.slice p.ga p.m.length p.gc) rfl (fun w hw => (hG w hw.2.1).1) rfl ?_
   refine wX ?_
   exact fin_p (fun w => GrF p.ga p.m w) ⟨_, rfl, p.ga, p.gc, p.m, rfl, by rw [ok.g]; exact h2, ok.ga, ok.cell, fun w hw => hw⟩ (fun w hw => ⟨(hG w hw.2.1).2.1, (hG w hw.2.1).2.2.1⟩)
def errS (r : Except Int (List Cell × List B)) : Int := match r with
 | .error e => e
 | .ok _ => 0
end Go.Proofs.YtgogonnnojcioaaGreatDoor
namespace Go.Marshal
open Go.Core
end Go.Marshal
namespace Go.Proofs.YtgogonnnojcioaaGreatDoor
open Go.AX Go.RowKit Go.Core Go.Marshal
set_option maxRecDepth 20000
end Go.Proofs.YtgogonnnojcioaaGreatDoor
namespace Go.Proofs.YtgogonnnojcioaaGreatDoor
open Go.AX Go.RowKit Go.Core
set_option maxRecDepth 20000
end Go.Proofs.YtgogonnnojcioaaGreatDoor
namespace Go.AX
end Go.AX
namespace Go.Core
def mixI (f : Int → Int) (k : Nat) (its : List Int) : List Int := (its.take k).map f ++ its.drop k
theorem mixI_zero (f : Int → Int) (its : List Int) : mixI f 0 its = its := by unfold mixI; simp
theorem mixI_all (f : Int → Int) (its : List Int) : mixI f its.length its = its.map f := by unfold mixI; simp
theorem mixI_len (f : Int → Int) (k : Nat) (its : List Int) : (mixI f k its).length = its.length := by
 unfold mixI
 rw [List.length_append, List.length_map, List.length_take, List.length_drop]
 omega
theorem mix_get {α : Type} {f : α → α} {k : Nat} {l : List α} (h : k < l.length) : ((l.take k).map f ++ l.drop k)[k]? = l[k]? := by
 rw [List.getElem?_append_right (by simp; omega), List.getElem?_drop]
 simp
 congr 1
 omega
theorem mix_set {α : Type} {f : α → α} {k : Nat} {l : List α} {x : α} (h : l[k]? = some x) : ((l.take k).map f ++ l.drop k).set k (f x) = (l.take (k + 1)).map f ++ l.drop (k + 1) := by
 have hk := (List.getElem?_eq_some_iff.1 h).1
 rw [List.set_append_right _ _ (by simp; omega)]
 have e : k - (List.map f (List.take k l)).length = 0 := by simp; omega
 rw [e, List.drop_eq_getElem_cons hk, List.set_cons_zero, List.take_add_one, h]
 simp
theorem set_same {α : Type} {l : List α} {k : Nat} {x : α} (h : l[k]? = some x) : l.set k x = l := by
 obtain ⟨hk, rfl⟩ := List.getElem?_eq_some_iff.1 h
 exact List.set_getElem_self hk
end Go.Core
namespace Go.Proofs.YtgogonnnojcioaaGreatDoor
open Go.AX Go.RowKit Go.Core
set_option maxRecDepth 20000
end Go.Proofs.YtgogonnnojcioaaGreatDoor
namespace Go.Proofs.YtgogonnnojcioaaGreatDoor
open Go.AX Go.RowKit Go.Core
set_option maxRecDepth 20000
structure MInv (t : List Cell) (st : DSt) : Prop where
 oa : st.oa = none → st.m = []
 c : st.m.map (·.c) = t
 ok : ∀ p ∈ st.m, CellOk p
 own : ∀ p ∈ st.m, OwnP p
 cap : st.m.length ≤ st.oc
theorem MInv.gr {t : List Cell} {st : DSt} (h : MInv t st) {w : World} (h1 : SlAt st.oa (st.m.length * 5) (grC st.m) w) (h2 : famF (rowsG st.m) w) : GrF st.oa st.m w := ⟨h1, grF_rows h.ok h.own h2⟩
end Go.Proofs.YtgogonnnojcioaaGreatDoor
namespace Go.Core
end Go.Core
namespace Go.Proofs.YtgogonnnojcioaaGreatDoor
open Go.AX Go.RowKit Go.Core
set_option maxRecDepth 20000
end Go.Proofs.YtgogonnnojcioaaGreatDoor
namespace Go.Core
def KnD (g : List Cell) (S : List Int) : Prop := S.length = g.length ∧ ∀ (j : Nat) (v : Int), S[j]? = some v → v = 0 ∨ (v = (dep g (j : Int) : Int) ∧ 0 < v)
theorem KnD.none (g : List Cell) : KnD g (List.replicate g.length 0) := ⟨by simp, fun j v h => by
 rw [List.getElem?_replicate] at h
 split at h
 ·exact .inl (Option.some.inj h).symm
 ·cases h⟩
theorem KnD.put {g : List Cell} {S : List Int} (h : KnD g S) {i : Nat} (hp : 0 < dep g (i : Int)) : KnD g (S.set i (dep g (i : Int) : Int)) := by
 refine ⟨by rw [List.length_set, h.1], fun j v hj => ?_⟩
 by_cases e : i = j
 ·subst e
  rw [List.getElem?_set] at hj
  simp only [if_true] at hj
  split at hj
  ·cases hj; exact .inr ⟨rfl, by omega⟩
  ·cases hj
 ·rw [List.getElem?_set_ne e] at hj
  exact h.2 j v hj
end Go.Core
namespace Go.Proofs.YtgogonnnojcioaaGreatDoor
open Go.AX Go.RowKit Go.Core
set_option maxRecDepth 20000
end Go.Proofs.YtgogonnnojcioaaGreatDoor
namespace Go.Proofs.YtgogonnnojcioaaGreatDoor
open Go.AX Go.RowKit Go.Core
set_option maxRecDepth 20000
end Go.Proofs.YtgogonnnojcioaaGreatDoor
namespace Go.Proofs.YtgogonnnojcioaaGreatDoor
open Go.AX Go.RowKit Go.Core
set_option maxRecDepth 20000
set_option maxHeartbeats 4000000 in
theorem own_o (p : CellP) (hpo : CellOk p) (hnl : p.c.names.length ≤ 2000) (hil : p.c.items.length ≤ 2000) : SpecH Tryz.prog 45 (pvs [cellV p]) [.fact (CellF p)] (RetG (ι := Nat × Nat × Nat × Nat) (fun o => p.c.names.length ≤ o.2.1 ∧ p.c.items.length ≤ o.2.2.2) (fun o => cellV ⟨p.c, some ⟨o.1, 0, none⟩, o.2.1, some ⟨o.2.2.1, 0, none⟩, o.2.2.2⟩) (fun o => [.dead, .dead, .dead, .app 9 1 (strC p.c.names) (some ⟨o.1, 0, none⟩) p.c.names.length o.2.1, .app 3 1 (iC p.c.items) (some ⟨o.2.2.1, 0, none⟩) p.c.items.length o.2.2.2])) := by
 refine ownC hm Tryz.func45 (by kernel_rfl) rfl rfl (fun _ _ => okHB_eq rfl) (fun _ _ => by show 1 ≤ 5; decide) ?_
 ((conv => whnf); (repeat ((first | refine VrN.norm (wrap_i64 (by omega)) ?_ | refine VrN.keep ?_ | refine DrawN.calm (by decide +kernel) ?_ | refine Nd.mk (by decide +kernel) ?_ | refine Nd.mk (by omega) ?_ | refine RdN.intro _ rfl (by rfl) ?_); (conv => whnf))))
 refine BoxN.known (cellC p) rfl fun cb => ?_
 ((conv => whnf); (repeat ((first | refine VrN.norm (wrap_i64 (by omega)) ?_ | refine VrN.keep ?_ | refine DrawN.calm (by decide +kernel) ?_ | refine Nd.mk (by decide +kernel) ?_ | refine Nd.mk (by omega) ?_ | refine RdN.intro _ rfl (by rfl) ?_); (conv => whnf))))
 refine BoxN.own ?_
 ((conv => whnf); (repeat ((first | refine VrN.norm (wrap_i64 (by omega)) ?_ | refine VrN.keep ?_ | refine DrawN.calm (by decide +kernel) ?_ | refine Nd.mk (by decide +kernel) ?_ | refine Nd.mk (by omega) ?_ | refine RdN.intro _ rfl (by rfl) ?_); (conv => whnf))))
 refine RwN.known [] rfl fun nb => ?_
 ((conv => whnf); (repeat ((first | refine VrN.norm (wrap_i64 (by omega)) ?_ | refine VrN.keep ?_ | refine DrawN.calm (by decide +kernel) ?_ | refine Nd.mk (by decide +kernel) ?_ | refine Nd.mk (by omega) ?_ | refine RdN.intro _ rfl (by rfl) ?_); (conv => whnf))))
 refine LdN.one (a := some ⟨cb, 0, none⟩) (q := 3) (.slice p.na p.c.names.length p.nc) rfl (fun w hw => hw.2.1) rfl ?_
 ((conv => whnf); (repeat ((first | refine VrN.norm (wrap_i64 (by omega)) ?_ | refine VrN.keep ?_ | refine DrawN.calm (by decide +kernel) ?_ | refine Nd.mk (by decide +kernel) ?_ | refine Nd.mk (by omega) ?_ | refine RdN.intro _ rfl (by rfl) ?_); (conv => whnf))))
 refine app_any 3 [] (strC p.c.names) rfl (Nat.le_refl _) (fun h => by cases hq : p.na with | none => rw [hpo.na hq] at h; cases h | some b => rfl) (by show (strC p.c.names).length = p.c.names.length * 1; simp [strC]) (fun u hu => by obtain ⟨x, _, rfl⟩ := List.mem_map.1 hu; rfl) (fun w hw j v hv => hw.1.1.cell hv) ⟨⟨by show (0 + p.c.names.length) * 16 ≤ _; omega, by omega⟩, Nat.one_ne_zero⟩ fun nb2 nc2 hnc2 => ?_
 rw [Nat.zero_add, List.nil_append]
 ((conv => whnf); (repeat ((first | refine VrN.norm (wrap_i64 (by omega)) ?_ | refine VrN.keep ?_ | refine DrawN.calm (by decide +kernel) ?_ | refine Nd.mk (by decide +kernel) ?_ | refine Nd.mk (by omega) ?_ | refine RdN.intro _ rfl (by rfl) ?_); (conv => whnf))))
 refine EffW.appTo (i := 1) (q := 3) (ys := [.slice (some ⟨nb2, 0, none⟩) p.c.names.length nc2]) (cellC ⟨p.c, some ⟨nb2, 0, none⟩, nc2, p.ia, p.ic⟩) 5 rfl rfl rfl rfl rfl rfl rfl (Nat.le_of_ble_eq_true rfl) rfl rfl ?_
 ((conv => whnf); (repeat ((first | refine VrN.norm (wrap_i64 (by omega)) ?_ | refine VrN.keep ?_ | refine DrawN.calm (by decide +kernel) ?_ | refine Nd.mk (by decide +kernel) ?_ | refine Nd.mk (by omega) ?_ | refine RdN.intro _ rfl (by rfl) ?_); (conv => whnf))))
 refine RwN.known [] rfl fun ib => ?_
 ((conv => whnf); (repeat ((first | refine VrN.norm (wrap_i64 (by omega)) ?_ | refine VrN.keep ?_ | refine DrawN.calm (by decide +kernel) ?_ | refine Nd.mk (by decide +kernel) ?_ | refine Nd.mk (by omega) ?_ | refine RdN.intro _ rfl (by rfl) ?_); (conv => whnf))))
 refine LdN.one (a := some ⟨cb, 0, none⟩) (q := 4) (.slice p.ia p.c.items.length p.ic) rfl (fun w hw => hw.2.1) rfl ?_
 ((conv => whnf); (repeat ((first | refine VrN.norm (wrap_i64 (by omega)) ?_ | refine VrN.keep ?_ | refine DrawN.calm (by decide +kernel) ?_ | refine Nd.mk (by decide +kernel) ?_ | refine Nd.mk (by omega) ?_ | refine RdN.intro _ rfl (by rfl) ?_); (conv => whnf))))
 refine app_any 4 [] (iC p.c.items) rfl (Nat.le_refl _) (fun h => by cases hq : p.ia with | none => rw [hpo.ia hq] at h; cases h | some b => rfl) (by show (iC p.c.items).length = p.c.items.length * 1; simp [iC]) (fun u hu => by obtain ⟨x, _, rfl⟩ := List.mem_map.1 hu; rfl) (fun w hw j v hv => hw.1.2.cell hv) ⟨⟨by show (0 + p.c.items.length) * 8 ≤ _; omega, by omega⟩, Nat.one_ne_zero⟩ fun ib2 ic2 hic2 => ?_
 rw [Nat.zero_add, List.nil_append]
 ((conv => whnf); (repeat ((first | refine VrN.norm (wrap_i64 (by omega)) ?_ | refine VrN.keep ?_ | refine DrawN.calm (by decide +kernel) ?_ | refine Nd.mk (by decide +kernel) ?_ | refine Nd.mk (by omega) ?_ | refine RdN.intro _ rfl (by rfl) ?_); (conv => whnf))))
 refine EffW.appTo (i := 1) (q := 4) (ys := [.slice (some ⟨ib2, 0, none⟩) p.c.items.length ic2]) (cellC ⟨p.c, some ⟨nb2, 0, none⟩, nc2, some ⟨ib2, 0, none⟩, ic2⟩) 5 rfl rfl rfl rfl rfl rfl rfl (Nat.le_of_ble_eq_true rfl) rfl rfl ?_
 ((conv => whnf); (repeat ((first | refine VrN.norm (wrap_i64 (by omega)) ?_ | refine VrN.keep ?_ | refine DrawN.calm (by decide +kernel) ?_ | refine Nd.mk (by decide +kernel) ?_ | refine Nd.mk (by omega) ?_ | refine RdN.intro _ rfl (by rfl) ?_); (conv => whnf))))
 refine LdN.agg (a := some ⟨cb, 0, none⟩) (q := 0) (cellC ⟨p.c, some ⟨nb2, 0, none⟩, nc2, some ⟨ib2, 0, none⟩, ic2⟩) rfl (fun w hw => hw.2.1) rfl (fun q hq => by rw [Nat.zero_add]) ?_
 ((conv => whnf); (repeat ((first | refine VrN.norm (wrap_i64 (by omega)) ?_ | refine VrN.keep ?_ | refine DrawN.calm (by decide +kernel) ?_ | refine Nd.mk (by decide +kernel) ?_ | refine Nd.mk (by omega) ?_ | refine RdN.intro _ rfl (by rfl) ?_); (conv => whnf))))
 exact ⟨(nb2, nc2, ib2, ic2), ⟨by show p.c.names.length ≤ nc2; omega, by show p.c.items.length ≤ ic2; omega⟩, rfl, trivial, trivial, trivial, wkE_refl _, wkE_refl _, trivial⟩
end Go.Proofs.YtgogonnnojcioaaGreatDoor
namespace Go.Proofs.YtgogonnnojcioaaGreatDoor
open Go.AX Go.RowKit Go.Core
set_option maxRecDepth 20000
end Go.Proofs.YtgogonnnojcioaaGreatDoor
namespace Go.Core
end Go.Core
namespace Go.Proofs.YtgogonnnojcioaaGreatDoor
open Go.AX Go.RowKit Go.Core
set_option maxRecDepth 20000
end Go.Proofs.YtgogonnnojcioaaGreatDoor
namespace Go.Core
theorem text_full (lf : Cell → List UInt8) (g : List Cell) (u : Int) : Go.Proofs.YtgogonnnojcioaaGreatDoor.textP lf g u = (fullL lf g u).take 20000 := by
 unfold Go.Proofs.YtgogonnnojcioaaGreatDoor.textP fullL
 have h := write_full (M := 20000) (leafT := lf) (g := g) (g.length + 2) [] [] u
 rw [h, List.nil_append]
end Go.Core
namespace Go.Core
open Go.Proofs.YtgogonnnojcioaaGreatDoor
end Go.Core
namespace Go.Proofs.YtgogonnnojcioaaGreatDoor
open Go.AX Go.RowKit Go.Core
set_option maxRecDepth 20000
end Go.Proofs.YtgogonnnojcioaaGreatDoor
namespace Go.Marshal
open Go.Core
def gR (R : Except Int (List Cell × List B)) : List Cell := match R with
 | .ok p => p.1
 | .error _ => []
end Go.Marshal
namespace Go.Proofs.YtgogonnnojcioaaGreatDoor
open Go.AX Go.RowKit Go.Core Go.Marshal
set_option maxRecDepth 20000
theorem LoadR.uni {R : Except Int (List Cell × List (List UInt8))} {v : Value} {G : World → Prop} (h : LoadR R v G) : ∃ (a : Option Addr) (c : Nat) (m : List CellP), v = .tuple #[.slice a m.length c, .int .i64 (errS R)] ∧ m.map (·.c) = gR R ∧ (a = none → m = []) ∧ (∀ q ∈ m, CellOk q) ∧ ∀ w, G w → GrF a m w := by
 cases R with
 | error e => exact ⟨none, 0, [], h, rfl, fun _ => rfl, (fun q hq => by cases hq), fun w _ => ⟨slAt_nil w, fun q hq => by cases hq⟩⟩
 | ok p =>
  obtain ⟨g, ss⟩ := p
  obtain ⟨v1, rfl, a, c, m, rfl, h2, h3, h4, h5⟩ := h
  exact ⟨a, c, m, rfl, h2, h3, h4, h5⟩
end Go.Proofs.YtgogonnnojcioaaGreatDoor
namespace Go.Marshal
open Go.Core
structure Tiny (g : List Cell) : Prop where
 valid : ValidP g
 len : g.length ≤ 12
 cell : ∀ c ∈ g, c.items.length ≤ 4 ∧ c.names.length ≤ 2 ∧ c.text.length ≤ 2
theorem Tiny.dmp {g : List Cell} (h : Tiny g) {k : Int} (hk : InI g k) : Dmp g 60 k :=
 ⟨h.valid, fun c hc => by have := h.cell c hc; omega, hk⟩
theorem Tiny.dump_len {g : List Cell} (h : Tiny g) {k : Int} (hk : InI g k) : (dumpS g k).length ≤ 5000 ∧ 3 ≤ (dumpS g k).length := by
 have hd := h.dmp hk
 have hin := valid_in h.valid
 have h4 := write_len hin hd.cellW (by decide) (g.length + 1) ⟨headB, [], []⟩ k hk hd.few
 have h5 : wgt iN g [] ≤ g.length * 6 := wgt_le (fun i hi => by
  have := h.cell _ (at_mem hi)
  unfold iN
  omega) []
 have h6 := h.len
 have h7 : (dumpS g k).length + 60 * wgt iN g (writeF g (g.length + 1) ⟨headB, [], []⟩ k).cells ≤ 3 + 60 * wgt iN g [] + 60 := h4
 obtain ⟨b, e, hb⟩ := back_write h.valid.1 hin hd.cellW (g.length + 1) ⟨headB, [], []⟩ k hk ⟨List.nodup_nil, (fun _ h => by cases h), fun _ h => by cases h⟩ (Nat.lt_succ_of_le (free_le g [])) hd.few
 have e2 : dumpS g k = headB ++ b := e
 refine ⟨by omega, ?_⟩
 rw [e2, List.length_append]
 show 3 ≤ 3 + _
 omega
theorem Tiny.load {g : List Cell} (h : Tiny g) {k : Int} (hk : InI g k) :
  ∃ (q : List Cell) (org cs : List Int), loadS (dumpS g k) = .ok (q, (doneW g k).ss) ∧ Img g q k org ∧ q.length ≤ 1 + wgt iT g [] ∧ (∀ i, i ∈ cs ↔ InI q i ∧ shared (Core.at_ q i)) ∧ cs.Nodup ∧ cs.map (lk org) = (doneW g k).cells := by
 have hd := h.dmp hk
 have h5 : wgt iT g [] ≤ g.length * 4 := wgt_le (fun i hi => by
  have := h.cell _ (at_mem hi)
  unfold iT
  omega) []
 have h6 := h.len
 rcases load_dump hd with ⟨h1, _⟩ | ⟨h1, _⟩ | h1
 ·have := (h.dump_len hk).1
  omega
 ·omega
 ·obtain ⟨q, org, cs, e, hi, hl, hr⟩ := h1
  have hv : ValidP q := valid_img h.valid hi (by omega)
  rw [if_pos hv] at e
  exact ⟨q, org, cs, e, hi, hl, hr⟩
end Go.Marshal
namespace Go.Proofs.YtgogonnnojcioaaGreatDoor
open Go.AX Go.RowKit Go.Core Go.Marshal
set_option maxRecDepth 20000
theorem tmod_n {X : Int} {n : Nat} (hX : 0 ≤ X ∧ X < 18446744073709551616) (hn : 0 < n) (h500 : n ≤ 20000) : ∃ k : Nat, k < n ∧ IntKind.i64.wrap (X.tmod (IntKind.u64.wrap (n : Int))) = (k : Int) := by
 have hwl : IntKind.u64.wrap (n : Int) = (n : Int) := wrap_u64 (by omega)
 rw [hwl, Int.tmod_eq_emod_of_nonneg hX.1]
 have h1 : 0 ≤ X % (n : Int) := Int.emod_nonneg _ (by omega)
 have h2 : X % (n : Int) < n := Int.emod_lt_of_pos _ (by omega)
 exact ⟨(X % (n : Int)).toNat, by omega, by rw [wrap_i64 (by omega)]; omega⟩
theorem u64_in (u : Int) : 0 ≤ IntKind.u64.wrap u ∧ IntKind.u64.wrap u < 18446744073709551616 := by rw [wrap_u64_eq]; omega
end Go.Proofs.YtgogonnnojcioaaGreatDoor
namespace Go.Proofs.YtgogonnnojcioaaGreatDoor
open Go.AX Go.RowKit Go.Core Go.Scan
set_option maxRecDepth 20000
structure REnv (a : Option Addr) (l : List CellP) : Prop where
 ha : a = none → l = []
 sm : Small l
 ok : ∀ p ∈ l, CellOk p
 val : ValidP (l.map (·.c))
 i : ∀ p ∈ l, p.c.kind = 3 → ∀ H, (∀ w, Facts H w → TabF w) → SpecH Tryz.prog 66 (pvs [.int .i64 p.c.num]) H (Ret (.string (bs (itL p.c.num))) H)
theorem REnv.short {a : Option Addr} {l : List CellP} (V : REnv a l) : Short (leafS qL itL) (l.map (·.c)) :=
 valid_short V.val (fun c hc => by
  obtain ⟨p, hp, rfl⟩ := List.mem_map.1 hc
  exact (V.sm.2 p hp).2) qL_le itL_le
theorem renv {a : Option Addr} {l : List CellP} (ha : a = none → l = []) (hs : Small l) (hok : ∀ p ∈ l, CellOk p) (hv : ValidP (l.map (·.c))) : REnv a l :=
 ⟨ha, hs, hok, hv, fun p hp h3 H hH => Itoa_c _ (cellD_num (hv.2.1 _ (List.mem_map_of_mem hp)) h3) H hH⟩
section
attribute [local irreducible] Int.decLt
set_option maxHeartbeats 4000000 in
theorem written_r {a : Option Addr} (ca : Nat) {l : List CellP} (V : REnv a l) : ∀ (n : Nat) (out : List UInt8) (ub : Option Addr) (uc : Nat) (way : List Int) (u : Nat), u < l.length → (ub = none → way = []) → way.Nodup → (∀ x ∈ way, 0 ≤ x ∧ x < (l.length : Int)) → l.length + 1 ≤ n + way.length → n ≤ 2000 → out.length ≤ 100000 →
  ∀ H, (∀ w, Facts H w → gF a l TabF w ∧ SlAt ub (way.length * 1) (iC way) w) → SpecH Tryz.prog 43 (pvs [.string (bs out), .slice a l.length ca, .int .i64 u, .slice ub way.length uc]) H (Ret (.string (bs (docS 20000 (leafS qL itL) (l.map (·.c)) n out way u))) H) := by
 intro n
 induction n with
 | zero =>
  intro out ub uc way u hu hub hw hr hn
  have := way_le hw hr
  omega
 | succ m ih =>
  intro out ub uc way u hu hub hw hr hn hn2 ho
  obtain ⟨p, hp⟩ : ∃ p, l[u]? = some p := ⟨_, List.getElem?_eq_getElem hu⟩
  have hpm := List.mem_of_getElem? hp
  have hpo := V.ok p hpm
  have hvc := V.val.2.1 _ (List.mem_map_of_mem hpm)
  have hkk := cellD_kind hvc
  have htl := cellD_text hvc
  have hnn := cellD_names hvc
  have hll := cellD_lens hvc
  have hps := V.sm.2 p hpm
  have hsh := V.short
  have hwl := way_le hw hr
  have hl500 := V.val.1
  rw [List.length_map] at hl500
  have hat : at_ (l.map (·.c)) (u : Int) = p.c := by
   unfold at_
   rw [Int.toNat_natCast, List.getD_eq_getElem?_getD, List.getElem?_map, hp]
   rfl
  have hsa : a.isSome = true := by
   cases a with
   | none => rw [V.ha rfl] at hu; exact absurd hu (Nat.not_lt_zero _)
   | some b => rfl
  have hit := V.i p hpm
  have hrange : ∀ x ∈ p.c.items, 0 ≤ x ∧ x < (l.length : Int) := by
   have h1 := hvc
   unfold cellD rangeB at h1
   simp only [Bool.and_eq_true] at h1
   intro x hx
   have := List.all_eq_true.1 h1.1.1 x hx
   simp only [List.length_map, Bool.and_eq_true, decide_eq_true_eq] at this
   omega
  obtain ⟨⟨kind, num, text, names, items⟩, na, nc, ia, ic⟩ := p
  simp only at hkk htl hnn hll hps hat hit hrange
  obtain rfl | rfl | rfl | rfl | rfl | rfl | rfl | rfl | rfl : kind = 0 ∨ kind = 1 ∨ kind = 2 ∨ kind = 3 ∨ kind = 4 ∨ kind = 5 ∨ kind = 6 ∨ kind = 7 ∨ kind = 8 := by omega
  ·-- 0: the kind, [110, 105, 108]: the text
   rw [docS_leaf hat rfl]
   refine factC hm Tryz.func43 (by kernel_rfl) rfl rfl ?_
   refine wX ?_
   refine Nd.mk ⟨hsa, by omega, by omega⟩ ?_
   refine wX ?_
   refine LdN.agg [.int .i64 0, .int .i64 num, .string (bs text), .slice na names.length nc, .slice ia items.length ic] rfl (fun w hw => hw.1.1.1.1) rfl (fun k hk => by rw [Int.toNat_natCast]; exact grC_get l u k hk hp) ?_
   refine wX ?_
   refine Nd.mk (by rw [bs_size]; show _ + ([110, 105, 108] : List UInt8).length < _; simp; omega) ?_
   rw [show (⟨#[110, 105, 108]⟩ : ByteArray) = bs [110, 105, 108] from rfl, bs_app]
   refine wX ?_
   rfl
  ·-- 1: the kind, [116, 114, 117, 101]: the text
   rw [docS_leaf hat rfl]
   refine factC hm Tryz.func43 (by kernel_rfl) rfl rfl ?_
   refine wX ?_
   refine Nd.mk ⟨hsa, by omega, by omega⟩ ?_
   refine wX ?_
   refine LdN.agg [.int .i64 1, .int .i64 num, .string (bs text), .slice na names.length nc, .slice ia items.length ic] rfl (fun w hw => hw.1.1.1.1) rfl (fun k hk => by rw [Int.toNat_natCast]; exact grC_get l u k hk hp) ?_
   refine wX ?_
   refine Nd.mk (by rw [bs_size]; show _ + ([116, 114, 117, 101] : List UInt8).length < _; simp; omega) ?_
   rw [show (⟨#[116, 114, 117, 101]⟩ : ByteArray) = bs [116, 114, 117, 101] from rfl, bs_app]
   refine wX ?_
   rfl
  ·-- 2: the kind, [102, 97, 108, 115, 101]: the text
   rw [docS_leaf hat rfl]
   refine factC hm Tryz.func43 (by kernel_rfl) rfl rfl ?_
   refine wX ?_
   refine Nd.mk ⟨hsa, by omega, by omega⟩ ?_
   refine wX ?_
   refine LdN.agg [.int .i64 2, .int .i64 num, .string (bs text), .slice na names.length nc, .slice ia items.length ic] rfl (fun w hw => hw.1.1.1.1) rfl (fun k hk => by rw [Int.toNat_natCast]; exact grC_get l u k hk hp) ?_
   refine wX ?_
   refine Nd.mk (by rw [bs_size]; show _ + ([102, 97, 108, 115, 101] : List UInt8).length < _; simp; omega) ?_
   rw [show (⟨#[102, 97, 108, 115, 101]⟩ : ByteArray) = bs [102, 97, 108, 115, 101] from rfl, bs_app]
   refine wX ?_
   rfl
  ·rw [docS_leaf hat rfl]
   refine factC hm Tryz.func43 (by kernel_rfl) rfl rfl ?_
   refine wX ?_
   refine Nd.mk ⟨hsa, by omega, by omega⟩ ?_
   refine wX ?_
   refine LdN.agg [.int .i64 3, .int .i64 num, .string (bs text), .slice na names.length nc, .slice ia items.length ic] rfl (fun w hw => hw.1.1.1.1) rfl (fun k hk => by rw [Int.toNat_natCast]; exact grC_get l u k hk hp) ?_
   refine wX ?_
   refine call1 (hit rfl _ (fun w hw => hw.1.1.2)) ?_
   refine wX ?_
   have := itL_le num
   refine Nd.mk (by rw [bs_size, bs_size]; omega) ?_
   rw [bs_app]
   refine wX ?_
   rfl
  ·rw [docS_leaf hat rfl]
   refine factC hm Tryz.func43 (by kernel_rfl) rfl rfl ?_
   refine wX ?_
   refine Nd.mk ⟨hsa, by omega, by omega⟩ ?_
   refine wX ?_
   refine LdN.agg [.int .i64 4, .int .i64 num, .string (bs text), .slice na names.length nc, .slice ia items.length ic] rfl (fun w hw => hw.1.1.1.1) rfl (fun k hk => by rw [Int.toNat_natCast]; exact grC_get l u k hk hp) ?_
   refine wX ?_
   refine Nd.mk (by rw [bs_size]; show _ + ([34] : List UInt8).length < _; simp; omega) ?_
   rw [show (⟨#[34]⟩ : ByteArray) = bs [34] from rfl, bs_app]
   refine wX ?_
   refine call1 (RQuote_c text (by omega) _) ?_
   refine wX ?_
   have := qL_le text
   rw [show text.flatMap qt = qL text from rfl]
   refine Nd.mk (by rw [bs_size, bs_size]; simp; omega) ?_
   rw [bs_app]
   refine wX ?_
   refine Nd.mk (by rw [bs_size]; show _ + ([34] : List UInt8).length < _; simp; omega) ?_
   rw [bs_app]
   refine wX ?_
   rw [show leafS qL itL ⟨4, num, text, names, items⟩ = [34] ++ qL text ++ [34] from rfl]
   simp only [List.append_assoc]
  ·rw [docS_leaf hat rfl]
   refine factC hm Tryz.func43 (by kernel_rfl) rfl rfl ?_
   refine wX ?_
   refine Nd.mk ⟨hsa, by omega, by omega⟩ ?_
   refine wX ?_
   refine LdN.agg [.int .i64 5, .int .i64 num, .string (bs text), .slice na names.length nc, .slice ia items.length ic] rfl (fun w hw => hw.1.1.1.1) rfl (fun k hk => by rw [Int.toNat_natCast]; exact grC_get l u k hk hp) ?_
   refine wX ?_
   refine Nd.mk (by rw [bs_size]; show _ + ([58] : List UInt8).length < _; simp; omega) ?_
   rw [show (⟨#[58]⟩ : ByteArray) = bs [58] from rfl, bs_app]
   refine wX ?_
   refine Nd.mk (by rw [bs_size, bs_size]; simp; omega) ?_
   rw [bs_app]
   refine wX ?_
   rw [show leafS qL itL ⟨5, num, text, names, items⟩ = [58] ++ text from rfl, List.append_assoc]
  ·-- 6: the kind
   rw [docS_in hat (fun h => absurd (of_decide_eq_true h) (by show ¬ (6 : Int) ≤ 5; decide))]
   refine factC hm Tryz.func43 (by kernel_rfl) rfl rfl ?_
   refine wX ?_
   refine Nd.mk ⟨hsa, by omega, by omega⟩ ?_
   refine wX ?_
   refine LdN.agg [.int .i64 6, .int .i64 num, .string (bs text), .slice na names.length nc, .slice ia items.length ic] rfl (fun w hw => hw.1.1.1.1) rfl (fun k hk => by rw [Int.toNat_natCast]; exact grC_get l u k hk hp) ?_
   refine wX ?_
   refine call1 (parts_c0 6 num text names items na nc ia ic (by omega) htl _) ?_
   refine wX ?_
   refine call1 (rHas_c ub uc way u hub (by omega) _ (fun w hw => hw.1.2)) ?_
   cases hun : decide ((u : Int) ∈ way) with
   | true =>
    rw [if_pos (of_decide_eq_true hun)]
    refine wX ?_
    refine Nd.mk (by rw [bs_size, bs_size]; have := within_le htl num names items 6; omega) ?_
    rw [bs_app]
    exact wZ
   | false =>
   rw [if_neg (of_decide_eq_false hun)]
   refine wXR ?_
   refine RwN.known [] rfl fun nb => ?_
   refine wXR ?_
   refine app_any 2 [] (iC way) rfl (Nat.le_refl _) (fun h => by cases hq : ub with | none => rw [hub hq] at h; cases h | some b => rfl) (by show (iC way).length = way.length * 1; simp [iC]) (fun u hu => by obtain ⟨x, _, rfl⟩ := List.mem_map.1 hu; rfl) (fun w hw j v hv => hw.1.2.cell hv) ⟨⟨by show (0 + way.length) * 8 ≤ _; omega, by omega⟩, Nat.one_ne_zero⟩ fun wb wc hwc => ?_
   rw [Nat.zero_add, List.nil_append]
   refine wXR ?_
   refine RwN.own ?_
   refine wX ?_
   try refine Nd.mk ⟨Nat.le_refl 1, rfl, rfl⟩ ?_
   (conv => whnf)
   refine AppN.grow 2 (iC way) [.int .i64 (u : Int)] rfl rfl ⟨Nat.le_refl 1, ⟨by show (way.length + 1) * 8 ≤ _; omega, by omega⟩, Nat.one_ne_zero⟩ fun wb2 wc2 hwc2 _ => ?_
   obtain ⟨way2, hway2⟩ : ∃ w2, w2 = way ++ [(u : Int)] := ⟨_, rfl⟩
   have hcl : iC way ++ [.int .i64 (u : Int)] = iC way2 := by rw [hway2]; simp [iC]
   have hwl2 : way.length + 1 = way2.length := by rw [hway2]; simp
   rw [hcl, hwl2]
   refine wXR ?_
   have hfl : (firstD (Cell.mk 6 num text names items)).length ≤ 2003 := by have := first_le hsh (u : Int); rw [hat] at this; exact this
   refine Nd.mk (by rw [bs_size, bs_size]; omega) ?_
   rw [bs_app]
   refine wX ?_
   rw [← hway2]
   have hnd2 : way2.Nodup := by
    rw [hway2]
    exact List.nodup_append.2 ⟨hw, by simp, fun x hx y hy => by
     rw [List.mem_singleton.1 hy]
     intro e
     subst e
     exact of_decide_eq_false hun hx⟩
   have hr2 : ∀ x ∈ way2, 0 ≤ x ∧ x < (l.length : Int) := fun x hx => by
    rw [hway2] at hx
    rcases List.mem_append.1 hx with hx | hx
    ·exact hr x hx
    ·rw [List.mem_singleton.1 hx]; omega
   obtain ⟨ff, hff⟩ : ∃ ff, ff = fun o k => docS 20000 (leafS qL itL) (l.map (·.c)) m o way2 k := ⟨_, rfl⟩
   rw [← hff]
   have hfx : ∀ o x, ff o x = docS 20000 (leafS qL itL) (l.map (·.c)) m o way2 x := fun o x => by rw [hff]
   have hpre : ∀ i, (preD (Cell.mk 6 num text names items) i).length ≤ 50 := fun i => by
    have := preD_le hsh (u : Int) i
    rw [hat] at this
    exact this
   obtain ⟨T, hT⟩ : ∃ T, T = foldD 20000 ff (preD (Cell.mk 6 num text names items)) 0 items (out ++ firstD (Cell.mk 6 num text names items)) := ⟨_, rfl⟩
   rw [← hT]
   refine loopS (Nat × List UInt8) (fun ⟨k, o⟩ => k ≤ items.length ∧ o.length ≤ 1000000000 ∧ foldD 20000 ff (preD (Cell.mk 6 num text names items)) k (items.drop k) o = T)
    (fun ⟨k, o⟩ => mkS Tryz.f43.ntmps 0 [(0, .c (.v (.string (bs o)))), (1, .c (.v (.slice a l.length ca))), (3, .c (.v (.slice (some ⟨wb2, 0, none⟩) way2.length wc2))), (8, .c (.v (.string ⟨#[]⟩))), (9, .c (.lp 1 0)), (11, .c (.v (.string (bs (backT (Cell.mk 6 num text names items)))))), (13, .c (.v (.int .i64 (k : Int))))]) (fun ⟨k, _⟩ => items.length - k) rfl (fun _ => rfl) (0, out ++ firstD (Cell.mk 6 num text names items)) ⟨Nat.zero_le _, by rw [List.length_append]; omega, hT.symm⟩ ?_ ?_
   ·exact wKK
   rintro ⟨k, o⟩ ⟨hk, hob, hfo⟩
   refine wX ?_
   refine brd_dec (fun h1 => ?_) (fun h1 => ?_)
   rotate_left
   ·-- 6: the kind
    have hend := foldD_end (f := ff) (pre := preD (Cell.mk 6 num text names items)) (l := items) (k := k) (out := o) (M := 20000) (by omega)
    rw [hfo] at hend
    subst hend
    refine wX ?_
    have hbl := back_le (Cell.mk 6 num text names items)
    refine Nd.mk (by rw [bs_size, bs_size]; omega) ?_
    rw [bs_app]
    exact wZ
   refine wX ?_
   rw [bs_size]
   refine brd_dec (fun h2 => ?_) (fun h2 => ?_)
   rotate_left
   ·-- 6: the kind
    have hend := foldD_end (f := ff) (pre := preD (Cell.mk 6 num text names items)) (l := items) (k := k) (out := o) (M := 20000) (by omega)
    rw [hfo] at hend
    subst hend
    refine wX ?_
    have hbl := back_le (Cell.mk 6 num text names items)
    refine Nd.mk (by rw [bs_size, bs_size]; omega) ?_
    rw [bs_app]
    exact wZ
   have hk1 : k < items.length := by omega
   have ho2 : o.length < 20000 := by omega
   obtain ⟨x, hx⟩ : ∃ x, items[k]? = some x := ⟨_, List.getElem?_eq_getElem hk1⟩
   have hxr := hrange x (List.mem_of_getElem? hx)
   obtain ⟨xn, rfl⟩ : ∃ xn : Nat, x = (xn : Int) := ⟨x.toNat, by omega⟩
   have hisa : ia.isSome = true := by
    cases ia with
    | none => have := hpo.ia rfl; simp only at this; rw [this] at hk1; exact absurd hk1 (Nat.not_lt_zero _)
    | some b => rfl
   have hstep := foldD_at (f := ff) (pre := preD (Cell.mk 6 num text names items)) hx ho2
   rw [hfo] at hstep
   refine wX ?_
   refine brd_dec (fun h3 => ?_) (fun h3 => ?_)
   ·refine wX ?_
    refine Nd.mk (by rw [bs_size]; show _ + ([44, 32] : List UInt8).length < _; simp; omega) ?_
    rw [show (⟨#[44, 32]⟩ : ByteArray) = bs [44, 32] from rfl, bs_app]
    refine wX ?_
    refine Nd.mk ⟨hisa, by omega, by omega⟩ ?_
    refine wX ?_
    refine LdN.one (.int .i64 (xn : Int)) rfl (fun w hw => (hw.1.1.1.2 _ hpm).2) (by rw [Int.toNat_natCast]; show (iC items)[k * 1]? = _; rw [Nat.mul_one]; exact iC_get hx) ?_
    refine wX ?_
    refine call1 (ih (o ++ [44, 32]) (some ⟨wb2, 0, none⟩) wc2 way2 xn (by omega) (fun h => by cases h) hnd2 hr2 (by omega) (by omega) (by first | omega | (simp only [List.length_append, List.length_cons, List.length_nil]; omega)) _ (fun w hw => ⟨hw.1.1, hw.2.1⟩)) ?_
    refine wX ?_
    rw [show o ++ preD (Cell.mk 6 num text names items) k = o ++ [44, 32] from (by rw [preD_6 rfl, if_pos (by omega)]), hfx] at hstep
    refine ⟨(k + 1, docS 20000 (leafS qL itL) (l.map (·.c)) m (o ++ [44, 32]) way2 xn), ⟨by omega, ?_, hstep.symm⟩, by show items.length - (k + 1) < items.length - k; omega, ?_, wHH⟩
    ·have := doc_len (M := 20000) hsh m (o ++ [44, 32]) way2 xn
     have h3 : (o ++ [44, 32]).length ≤ 20100 := by first | omega | (simp only [List.length_append, List.length_cons, List.length_nil]; omega)
     show (docS _ _ _ _ _ _ _).length ≤ _
     omega
    ·(repeat' (first | exact trivial | refine And.intro (by with_reducible rfl) ?_ | (with_reducible exact wkC_refl _) | (with_reducible exact wkCs_refl _) | refine And.intro ?_ ?_))
     all_goals first | rfl | exact av_int (by rw [wrap_i64 (by omega)]; omega) | exact av_int (by omega)
   ·refine wX ?_
    refine Nd.mk ⟨hisa, by omega, by omega⟩ ?_
    refine wX ?_
    refine LdN.one (.int .i64 (xn : Int)) rfl (fun w hw => (hw.1.1.1.2 _ hpm).2) (by rw [Int.toNat_natCast]; show (iC items)[k * 1]? = _; rw [Nat.mul_one]; exact iC_get hx) ?_
    refine wX ?_
    refine call1 (ih (o) (some ⟨wb2, 0, none⟩) wc2 way2 xn (by omega) (fun h => by cases h) hnd2 hr2 (by omega) (by omega) (by first | omega | (simp only [List.length_append, List.length_cons, List.length_nil]; omega)) _ (fun w hw => ⟨hw.1.1, hw.2.1⟩)) ?_
    refine wX ?_
    rw [show o ++ preD (Cell.mk 6 num text names items) k = o from (by rw [preD_6 rfl, if_neg (by omega), List.append_nil]), hfx] at hstep
    refine ⟨(k + 1, docS 20000 (leafS qL itL) (l.map (·.c)) m (o) way2 xn), ⟨by omega, ?_, hstep.symm⟩, by show items.length - (k + 1) < items.length - k; omega, ?_, wHH⟩
    ·have := doc_len (M := 20000) hsh m (o) way2 xn
     have h3 : (o).length ≤ 20100 := by first | omega | (simp only [List.length_append, List.length_cons, List.length_nil]; omega)
     show (docS _ _ _ _ _ _ _).length ≤ _
     omega
    ·(repeat' (first | exact trivial | refine And.intro (by with_reducible rfl) ?_ | (with_reducible exact wkC_refl _) | (with_reducible exact wkCs_refl _) | refine And.intro ?_ ?_))
     all_goals first | rfl | exact av_int (by rw [wrap_i64 (by omega)]; omega) | exact av_int (by omega)
  ·-- 7: the kind
   rw [docS_in hat (fun h => absurd (of_decide_eq_true h) (by show ¬ (7 : Int) ≤ 5; decide))]
   refine factC hm Tryz.func43 (by kernel_rfl) rfl rfl ?_
   refine wX ?_
   refine Nd.mk ⟨hsa, by omega, by omega⟩ ?_
   refine wX ?_
   refine LdN.agg [.int .i64 7, .int .i64 num, .string (bs text), .slice na names.length nc, .slice ia items.length ic] rfl (fun w hw => hw.1.1.1.1) rfl (fun k hk => by rw [Int.toNat_natCast]; exact grC_get l u k hk hp) ?_
   refine wX ?_
   refine call1 (parts_c0 7 num text names items na nc ia ic (by omega) htl _) ?_
   refine wX ?_
   refine call1 (rHas_c ub uc way u hub (by omega) _ (fun w hw => hw.1.2)) ?_
   cases hun : decide ((u : Int) ∈ way) with
   | true =>
    rw [if_pos (of_decide_eq_true hun)]
    refine wX ?_
    refine Nd.mk (by rw [bs_size, bs_size]; have := within_le htl num names items 7; omega) ?_
    rw [bs_app]
    exact wZ
   | false =>
   rw [if_neg (of_decide_eq_false hun)]
   refine wXR ?_
   refine RwN.known [] rfl fun nb => ?_
   refine wXR ?_
   refine app_any 2 [] (iC way) rfl (Nat.le_refl _) (fun h => by cases hq : ub with | none => rw [hub hq] at h; cases h | some b => rfl) (by show (iC way).length = way.length * 1; simp [iC]) (fun u hu => by obtain ⟨x, _, rfl⟩ := List.mem_map.1 hu; rfl) (fun w hw j v hv => hw.1.2.cell hv) ⟨⟨by show (0 + way.length) * 8 ≤ _; omega, by omega⟩, Nat.one_ne_zero⟩ fun wb wc hwc => ?_
   rw [Nat.zero_add, List.nil_append]
   refine wXR ?_
   refine RwN.own ?_
   refine wX ?_
   try refine Nd.mk ⟨Nat.le_refl 1, rfl, rfl⟩ ?_
   (conv => whnf)
   refine AppN.grow 2 (iC way) [.int .i64 (u : Int)] rfl rfl ⟨Nat.le_refl 1, ⟨by show (way.length + 1) * 8 ≤ _; omega, by omega⟩, Nat.one_ne_zero⟩ fun wb2 wc2 hwc2 _ => ?_
   obtain ⟨way2, hway2⟩ : ∃ w2, w2 = way ++ [(u : Int)] := ⟨_, rfl⟩
   have hcl : iC way ++ [.int .i64 (u : Int)] = iC way2 := by rw [hway2]; simp [iC]
   have hwl2 : way.length + 1 = way2.length := by rw [hway2]; simp
   rw [hcl, hwl2]
   refine wXR ?_
   have hfl : (firstD (Cell.mk 7 num text names items)).length ≤ 2003 := by have := first_le hsh (u : Int); rw [hat] at this; exact this
   refine Nd.mk (by rw [bs_size, bs_size]; omega) ?_
   rw [bs_app]
   refine wX ?_
   rw [← hway2]
   have hnd2 : way2.Nodup := by
    rw [hway2]
    exact List.nodup_append.2 ⟨hw, by simp, fun x hx y hy => by
     rw [List.mem_singleton.1 hy]
     intro e
     subst e
     exact of_decide_eq_false hun hx⟩
   have hr2 : ∀ x ∈ way2, 0 ≤ x ∧ x < (l.length : Int) := fun x hx => by
    rw [hway2] at hx
    rcases List.mem_append.1 hx with hx | hx
    ·exact hr x hx
    ·rw [List.mem_singleton.1 hx]; omega
   obtain ⟨ff, hff⟩ : ∃ ff, ff = fun o k => docS 20000 (leafS qL itL) (l.map (·.c)) m o way2 k := ⟨_, rfl⟩
   rw [← hff]
   have hfx : ∀ o x, ff o x = docS 20000 (leafS qL itL) (l.map (·.c)) m o way2 x := fun o x => by rw [hff]
   have hpre : ∀ i, (preD (Cell.mk 7 num text names items) i).length ≤ 50 := fun i => by
    have := preD_le hsh (u : Int) i
    rw [hat] at this
    exact this
   obtain ⟨T, hT⟩ : ∃ T, T = foldD 20000 ff (preD (Cell.mk 7 num text names items)) 0 items (out ++ firstD (Cell.mk 7 num text names items)) := ⟨_, rfl⟩
   rw [← hT]
   refine loopS (Nat × List UInt8) (fun ⟨k, o⟩ => k ≤ items.length ∧ o.length ≤ 1000000000 ∧ foldD 20000 ff (preD (Cell.mk 7 num text names items)) k (items.drop k) o = T)
    (fun ⟨k, o⟩ => mkS Tryz.f43.ntmps 0 [(0, .c (.v (.string (bs o)))), (1, .c (.v (.slice a l.length ca))), (3, .c (.v (.slice (some ⟨wb2, 0, none⟩) way2.length wc2))), (8, .c (.v (.string ⟨#[]⟩))), (9, .c (.lp 1 0)), (11, .c (.v (.string (bs (backT (Cell.mk 7 num text names items)))))), (13, .c (.v (.int .i64 (k : Int))))]) (fun ⟨k, _⟩ => items.length - k) rfl (fun _ => rfl) (0, out ++ firstD (Cell.mk 7 num text names items)) ⟨Nat.zero_le _, by rw [List.length_append]; omega, hT.symm⟩ ?_ ?_
   ·exact wKK
   rintro ⟨k, o⟩ ⟨hk, hob, hfo⟩
   refine wX ?_
   refine brd_dec (fun h1 => ?_) (fun h1 => ?_)
   rotate_left
   ·-- 7: the kind
    have hend := foldD_end (f := ff) (pre := preD (Cell.mk 7 num text names items)) (l := items) (k := k) (out := o) (M := 20000) (by omega)
    rw [hfo] at hend
    subst hend
    refine wX ?_
    have hbl := back_le (Cell.mk 7 num text names items)
    refine Nd.mk (by rw [bs_size, bs_size]; omega) ?_
    rw [bs_app]
    exact wZ
   refine wX ?_
   rw [bs_size]
   refine brd_dec (fun h2 => ?_) (fun h2 => ?_)
   rotate_left
   ·-- 7: the kind
    have hend := foldD_end (f := ff) (pre := preD (Cell.mk 7 num text names items)) (l := items) (k := k) (out := o) (M := 20000) (by omega)
    rw [hfo] at hend
    subst hend
    refine wX ?_
    have hbl := back_le (Cell.mk 7 num text names items)
    refine Nd.mk (by rw [bs_size, bs_size]; omega) ?_
    rw [bs_app]
    exact wZ
   have hk1 : k < items.length := by omega
   have ho2 : o.length < 20000 := by omega
   obtain ⟨x, hx⟩ : ∃ x, items[k]? = some x := ⟨_, List.getElem?_eq_getElem hk1⟩
   have hxr := hrange x (List.mem_of_getElem? hx)
   obtain ⟨xn, rfl⟩ : ∃ xn : Nat, x = (xn : Int) := ⟨x.toNat, by omega⟩
   have hisa : ia.isSome = true := by
    cases ia with
    | none => have := hpo.ia rfl; simp only at this; rw [this] at hk1; exact absurd hk1 (Nat.not_lt_zero _)
    | some b => rfl
   have hstep := foldD_at (f := ff) (pre := preD (Cell.mk 7 num text names items)) hx ho2
   rw [hfo] at hstep
   refine wX ?_
   refine brd_eq (fun h3 => ?_) (fun h3 => ?_)
   ·rw [Int.tmod_eq_emod_of_nonneg (by omega)] at h3
    refine wX ?_
    refine Nd.mk (by rw [bs_size]; show _ + ([32, 61, 62, 32] : List UInt8).length < _; simp; omega) ?_
    rw [show (⟨#[32, 61, 62, 32]⟩ : ByteArray) = bs [32, 61, 62, 32] from rfl, bs_app]
    refine wX ?_
    refine Nd.mk ⟨hisa, by omega, by omega⟩ ?_
    refine wX ?_
    refine LdN.one (.int .i64 (xn : Int)) rfl (fun w hw => (hw.1.1.1.2 _ hpm).2) (by rw [Int.toNat_natCast]; show (iC items)[k * 1]? = _; rw [Nat.mul_one]; exact iC_get hx) ?_
    refine wX ?_
    refine call1 (ih (o ++ [32, 61, 62, 32]) (some ⟨wb2, 0, none⟩) wc2 way2 xn (by omega) (fun h => by cases h) hnd2 hr2 (by omega) (by omega) (by first | omega | (simp only [List.length_append, List.length_cons, List.length_nil]; omega)) _ (fun w hw => ⟨hw.1.1, hw.2.1⟩)) ?_
    refine wX ?_
    rw [show o ++ preD (Cell.mk 7 num text names items) k = o ++ [32, 61, 62, 32] from (by rw [preD_7 rfl, if_pos (by omega)]), hfx] at hstep
    refine ⟨(k + 1, docS 20000 (leafS qL itL) (l.map (·.c)) m (o ++ [32, 61, 62, 32]) way2 xn), ⟨by omega, ?_, hstep.symm⟩, by show items.length - (k + 1) < items.length - k; omega, ?_, wHH⟩
    ·have := doc_len (M := 20000) hsh m (o ++ [32, 61, 62, 32]) way2 xn
     have h3 : (o ++ [32, 61, 62, 32]).length ≤ 20100 := by first | omega | (simp only [List.length_append, List.length_cons, List.length_nil]; omega)
     show (docS _ _ _ _ _ _ _).length ≤ _
     omega
    ·(repeat' (first | exact trivial | refine And.intro (by with_reducible rfl) ?_ | (with_reducible exact wkC_refl _) | (with_reducible exact wkCs_refl _) | refine And.intro ?_ ?_))
     all_goals first | rfl | exact av_int (by rw [wrap_i64 (by omega)]; omega) | exact av_int (by omega)
   rw [Int.tmod_eq_emod_of_nonneg (by omega)] at h3
   refine wX ?_
   refine brd_dec (fun h4 => ?_) (fun h4 => ?_)
   ·refine wX ?_
    refine Nd.mk (by rw [bs_size]; show _ + ([44, 32] : List UInt8).length < _; simp; omega) ?_
    rw [show (⟨#[44, 32]⟩ : ByteArray) = bs [44, 32] from rfl, bs_app]
    refine wX ?_
    refine Nd.mk ⟨hisa, by omega, by omega⟩ ?_
    refine wX ?_
    refine LdN.one (.int .i64 (xn : Int)) rfl (fun w hw => (hw.1.1.1.2 _ hpm).2) (by rw [Int.toNat_natCast]; show (iC items)[k * 1]? = _; rw [Nat.mul_one]; exact iC_get hx) ?_
    refine wX ?_
    refine call1 (ih (o ++ [44, 32]) (some ⟨wb2, 0, none⟩) wc2 way2 xn (by omega) (fun h => by cases h) hnd2 hr2 (by omega) (by omega) (by first | omega | (simp only [List.length_append, List.length_cons, List.length_nil]; omega)) _ (fun w hw => ⟨hw.1.1, hw.2.1⟩)) ?_
    refine wX ?_
    rw [show o ++ preD (Cell.mk 7 num text names items) k = o ++ [44, 32] from (by rw [preD_7 rfl, if_neg (by omega), if_pos (by omega)]), hfx] at hstep
    refine ⟨(k + 1, docS 20000 (leafS qL itL) (l.map (·.c)) m (o ++ [44, 32]) way2 xn), ⟨by omega, ?_, hstep.symm⟩, by show items.length - (k + 1) < items.length - k; omega, ?_, wHH⟩
    ·have := doc_len (M := 20000) hsh m (o ++ [44, 32]) way2 xn
     have h3 : (o ++ [44, 32]).length ≤ 20100 := by first | omega | (simp only [List.length_append, List.length_cons, List.length_nil]; omega)
     show (docS _ _ _ _ _ _ _).length ≤ _
     omega
    ·(repeat' (first | exact trivial | refine And.intro (by with_reducible rfl) ?_ | (with_reducible exact wkC_refl _) | (with_reducible exact wkCs_refl _) | refine And.intro ?_ ?_))
     all_goals first | rfl | exact av_int (by rw [wrap_i64 (by omega)]; omega) | exact av_int (by omega)
   ·refine wX ?_
    refine Nd.mk ⟨hisa, by omega, by omega⟩ ?_
    refine wX ?_
    refine LdN.one (.int .i64 (xn : Int)) rfl (fun w hw => (hw.1.1.1.2 _ hpm).2) (by rw [Int.toNat_natCast]; show (iC items)[k * 1]? = _; rw [Nat.mul_one]; exact iC_get hx) ?_
    refine wX ?_
    refine call1 (ih (o) (some ⟨wb2, 0, none⟩) wc2 way2 xn (by omega) (fun h => by cases h) hnd2 hr2 (by omega) (by omega) (by first | omega | (simp only [List.length_append, List.length_cons, List.length_nil]; omega)) _ (fun w hw => ⟨hw.1.1, hw.2.1⟩)) ?_
    refine wX ?_
    rw [show o ++ preD (Cell.mk 7 num text names items) k = o from (by rw [preD_7 rfl, if_neg (by omega), if_neg (by omega), List.append_nil]), hfx] at hstep
    refine ⟨(k + 1, docS 20000 (leafS qL itL) (l.map (·.c)) m (o) way2 xn), ⟨by omega, ?_, hstep.symm⟩, by show items.length - (k + 1) < items.length - k; omega, ?_, wHH⟩
    ·have := doc_len (M := 20000) hsh m (o) way2 xn
     have h3 : (o).length ≤ 20100 := by first | omega | (simp only [List.length_append, List.length_cons, List.length_nil]; omega)
     show (docS _ _ _ _ _ _ _).length ≤ _
     omega
    ·(repeat' (first | exact trivial | refine And.intro (by with_reducible rfl) ?_ | (with_reducible exact wkC_refl _) | (with_reducible exact wkCs_refl _) | refine And.intro ?_ ?_))
     all_goals first | rfl | exact av_int (by rw [wrap_i64 (by omega)]; omega) | exact av_int (by omega)
  ·-- 8: the kind
   rw [docS_in hat (fun h => absurd (of_decide_eq_true h) (by show ¬ (8 : Int) ≤ 5; decide))]
   refine factC hm Tryz.func43 (by kernel_rfl) rfl rfl ?_
   refine wX ?_
   refine Nd.mk ⟨hsa, by omega, by omega⟩ ?_
   refine wX ?_
   refine LdN.agg [.int .i64 8, .int .i64 num, .string (bs text), .slice na names.length nc, .slice ia items.length ic] rfl (fun w hw => hw.1.1.1.1) rfl (fun k hk => by rw [Int.toNat_natCast]; exact grC_get l u k hk hp) ?_
   refine wX ?_
   refine call1 (parts_c0 8 num text names items na nc ia ic (by omega) htl _) ?_
   refine wX ?_
   refine call1 (rHas_c ub uc way u hub (by omega) _ (fun w hw => hw.1.2)) ?_
   cases hun : decide ((u : Int) ∈ way) with
   | true =>
    rw [if_pos (of_decide_eq_true hun)]
    refine wX ?_
    refine Nd.mk (by rw [bs_size, bs_size]; have := within_le htl num names items 8; omega) ?_
    rw [bs_app]
    exact wZ
   | false =>
   rw [if_neg (of_decide_eq_false hun)]
   refine wXR ?_
   refine RwN.known [] rfl fun nb => ?_
   refine wXR ?_
   refine app_any 2 [] (iC way) rfl (Nat.le_refl _) (fun h => by cases hq : ub with | none => rw [hub hq] at h; cases h | some b => rfl) (by show (iC way).length = way.length * 1; simp [iC]) (fun u hu => by obtain ⟨x, _, rfl⟩ := List.mem_map.1 hu; rfl) (fun w hw j v hv => hw.1.2.cell hv) ⟨⟨by show (0 + way.length) * 8 ≤ _; omega, by omega⟩, Nat.one_ne_zero⟩ fun wb wc hwc => ?_
   rw [Nat.zero_add, List.nil_append]
   refine wXR ?_
   refine RwN.own ?_
   refine wX ?_
   try refine Nd.mk ⟨Nat.le_refl 1, rfl, rfl⟩ ?_
   (conv => whnf)
   refine AppN.grow 2 (iC way) [.int .i64 (u : Int)] rfl rfl ⟨Nat.le_refl 1, ⟨by show (way.length + 1) * 8 ≤ _; omega, by omega⟩, Nat.one_ne_zero⟩ fun wb2 wc2 hwc2 _ => ?_
   obtain ⟨way2, hway2⟩ : ∃ w2, w2 = way ++ [(u : Int)] := ⟨_, rfl⟩
   have hcl : iC way ++ [.int .i64 (u : Int)] = iC way2 := by rw [hway2]; simp [iC]
   have hwl2 : way.length + 1 = way2.length := by rw [hway2]; simp
   rw [hcl, hwl2]
   refine wXR ?_
   have hfl : (firstD (Cell.mk 8 num text names items)).length ≤ 2003 := by have := first_le hsh (u : Int); rw [hat] at this; exact this
   refine Nd.mk (by rw [bs_size, bs_size]; omega) ?_
   rw [bs_app]
   refine wX ?_
   rw [← hway2]
   have hnd2 : way2.Nodup := by
    rw [hway2]
    exact List.nodup_append.2 ⟨hw, by simp, fun x hx y hy => by
     rw [List.mem_singleton.1 hy]
     intro e
     subst e
     exact of_decide_eq_false hun hx⟩
   have hr2 : ∀ x ∈ way2, 0 ≤ x ∧ x < (l.length : Int) := fun x hx => by
    rw [hway2] at hx
    rcases List.mem_append.1 hx with hx | hx
    ·exact hr x hx
    ·rw [List.mem_singleton.1 hx]; omega
   obtain ⟨ff, hff⟩ : ∃ ff, ff = fun o k => docS 20000 (leafS qL itL) (l.map (·.c)) m o way2 k := ⟨_, rfl⟩
   rw [← hff]
   have hfx : ∀ o x, ff o x = docS 20000 (leafS qL itL) (l.map (·.c)) m o way2 x := fun o x => by rw [hff]
   have hpre : ∀ i, (preD (Cell.mk 8 num text names items) i).length ≤ 50 := fun i => by
    have := preD_le hsh (u : Int) i
    rw [hat] at this
    exact this
   obtain ⟨T, hT⟩ : ∃ T, T = foldD 20000 ff (preD (Cell.mk 8 num text names items)) 0 items (out ++ firstD (Cell.mk 8 num text names items)) := ⟨_, rfl⟩
   rw [← hT]
   refine loopS (Nat × List UInt8) (fun ⟨k, o⟩ => k ≤ items.length ∧ o.length ≤ 1000000000 ∧ foldD 20000 ff (preD (Cell.mk 8 num text names items)) k (items.drop k) o = T)
    (fun ⟨k, o⟩ => mkS Tryz.f43.ntmps 0 [(0, .c (.v (.string (bs o)))), (1, .c (.v (.slice a l.length ca))), (3, .c (.v (.slice (some ⟨wb2, 0, none⟩) way2.length wc2))), (8, .c (.v (.string ⟨#[]⟩))), (9, .c (.lp 1 0)), (11, .c (.v (.string (bs (backT (Cell.mk 8 num text names items)))))), (13, .c (.v (.int .i64 (k : Int))))]) (fun ⟨k, _⟩ => items.length - k) rfl (fun _ => rfl) (0, out ++ firstD (Cell.mk 8 num text names items)) ⟨Nat.zero_le _, by rw [List.length_append]; omega, hT.symm⟩ ?_ ?_
   ·exact wKK
   rintro ⟨k, o⟩ ⟨hk, hob, hfo⟩
   refine wX ?_
   refine brd_dec (fun h1 => ?_) (fun h1 => ?_)
   rotate_left
   ·-- 8: the kind
    have hend := foldD_end (f := ff) (pre := preD (Cell.mk 8 num text names items)) (l := items) (k := k) (out := o) (M := 20000) (by omega)
    rw [hfo] at hend
    subst hend
    refine wX ?_
    have hbl := back_le (Cell.mk 8 num text names items)
    refine Nd.mk (by rw [bs_size, bs_size]; omega) ?_
    rw [bs_app]
    exact wZ
   refine wX ?_
   rw [bs_size]
   refine brd_dec (fun h2 => ?_) (fun h2 => ?_)
   rotate_left
   ·-- 8: the kind
    have hend := foldD_end (f := ff) (pre := preD (Cell.mk 8 num text names items)) (l := items) (k := k) (out := o) (M := 20000) (by omega)
    rw [hfo] at hend
    subst hend
    refine wX ?_
    have hbl := back_le (Cell.mk 8 num text names items)
    refine Nd.mk (by rw [bs_size, bs_size]; omega) ?_
    rw [bs_app]
    exact wZ
   have hk1 : k < items.length := by omega
   have ho2 : o.length < 20000 := by omega
   obtain ⟨x, hx⟩ : ∃ x, items[k]? = some x := ⟨_, List.getElem?_eq_getElem hk1⟩
   have hxr := hrange x (List.mem_of_getElem? hx)
   obtain ⟨xn, rfl⟩ : ∃ xn : Nat, x = (xn : Int) := ⟨x.toNat, by omega⟩
   have hisa : ia.isSome = true := by
    cases ia with
    | none => have := hpo.ia rfl; simp only at this; rw [this] at hk1; exact absurd hk1 (Nat.not_lt_zero _)
    | some b => rfl
   have hstep := foldD_at (f := ff) (pre := preD (Cell.mk 8 num text names items)) hx ho2
   rw [hfo] at hstep
   obtain ⟨nm, hnm⟩ : ∃ s, names[k]? = some s := ⟨_, List.getElem?_eq_getElem (by have := hll rfl; omega)⟩
   have hnsa : na.isSome = true := by
    cases na with
    | none => have := hpo.na rfl; simp only at this; rw [this] at hnm; cases hnm
    | some b => rfl
   have hnl := hnn nm (List.mem_of_getElem? hnm)
   have hkn : k < names.length := (List.getElem?_eq_some_iff.1 hnm).1
   have hgd : names.getD k [] = nm := by rw [List.getD_eq_getElem?_getD, hnm]; rfl
   refine wX ?_
   refine brd_dec (fun h4 => ?_) (fun h4 => ?_)
   ·refine wX ?_
    refine Nd.mk (by rw [bs_size]; show _ + ([44, 32] : List UInt8).length < _; simp; omega) ?_
    rw [show (⟨#[44, 32]⟩ : ByteArray) = bs [44, 32] from rfl, bs_app]
    refine wX ?_
    refine Nd.mk ⟨hnsa, by omega, by omega⟩ ?_
    refine wX ?_
    refine LdN.one (.string (bs nm)) rfl (fun w hw => (hw.1.1.1.2 _ hpm).1) (by rw [Int.toNat_natCast]; show (strC names)[k * 1]? = _; rw [Nat.mul_one]; exact strC_get hnm) ?_
    refine wX ?_
    refine Nd.mk (by rw [bs_size, bs_size]; first | omega | (simp; omega)) ?_
    rw [bs_app]
    refine wX ?_
    refine Nd.mk (by rw [bs_size]; show _ + ([61] : List UInt8).length < _; simp; omega) ?_
    rw [show (⟨#[61]⟩ : ByteArray) = bs [61] from rfl, bs_app]
    refine wX ?_
    refine Nd.mk ⟨hisa, by omega, by omega⟩ ?_
    refine wX ?_
    refine LdN.one (.int .i64 (xn : Int)) rfl (fun w hw => (hw.1.1.1.2 _ hpm).2) (by rw [Int.toNat_natCast]; show (iC items)[k * 1]? = _; rw [Nat.mul_one]; exact iC_get hx) ?_
    refine wX ?_
    refine call1 (ih (o ++ [44, 32] ++ nm ++ [61]) (some ⟨wb2, 0, none⟩) wc2 way2 xn (by omega) (fun h => by cases h) hnd2 hr2 (by omega) (by omega) (by first | omega | (simp only [List.length_append, List.length_cons, List.length_nil]; omega)) _ (fun w hw => ⟨hw.1.1, hw.2.1⟩)) ?_
    refine wX ?_
    rw [show o ++ preD (Cell.mk 8 num text names items) k = o ++ [44, 32] ++ nm ++ [61] from (by rw [preD_8 rfl, if_pos (by omega), hgd]; simp), hfx] at hstep
    refine ⟨(k + 1, docS 20000 (leafS qL itL) (l.map (·.c)) m (o ++ [44, 32] ++ nm ++ [61]) way2 xn), ⟨by omega, ?_, hstep.symm⟩, by show items.length - (k + 1) < items.length - k; omega, ?_, wHH⟩
    ·have := doc_len (M := 20000) hsh m (o ++ [44, 32] ++ nm ++ [61]) way2 xn
     have h3 : (o ++ [44, 32] ++ nm ++ [61]).length ≤ 20100 := by first | omega | (simp only [List.length_append, List.length_cons, List.length_nil]; omega)
     show (docS _ _ _ _ _ _ _).length ≤ _
     omega
    ·(repeat' (first | exact trivial | refine And.intro (by with_reducible rfl) ?_ | (with_reducible exact wkC_refl _) | (with_reducible exact wkCs_refl _) | refine And.intro ?_ ?_))
     all_goals first | rfl | exact av_int (by rw [wrap_i64 (by omega)]; omega) | exact av_int (by omega)
   ·refine wX ?_
    refine Nd.mk ⟨hnsa, by omega, by omega⟩ ?_
    refine wX ?_
    refine LdN.one (.string (bs nm)) rfl (fun w hw => (hw.1.1.1.2 _ hpm).1) (by rw [Int.toNat_natCast]; show (strC names)[k * 1]? = _; rw [Nat.mul_one]; exact strC_get hnm) ?_
    refine wX ?_
    refine Nd.mk (by rw [bs_size, bs_size]; first | omega | (simp; omega)) ?_
    rw [bs_app]
    refine wX ?_
    refine Nd.mk (by rw [bs_size]; show _ + ([61] : List UInt8).length < _; simp; omega) ?_
    rw [show (⟨#[61]⟩ : ByteArray) = bs [61] from rfl, bs_app]
    refine wX ?_
    refine Nd.mk ⟨hisa, by omega, by omega⟩ ?_
    refine wX ?_
    refine LdN.one (.int .i64 (xn : Int)) rfl (fun w hw => (hw.1.1.1.2 _ hpm).2) (by rw [Int.toNat_natCast]; show (iC items)[k * 1]? = _; rw [Nat.mul_one]; exact iC_get hx) ?_
    refine wX ?_
    refine call1 (ih (o ++ nm ++ [61]) (some ⟨wb2, 0, none⟩) wc2 way2 xn (by omega) (fun h => by cases h) hnd2 hr2 (by omega) (by omega) (by first | omega | (simp only [List.length_append, List.length_cons, List.length_nil]; omega)) _ (fun w hw => ⟨hw.1.1, hw.2.1⟩)) ?_
    refine wX ?_
    rw [show o ++ preD (Cell.mk 8 num text names items) k = o ++ nm ++ [61] from (by rw [preD_8 rfl, if_neg (by omega), hgd]; simp), hfx] at hstep
    refine ⟨(k + 1, docS 20000 (leafS qL itL) (l.map (·.c)) m (o ++ nm ++ [61]) way2 xn), ⟨by omega, ?_, hstep.symm⟩, by show items.length - (k + 1) < items.length - k; omega, ?_, wHH⟩
    ·have := doc_len (M := 20000) hsh m (o ++ nm ++ [61]) way2 xn
     have h3 : (o ++ nm ++ [61]).length ≤ 20100 := by first | omega | (simp only [List.length_append, List.length_cons, List.length_nil]; omega)
     show (docS _ _ _ _ _ _ _).length ≤ _
     omega
    ·(repeat' (first | exact trivial | refine And.intro (by with_reducible rfl) ?_ | (with_reducible exact wkC_refl _) | (with_reducible exact wkCs_refl _) | refine And.intro ?_ ?_))
     all_goals first | rfl | exact av_int (by rw [wrap_i64 (by omega)]; omega) | exact av_int (by omega)
end
theorem RText_m (a : Option Addr) (ca : Nat) (l : List CellP) (ha : a = none → l = []) (hs : Small l) (hok : ∀ p ∈ l, CellOk p) (u : Int) :
  ∀ H, (∀ w, Facts H w → gF a l TabF w) → ∃ e : Bool, (e = true ↔ AskP (l.map (·.c)) [u]) ∧ SpecH Tryz.prog 17 (pvs [.slice a l.length ca, .int .i64 u]) H (Ret (.tuple #[.string (bs (if e then textD (leafS qL itL) (l.map (·.c)) u else [])), errI e]) H) := by
 intro H hH
 obtain ⟨e, he⟩ : ∃ b : Bool, b = true ↔ AskP (l.map (·.c)) [u] := by
  by_cases h : AskP (l.map (·.c)) [u]
  ·exact ⟨true, fun _ => h, fun _ => rfl⟩
  ·exact ⟨false, (fun h => by cases h), fun h2 => absurd h2 h⟩
 refine ⟨e, he, ?_⟩
 have hl := hs.1
 refine factC hm Tryz.func17 (by kernel_rfl) rfl rfl ?_ H hH
 refine wX ?_
 obtain ⟨t, ht1, ht2⟩ := RIs_c a ca l ha (by omega) hok u [.fact (gF a l TabF)] (fun w hw => hw.1.1)
 obtain rfl : t = e := by rw [Bool.eq_iff_iff, ht1, he]
 refine call1 ht2 ?_
 cases t with
 | false =>
  refine wX ?_
  rfl
 | true =>
  have hask := he.1 rfl
  have hu := hask.2 u (by simp)
  obtain ⟨v, rfl⟩ : ∃ v : Nat, u = (v : Int) := ⟨u.toNat, by omega⟩
  have hgl : (l.map (·.c)).length = l.length := by simp
  have V := renv ha hs hok hask.1
  refine wX ?_
  have h500 := hask.1.1
  refine call1 (written_r ca V (l.length + 2) [] none 0 [] v (by omega) (fun _ => rfl) List.nodup_nil (fun x hx => by cases hx) (by simp) (by omega) (by simp) _ (fun w hw => ⟨hw.1, SlAt.nil⟩)) ?_
  have htp : textD (leafS qL itL) (l.map (·.c)) (v : Int) = (docS 20000 (leafS qL itL) (l.map (·.c)) (l.length + 2) [] [] (v : Int)).take 20000 := by unfold textD; rw [hgl]
  rw [htp]
  have hdl := doc_len (M := 20000) V.short (l.length + 2) [] [] (v : Int)
  generalize docS 20000 (leafS qL itL) (l.map (·.c)) (l.length + 2) [] [] (v : Int) = T at *
  refine wX ?_
  rw [bs_size]
  refine brd_dec (fun h1 => ?_) (fun h1 => ?_)
  ·refine wX ?_
   refine ReadW.sl_h 20000 rfl Tryz.underlying9 rfl rfl ⟨rfl, by omega⟩ ?_
   refine wX ?_
   rfl
  ·rw [List.take_of_length_le (by omega)]
   refine wX ?_
   rfl
end Go.Proofs.YtgogonnnojcioaaGreatDoor
namespace Go.Proofs.YtgogonnnojcioaaGreatDoor
open Go.AX Go.RowKit Go.Core
set_option maxRecDepth 20000
set_option maxHeartbeats 4000000 in
theorem Own_o (a : Option Addr) (ca : Nat) (l : List CellP) (ha : a = none → l = []) (hs : Small l) (hok : ∀ p ∈ l, CellOk p) : SpecH Tryz.prog 44 (pvs [.slice a l.length ca]) [.fact (GrF a l)] (RetG (MInv (l.map (·.c))) (fun st => .slice st.oa st.m.length st.oc) (fun st => .dead :: ownN 87 st)) := by
 obtain ⟨hl, hsm⟩ := hs
 refine ownC hm Tryz.func44 (by kernel_rfl) rfl rfl (fun _ _ => okHB_eq rfl) (fun _ _ => by show 1 ≤ 3; decide) ?_
 refine wX ?_
 refine LoopN.introS DSt (fun ⟨i, oa, oc, m⟩ => i ≤ l.length ∧ (oa = none → m = []) ∧ m.map (·.c) = (l.take i).map (·.c) ∧ (∀ p ∈ m, CellOk p) ∧ (∀ p ∈ m, OwnP p) ∧ m.length ≤ oc) (fun ⟨i, oa, oc, m⟩ => mkS Tryz.f44.ntmps 0 [(0, .c (.v (.slice a l.length ca))), (3, .c (.v (.slice oa m.length oc))), (4, .c (.v (.int .i64 (i : Int))))]) (fun ⟨i, oa, oc, m⟩ => [.fact (GrF a l), .app 87 5 (grC m) oa m.length oc, famE (rowsG m)]) (fun ⟨i, _, _, _⟩ => l.length - i) [.app 87 5 [] none 0 0, .dead] rfl (fun _ => rfl) (fun _ => rfl) (fun _ _ => ⟨trivial, trivial, trivial, trivial⟩) ?_ ?_
 ·refine ⟨⟨0, none, 0, []⟩, ⟨Nat.zero_le _, fun _ => rfl, rfl, (fun p h => by cases h), (fun p h => by cases h), Nat.le_refl _⟩, ?_, _, (famNew 2 rfl).s, wkE_refl _, wkE_refl _, wkE_refl _, trivial⟩
  exact wKK
 rintro ⟨i, oa, oc, m⟩ ⟨hi, hoa, hmc, hmo, hmw, hoc⟩
 have hml : m.length = i := by
  have := congrArg List.length hmc
  simp only [List.length_map, List.length_take] at this
  omega
 refine wX ?_
 refine brd_dec (fun h1 => ?_) (fun h1 => ?_)
 ·obtain ⟨p, hp⟩ : ∃ p, l[i]? = some p := ⟨_, List.getElem?_eq_getElem (by omega)⟩
  have hpm := List.mem_of_getElem? hp
  have hpo := hok p hpm
  obtain ⟨hnl, hil⟩ := hsm p hpm
  have hsa : a.isSome = true := by
   cases a with
   | none => rw [ha rfl] at hp; cases hp
   | some b => rfl
  refine wX ?_
  refine Nd.mk ⟨hsa, by omega, by omega⟩ ?_
  refine wX ?_
  refine LdN.agg (cellC p) rfl (fun w hw => hw.1.1) rfl (fun k hk => by rw [Int.toNat_natCast]; exact grC_get l i k hk hp) ?_
  refine wX ?_
  refine factG (fun _ => rfl) (own_o p hpo hnl hil) ?_ ?_
  ·exact fun w hw => hw.1.2 p hpm
  rintro ⟨nb, nc2, ib, ic2⟩ ⟨hnc, hic⟩
  refine wX ?_
  refine Nd.mk ⟨Nat.le_refl 1, rfl, rfl⟩ ?_
  (conv => whnf)
  obtain ⟨q, hq⟩ : ∃ q : CellP, q = ⟨p.c, some ⟨nb, 0, none⟩, nc2, some ⟨ib, 0, none⟩, ic2⟩ := ⟨_, rfl⟩
  refine AppN.grow 1 (grC m) (cellC ⟨p.c, some ⟨nb, 0, none⟩, nc2, some ⟨ib, 0, none⟩, ic2⟩) rfl rfl ⟨Nat.le_refl 1, ⟨by show (m.length + 1) * 80 ≤ _; omega, by omega⟩, by decide⟩ fun ob2 oc2 hoc2 _ => ?_
  refine wX ?_
  have hm2 : m.length + 1 = (m ++ [q]).length := by simp
  have hg2 := grC_snoc m q
  have hrw := rowsG_snoc m q
  rw [show rowsP q = [⟨9, 1, p.c.names.length, strC p.c.names, nb, nc2⟩] ++ [⟨3, 1, p.c.items.length, iC p.c.items, ib, ic2⟩] by rw [hq]; rfl, ← List.append_assoc] at hrw
  rw [← hq, ← hg2, hm2]
  refine ⟨⟨i + 1, some ⟨ob2, 0, none⟩, oc2, m ++ [q]⟩, ⟨by omega, (fun h => by cases h), ?_, ?_, ?_, by omega⟩, by show l.length - (i + 1) < l.length - i; omega, ?_, _, ((famPut 2 5 rfl rfl rfl (List.perm_append_singleton _ _).symm).trans (famPut 2 6 rfl rfl rfl (List.perm_append_singleton _ _).symm)).s, wkE_refl _, wkE_refl _, ?_, trivial⟩
  ·rw [List.take_add_one, hp, List.map_append, hmc, List.map_append, hq]
   rfl
  ·intro r hr
   rcases List.mem_append.1 hr with hr | hr
   ·exact hmo r hr
   ·rw [List.mem_singleton.1 hr, hq]
    exact ⟨(fun h => by cases h), (fun h => by cases h), hpo.nl, hpo.il, hpo.nw, hpo.tl, hnc, hic⟩
  ·intro r hr
   rcases List.mem_append.1 hr with hr | hr
   ·exact hmw r hr
   ·rw [List.mem_singleton.1 hr, hq]
    exact ⟨fun ad h => by cases h; rfl, fun ad h => by cases h; rfl⟩
  ·exact wKK
  ·rw [hrw]; exact wkE_refl _
 ·obtain rfl : i = l.length := by omega
  rw [List.take_length] at hmc
  refine wX ?_
  exact ⟨⟨0, oa, oc, m⟩, ⟨hoa, hmc, hmo, hmw, hoc⟩, rfl, trivial, wkE_refl _, wkE_refl _, trivial⟩
set_option maxHeartbeats 8000000 in
theorem RJoin_o {a b : Option Addr} (ca cb : Nat) {l m : List CellP} (ha : a = none → l = []) (hb : b = none → m = []) (hs : Small l) (ht : Small m) (hok : ∀ p ∈ l, CellOk p) (hom : ∀ p ∈ m, CellOk p) (hv : ValidP (l.map (·.c))) (hw : ValidP (m.map (·.c))) (h500 : l.length + m.length ≤ 500) :
  SpecH Tryz.prog 19 (pvs [.slice a l.length ca, .slice b m.length cb]) [.fact (fun w => GrF a l w ∧ GrF b m w)] (RetG (MInv (joinS (l.map (·.c)) (m.map (·.c)))) (fun st => .tuple #[.slice st.oa st.m.length st.oc, errI true]) (fun st => .dead :: ownN 87 st)) := by
 have hl := hs.1
 have hml := ht.1
 refine ownC hm Tryz.func19 (by kernel_rfl) rfl rfl (fun _ _ => okHB_eq rfl) (fun _ _ => by show 1 ≤ 3; decide) ?_
 refine wX ?_
 obtain ⟨t, ht1, ht2⟩ := Valid_c a ca l ha (by omega) hok [.fact (fun w => GrF a l w ∧ GrF b m w)] (fun w hw => hw.1.1)
 obtain rfl : t = true := ht1.2 hv
 refine call1 ht2 ?_
 refine wX ?_
 obtain ⟨t, ht3, ht4⟩ := Valid_c b cb m hb (by omega) hom [.fact (fun w => GrF a l w ∧ GrF b m w)] (fun w hw => hw.1.2)
 obtain rfl : t = true := ht3.2 hw
 refine call1 ht4 ?_
 refine wX ?_
 refine brd_dec (fun h => absurd h (by rw [wrap_i64 (by omega)]; omega)) (fun _ => ?_)
 have hgl : (l.map (·.c)).length = l.length := by simp
 have hin := valid_in hw
 refine wX ?_
 refine factG (fun _ => rfl) (Own_o a ca l ha hs hok) ?_ ?_
 ·exact fun w hw => hw.1.1
 intro st hst
 refine wX ?_
 refine LoopN.introS DSt (fun ⟨j, oa, oc, g⟩ => j ≤ m.length ∧ (oa = none → g = []) ∧ g.map (·.c) = l.map (·.c) ++ ((m.map (·.c)).take j).map (reNum fun i => i + ((l.map (·.c)).length : Int)) ∧ (∀ p ∈ g, CellOk p) ∧ (∀ p ∈ g, OwnP p) ∧ g.length ≤ oc)
  (fun ⟨j, oa, oc, g⟩ => mkS Tryz.f19.ntmps 0 [(0, .c (.v (.slice a l.length ca))), (1, .c (.v (.slice b m.length cb))), (6, .c (.v (.slice oa g.length oc))), (7, .c (.v (.int .i64 (j : Int))))])
  (fun ⟨_, oa, oc, g⟩ => [.fact (fun w => GrF a l w ∧ GrF b m w), .app 87 5 (grC g) oa g.length oc, famE (rowsG g)]) (fun ⟨j, _, _, _⟩ => m.length - j) [] rfl (fun _ => rfl) (fun _ => rfl) (fun _ _ => ⟨trivial, trivial, trivial, trivial⟩) ?_ ?_
 ·refine ⟨⟨0, st.oa, st.oc, st.m⟩, ⟨Nat.zero_le _, hst.oa, by rw [hst.c]; simp, hst.ok, hst.own, hst.cap⟩, ?_, _, turn_refl _, wkE_refl _, wkE_refl _, wkE_refl _, trivial⟩
  exact wKK
 rintro ⟨j, oa, oc, g⟩ ⟨hj, hoa, hgc, hgo, hgw, hoc⟩
 have hgl2 : g.length = l.length + j := by
  have := congrArg List.length hgc
  simp only [List.length_map, List.length_append, List.length_take] at this
  omega
 refine wX ?_
 refine brd_dec (fun h1 => ?_) (fun h1 => ?_)
 ·obtain ⟨p, hp⟩ : ∃ p, m[j]? = some p := ⟨_, List.getElem?_eq_getElem (by omega)⟩
  have hpm := List.mem_of_getElem? hp
  have hpo := hom p hpm
  obtain ⟨hnl, hil⟩ := ht.2 p hpm
  have hpc : (m.map (·.c))[j]? = some p.c := by rw [List.getElem?_map, hp]; rfl
  have hsb : b.isSome = true := by
   cases b with
   | none => rw [hb rfl] at hp; cases hp
   | some b => rfl
  refine wX ?_
  refine Nd.mk ⟨hsb, by omega, by omega⟩ ?_
  refine wX ?_
  refine LdN.agg (cellC p) rfl (fun w hw => hw.1.2.1) rfl (fun q hq => by rw [Int.toNat_natCast]; exact grC_get m j q hq hp) ?_
  refine wX ?_
  refine factG (fun _ => rfl) (own_o p hpo hnl hil) ?_ ?_
  ·exact fun w hw => hw.1.2.2 p hpm
  rintro ⟨nb, nc2, ib, ic2⟩ ⟨hnc, hic⟩
  refine wX ?_
  obtain ⟨f, hf⟩ : ∃ f : Int → Int, f = fun i => i + ((l.map (·.c)).length : Int) := ⟨_, rfl⟩
  refine LoopN.intro Nat (fun t => t ≤ p.c.items.length)
   (fun t => mkS Tryz.f19.ntmps 0 [(0, .c (.v (.slice a l.length ca))), (1, .c (.v (.slice b m.length cb))), (6, .c (.v (.slice oa g.length oc))), (7, .c (.v (.int .i64 (j : Int)))), (8, .c (.lp 7 0)), (9, .c (.v (.int .i64 (t : Int))))])
   (fun t => [.fact (fun w => GrF a l w ∧ GrF b m w), .app 87 5 (grC g) oa g.length oc, famE (rowsG g), .dead, .dead, .app 9 1 (strC p.c.names) (some ⟨nb, 0, none⟩) p.c.names.length nc2, .app 3 1 (iC (mixI f t p.c.items)) (some ⟨ib, 0, none⟩) p.c.items.length ic2, .blk 87 (vs (cellC ⟨p.c, some ⟨nb, 0, none⟩, nc2, some ⟨ib, 0, none⟩, ic2⟩))]) (fun t => p.c.items.length - t) [] rfl (fun _ => rfl) (fun _ => rfl) (fun _ _ => okHB_eq rfl) ?_ ?_
  ·refine ⟨0, Nat.zero_le _, ?_, wkE_refl _, wkE_refl _, wkE_refl _, trivial, trivial, wkE_refl _, ?_, wkE_refl _, trivial⟩
   ·exact wKK
   ·rw [mixI_zero]; exact wkE_refl _
  intro t htl
  refine wX ?_
  refine brd_dec (fun h3 => ?_) (fun h3 => ?_)
  ·have h3 : (t : Int) < (p.c.items.length : Int) := h3
   obtain ⟨y, hy⟩ : ∃ y, p.c.items[t]? = some y := ⟨_, List.getElem?_eq_getElem (by omega)⟩
   have hyi := hin p.c (List.mem_map.2 ⟨p, hpm, rfl⟩) y (List.mem_of_getElem? hy)
   have hy1 : 0 ≤ y := hyi.1
   have hy2 : y < (m.length : Int) := by have := hyi.2; simpa using this
   have hfy : f y = y + (l.length : Int) := by rw [hf, hgl]
   have hset : (iC (mixI f t p.c.items)).set t (.int .i64 (f y)) = iC (mixI f (t + 1) p.c.items) := by
    unfold mixI iC
    rw [← List.map_set, mix_set (f := f) hy]
   have hq1 : t + 1 ≤ p.c.items.length * 1 := by omega
   have hq2 : t < (iC (mixI f t p.c.items)).length := by unfold iC; rw [List.length_map, mixI_len]; omega
   refine wX ?_
   refine DrawN.plan [0, 2, 3, 5, 8] [(1, 1), (4, 1), (6, 1), (7, 1), (9, 1), (10, 1), (11, 1)] [(12, 0)] (by decide +kernel) ?_
   refine wX ?_
   refine Nd.mk ⟨rfl, by omega, h3⟩ ?_
   refine wX ?_
   refine LdN.one (.int .i64 y) rfl (fun w hw => hw.2.2.2.2.1) (by rw [Int.toNat_natCast]; show (iC (mixI f t p.c.items))[t * 1]? = _; rw [Nat.mul_one]; exact iC_get (by unfold mixI; rw [mix_get (by omega)]; exact hy)) ?_
   refine wX ?_
   rw [wrap_i64 (x := y + (l.length : Int)) (by omega), ← hfy]
   refine Nd.mk ⟨rfl, by omega, h3⟩ ?_
   refine wX ?_
   refine EffW.appTo (i := 6) (q := t) (ys := [.int .i64 (f y)]) (iC (mixI f (t + 1) p.c.items)) 1 rfl ?_ rfl rfl rfl rfl rfl hq1 (by rw [put_set _ hq2]; exact hset) rfl ?_
   ·rw [Int.toNat_natCast]
    show AV.c (CV.v (Value.pointer (some (((⟨ib, 0, none⟩ : Addr)).add (t * 1))))) = _
    rw [Nat.mul_one]
    exact congrArg (fun x => AV.c (CV.v (Value.pointer (some x)))) (add_lit0 ib t)
   refine wX ?_
   refine ⟨t + 1, by omega, by omega, ?_, wkE_refl _, wkE_refl _, wkE_refl _, trivial, trivial, wkE_refl _, wkE_refl _, wkE_refl _, trivial⟩
   exact wKK
  ·have h3 : ¬ (t : Int) < (p.c.items.length : Int) := h3
   obtain rfl : t = p.c.items.length := by omega
   rw [mixI_all]
   refine wX ?_
   refine Nd.mk ⟨Nat.le_refl 1, rfl, rfl⟩ ?_
   (conv => whnf)
   have hnr : reNum f p.c = { p.c with items := p.c.items.map f } := rfl
   obtain ⟨q, hq⟩ : ∃ q : CellP, q = ⟨reNum f p.c, some ⟨nb, 0, none⟩, nc2, some ⟨ib, 0, none⟩, ic2⟩ := ⟨_, rfl⟩
   have hcc : cellC ⟨p.c, some ⟨nb, 0, none⟩, nc2, some ⟨ib, 0, none⟩, ic2⟩ = cellC q := by
    rw [hq]
    unfold cellC reNum
    simp only [List.length_map]
   refine AppN.grow 1 (grC g) (cellC ⟨p.c, some ⟨nb, 0, none⟩, nc2, some ⟨ib, 0, none⟩, ic2⟩) rfl rfl ⟨Nat.le_refl 1, ⟨by show (g.length + 1) * 80 ≤ _; omega, by omega⟩, by decide⟩ fun ob2 oc2 hoc2 _ => ?_
   refine wX ?_
   have hm2 : g.length + 1 = (g ++ [q]).length := by simp
   have hg2 := grC_snoc g q
   have hrw := rowsG_snoc g q
   rw [show rowsP q = [⟨9, 1, p.c.names.length, strC p.c.names, nb, nc2⟩] ++ [⟨3, 1, p.c.items.length, iC (p.c.items.map f), ib, ic2⟩] by rw [hq]; unfold rowsP reNum; simp only [List.length_map], ← List.append_assoc] at hrw
   rw [hcc, ← hg2, hm2]
   refine ⟨⟨j + 1, some ⟨ob2, 0, none⟩, oc2, g ++ [q]⟩, ⟨by omega, (fun h => by cases h), ?_, ?_, ?_, by omega⟩, by show m.length - (j + 1) < m.length - j; omega, ?_, _, ((famPut 2 5 rfl rfl rfl (List.perm_append_singleton _ _).symm).trans (famPut 2 6 rfl rfl rfl (List.perm_append_singleton _ _).symm)).s, wkE_refl _, wkE_refl _, ?_, trivial⟩
   ·rw [List.take_add_one, hpc, List.map_append, hgc, List.map_append, List.append_assoc, hq, hf]
    rfl
   ·intro r hr
    rcases List.mem_append.1 hr with hr | hr
    ·exact hgo r hr
    ·rw [List.mem_singleton.1 hr, hq]
     exact ⟨(fun h => by cases h), (fun h => by cases h), hpo.nl, by show (reNum f p.c).items.length ≤ _; rw [hnr]; simp only [List.length_map]; omega, hpo.nw, hpo.tl, hnc, by show (reNum f p.c).items.length ≤ ic2; rw [hnr]; simp only [List.length_map]; exact hic⟩
   ·intro r hr
    rcases List.mem_append.1 hr with hr | hr
    ·exact hgw r hr
    ·rw [List.mem_singleton.1 hr, hq]
     exact ⟨fun ad h => by cases h; rfl, fun ad h => by cases h; rfl⟩
   ·exact wKK
   ·rw [hrw]; exact wkE_refl _
 ·obtain rfl : j = m.length := by omega
  rw [List.take_of_length_le (by simp)] at hgc
  refine wX ?_
  exact ⟨⟨0, oa, oc, g⟩, ⟨hoa, hgc, hgo, hgw, hoc⟩, rfl, trivial, wkE_refl _, wkE_refl _, trivial⟩
def joinV (t1 t2 : Bool) (n : Nat) : Int := if t1 && t2 then (if n ≤ 500 then 0 else 9) else 1
def joinL (t1 t2 : Bool) (n : Nat) (g h : List Cell) : List Cell := if t1 && t2 && decide (n ≤ 500) then joinS g h else []
set_option maxHeartbeats 4000000 in
theorem RJoin_c {a b : Option Addr} (ca cb : Nat) {l m : List CellP} (ha : a = none → l = []) (hb : b = none → m = []) (hs : Small l) (ht : Small m) (hok : ∀ p ∈ l, CellOk p) (hom : ∀ p ∈ m, CellOk p) (t1 t2 : Bool) (h1 : t1 = true ↔ ValidP (l.map (·.c))) (h2 : t2 = true ↔ ValidP (m.map (·.c))) :
  SpecH Tryz.prog 19 (pvs [.slice a l.length ca, .slice b m.length cb]) [.fact (fun w => GrF a l w ∧ GrF b m w)] (RetG (MInv (joinL t1 t2 (l.length + m.length) (l.map (·.c)) (m.map (·.c)))) (fun st => .tuple #[.slice st.oa st.m.length st.oc, .int .i64 (joinV t1 t2 (l.length + m.length))]) (fun st => .dead :: ownN 87 st)) := by
 have hl := hs.1
 have hml := ht.1
 cases t1 with
 | false =>
  refine SpecH.pad [.app 87 5 [] none 0 0, .dead] rfl ?_
  refine SpecH.turnS (famNew 2 rfl).s ?_
  refine ownC hm Tryz.func19 (by kernel_rfl) rfl rfl (fun _ _ => okHB_eq rfl) (fun _ _ => by show 3 ≤ 3; decide) ?_
  refine wX ?_
  obtain ⟨t, ht1, ht2⟩ := Valid_c a ca l ha (by omega) hok [.fact (fun w => GrF a l w ∧ GrF b m w), .app 87 5 [] none 0 0, famE []] (fun w hw => hw.1.1)
  obtain rfl : t = false := by rw [Bool.eq_iff_iff, ht1, ← h1]
  refine call1 ht2 ?_
  refine wX ?_
  exact ⟨⟨0, none, 0, []⟩, ⟨fun _ => rfl, rfl, (fun p h => by cases h), (fun p h => by cases h), Nat.le_refl _⟩, rfl, trivial, wkE_refl _, wkE_refl _, trivial⟩
 | true =>
 cases t2 with
 | false =>
  refine SpecH.pad [.app 87 5 [] none 0 0, .dead] rfl ?_
  refine SpecH.turnS (famNew 2 rfl).s ?_
  refine ownC hm Tryz.func19 (by kernel_rfl) rfl rfl (fun _ _ => okHB_eq rfl) (fun _ _ => by show 3 ≤ 3; decide) ?_
  refine wX ?_
  obtain ⟨t, ht1, ht2⟩ := Valid_c a ca l ha (by omega) hok [.fact (fun w => GrF a l w ∧ GrF b m w), .app 87 5 [] none 0 0, famE []] (fun w hw => hw.1.1)
  obtain rfl : t = true := by rw [Bool.eq_iff_iff, ht1, ← h1]
  refine call1 ht2 ?_
  refine wX ?_
  obtain ⟨t, ht3, ht4⟩ := Valid_c b cb m hb (by omega) hom [.fact (fun w => GrF a l w ∧ GrF b m w), .app 87 5 [] none 0 0, famE []] (fun w hw => hw.1.2)
  obtain rfl : t = false := by rw [Bool.eq_iff_iff, ht3, ← h2]
  refine call1 ht4 ?_
  refine wX ?_
  exact ⟨⟨0, none, 0, []⟩, ⟨fun _ => rfl, rfl, (fun p h => by cases h), (fun p h => by cases h), Nat.le_refl _⟩, rfl, trivial, wkE_refl _, wkE_refl _, trivial⟩
 | true =>
 by_cases h5 : l.length + m.length ≤ 500
 ·have hj := RJoin_o ca cb ha hb hs ht hok hom (h1.1 rfl) (h2.1 rfl) h5
  have e1 : joinL true true (l.length + m.length) (l.map (·.c)) (m.map (·.c)) = joinS (l.map (·.c)) (m.map (·.c)) := by
   unfold joinL
   rw [decide_eq_true h5]
   rfl
  have e2 : joinV true true (l.length + m.length) = 0 := by
   unfold joinV
   rw [if_pos h5]
   rfl
  rw [e1, e2]
  exact hj
 ·have e1 : joinL true true (l.length + m.length) (l.map (·.c)) (m.map (·.c)) = [] := by
   unfold joinL
   rw [decide_eq_false h5]
   rfl
  have e2 : joinV true true (l.length + m.length) = 9 := by
   unfold joinV
   rw [if_neg h5]
   rfl
  rw [e1, e2]
  refine SpecH.pad [.app 87 5 [] none 0 0, .dead] rfl ?_
  refine SpecH.turnS (famNew 2 rfl).s ?_
  refine ownC hm Tryz.func19 (by kernel_rfl) rfl rfl (fun _ _ => okHB_eq rfl) (fun _ _ => by show 3 ≤ 3; decide) ?_
  refine wX ?_
  obtain ⟨t, ht1, ht2⟩ := Valid_c a ca l ha (by omega) hok [.fact (fun w => GrF a l w ∧ GrF b m w), .app 87 5 [] none 0 0, famE []] (fun w hw => hw.1.1)
  obtain rfl : t = true := by rw [Bool.eq_iff_iff, ht1, ← h1]
  refine call1 ht2 ?_
  refine wX ?_
  obtain ⟨t, ht3, ht4⟩ := Valid_c b cb m hb (by omega) hom [.fact (fun w => GrF a l w ∧ GrF b m w), .app 87 5 [] none 0 0, famE []] (fun w hw => hw.1.2)
  obtain rfl : t = true := by rw [Bool.eq_iff_iff, ht3, ← h2]
  refine call1 ht4 ?_
  refine wX ?_
  refine brd_dec (fun _ => ?_) (fun h => absurd h (by rw [wrap_i64 (by omega)]; omega))
  refine wX ?_
  exact ⟨⟨0, none, 0, []⟩, ⟨fun _ => rfl, rfl, (fun p h => by cases h), (fun p h => by cases h), Nat.le_refl _⟩, rfl, trivial, wkE_refl _, wkE_refl _, trivial⟩
end Go.Proofs.YtgogonnnojcioaaGreatDoor
namespace Go.AX
end Go.AX
namespace Go.Proofs.YtgogonnnojcioaaGreatDoor
open Go.AX Go.RowKit Go.Core Go.Marshal
set_option maxRecDepth 20000
theorem img_small_b {g q : List Cell} {k : Int} {org : List Int} (hg : ∀ c ∈ g, c.items.length ≤ 4 ∧ c.names.length ≤ 2 ∧ c.text.length ≤ 2) (h : Img g q k org) : ∀ c ∈ q, c.items.length ≤ 4 ∧ c.names.length ≤ 2 := by
 intro c hc
 obtain ⟨j, hj⟩ := List.getElem?_of_mem hc
 have hin : InI q (j : Int) := ⟨by omega, by have := (List.getElem?_eq_some_iff.1 hj).1; omega⟩
 have h1 := h.cell (j : Int) hin
 rw [at_get hj] at h1
 have h2 := hg _ (at_mem (h.inI (j : Int) hin))
 rw [h1] at h2
 exact ⟨by have := h2.1; simpa [reNum] using this, h2.2.1⟩
set_option maxHeartbeats 4000000 in
theorem MarshalBack_c (a : Option Addr) (ca : Nat) (L : List Int) (ha : a = none → L = []) (hl : L.length ≤ 200000000000000) (u : Int) : ∀ H, (∀ w, Facts H w → SlAt a (L.length * 1) (iC L) w ∧ TabF w) → SpecH Tryz.prog 4 (pvs [.slice a L.length ca, .int .i64 u]) H (Ret (.bool true) H) := by
 refine factC hm Tryz.func4 (by kernel_rfl) rfl rfl ?_
 ((conv => whnf); (repeat ((first | refine VrN.keep ?_ | refine BoxN.own ?_ | refine RwN.own ?_); (conv => whnf))))
 refine SpecF.call (Grown_c a ca L ha hl) (fun w hw => hw.1.1) fun v G hR => ?_
 obtain ⟨oa, oc, m, rfl, hoa, hok, hs, hv, ⟨hl12, hsm⟩, hG⟩ := hR
 refine wX ?_
 by_cases hm0 : m = []
 ·subst hm0
  refine wX ?_
  refine call1 (sane_m _) ?_
  exact wZ
 have hmp : 0 < m.length := by cases m with
  | nil => exact absurd rfl hm0
  | cons _ _ => simp
 have hvm : ValidP (m.map (·.c)) := hv.resolve_left hm0
 have tiny : Tiny (m.map (·.c)) := ⟨hvm, by rw [List.length_map]; exact hl12, fun c hc => by
  obtain ⟨q, hq, rfl⟩ := List.mem_map.1 hc
  exact hsm q hq⟩
 rw [show ((m.length : Int) == 0) = false by rw [beq_eq_false_iff_ne]; omega]
 refine wX ?_
 obtain ⟨k, hk, hkw⟩ := tmod_n (u64_in u) hmp (by omega)
 have hkin : InI (m.map (·.c)) (k : Int) := ⟨by omega, by rw [List.length_map]; omega⟩
 have hask : AskP (m.map (·.c)) [(k : Int)] := ⟨hvm, fun x hx => by obtain rfl := List.mem_singleton.1 hx; exact hkin⟩
 obtain ⟨q, org, cs, hload, himg, hql, -⟩ := tiny.load hkin
 refine Nd.mk (by rw [wrap_u64 (by omega)]; omega) ?_
 refine wX ?_
 rw [hkw]
 refine wX ?_
 obtain ⟨e, he, hes⟩ := Dump_c oc hoa hs hok (k : Int)
 obtain rfl : e = true := he.2 hask
 obtain ⟨hdl, hd3⟩ := tiny.dump_len hkin
 rw [show (if true = true then dumpS (m.map (·.c)) (k : Int) else []) = dumpS (m.map (·.c)) (k : Int) from rfl] at hes
 obtain ⟨D, hD⟩ : ∃ D, D = dumpS (m.map (·.c)) (k : Int) := ⟨_, rfl⟩
 rw [← hD] at hes hload hdl hd3
 refine call1 (hes _ (fun w hw => hG w hw.2.1)) ?_
 refine wX ?_
 refine SpecF.call (Load_c D) (fun _ _ => trivial) fun v1 G1 hR1 => ?_
 rw [hload] at hR1
 obtain ⟨a1, c1, m1, rfl, hm1, ha1, hk1, hG1⟩ := hR1.uni
 have hm1 : m1.map (·.c) = q := hm1
 refine wX ?_
 have hql5 : q.length ≤ 100 := by
  have h1 := tiny.len
  have h2 : wgt iT (m.map (·.c)) [] ≤ (m.map (·.c)).length * 4 := wgt_le (fun i hi => by
   have := tiny.cell _ (at_mem hi)
   unfold iT
   omega) []
  omega
 have hl1 : m1.length = q.length := by rw [← hm1, List.length_map]
 have h0q : InI q 0 := himg.root.1
 have hq0 : 0 < q.length := by have := h0q.2; omega
 have hvq : ValidP q := valid_img hvm himg (by omega)
 have hsq : Small m1 := ⟨by omega, fun p hp => by
  have := img_small_b (tiny.cell) himg p.c (by rw [← hm1]; exact List.mem_map.2 ⟨p, hp, rfl⟩)
  omega⟩
 rw [show ((m1.length : Int) == 0) = false by rw [beq_eq_false_iff_ne]; omega]
 ((conv => whnf); (repeat ((first | refine VrN.keep ?_ | refine BoxN.own ?_ | refine RwN.own ?_); (conv => whnf))))
 refine SpecF.call (as_m oa oc m hoa hs.wide hok) (fun w hw => hG w hw.2.1) fun v2 G2 hR2 => ?_
 obtain ⟨pa, pc, m2, rfl, hpa, hm2, hk2, hG2⟩ := hR2
 have hs2 : Small m2 := small_as hs hm2
 refine wX ?_
 obtain ⟨e3, he3, hes3⟩ := RText_m pa pc m2 hpa hs2 hk2 (k : Int) [.fact (fun w => SlAt a (L.length * 1) (iC L) w ∧ TabF w), .fact G, .fact G1, .fact G2] (fun w hw => ⟨hG2 w hw.2.2.2.1, hw.1.2⟩)
 rw [hm2] at he3 hes3
 obtain rfl : e3 = true := he3.2 hask
 refine call1 hes3 ?_
 ((conv => whnf); (repeat ((first | refine VrN.keep ?_ | refine BoxN.own ?_ | refine RwN.own ?_); (conv => whnf))))
 refine SpecF.call (as_m a1 c1 m1 ha1 ⟨by omega, fun p hp => by have := hsq.2 p hp; omega⟩ hk1) (fun w hw => hG1 w hw.2.2.1) fun v4 G4 hR4 => ?_
 obtain ⟨a4, c4, m4, rfl, ha4, hm4, hk4, hG4⟩ := hR4
 have hs4 : Small m4 := small_as hsq hm4
 have hask0 : AskP q [0] := ⟨hvq, fun x hx => by obtain rfl := List.mem_singleton.1 hx; exact h0q⟩
 obtain ⟨e5, he5, hes5⟩ := RText_m a4 c4 m4 ha4 hs4 hk4 0 [.fact (fun w => SlAt a (L.length * 1) (iC L) w ∧ TabF w), .fact G, .fact G1, .fact G2, .fact G4] (fun w hw => ⟨hG4 w hw.2.2.2.2.1, hw.1.2⟩)
 rw [hm4, hm1] at he5 hes5
 obtain rfl : e5 = true := he5.2 hask0
 refine wX ?_
 refine call1 hes5 ?_
 obtain ⟨e6, he6, hes6⟩ := Dump_c c1 ha1 hsq hk1 0
 rw [hm1] at he6 hes6
 obtain rfl : e6 = true := he6.2 hask0
 rw [show (if true = true then dumpS q 0 else []) = D by rw [if_pos rfl, hD]; exact img_dump hvq himg] at hes6
 refine wX ?_
 refine call1 (hes6 _ (fun w hw => hG1 w hw.2.2.1)) ?_
 ((conv => whnf); (repeat ((first | refine VrN.keep ?_ | refine BoxN.own ?_ | refine RwN.own ?_); (conv => whnf))))
 refine SpecF.call (as_m oa oc m hoa hs.wide hok) (fun w hw => hG w hw.2.1) fun v7 G7 hR7 => ?_
 obtain ⟨a7, c7, m7, rfl, ha7, hm7, hk7, hG7⟩ := hR7
 ((conv => whnf); (repeat ((first | refine VrN.keep ?_ | refine BoxN.own ?_ | refine RwN.own ?_); (conv => whnf))))
 refine SpecF.call (as_m a1 c1 m1 ha1 ⟨by omega, fun p hp => by have := hsq.2 p hp; omega⟩ hk1) (fun w hw => hG1 w hw.2.2.1) fun v8 G8 hR8 => ?_
 obtain ⟨a8, c8, m8, rfl, ha8, hm8, hk8, hG8⟩ := hR8
 refine wX ?_
 have hm81 : m8.map (·.c) = q := hm8.trans hm1
 have hl7 : m7.length = m.length := by have := congrArg List.length hm7; simpa using this
 have hl8 : m8.length = q.length := by have := congrArg List.length hm81; simpa using this
 have hrj := RJoin_c c7 c8 ha7 ha8 (small_as hs hm7) (small_as hsq hm8) hk7 hk8 true true ⟨fun _ => by rw [hm7]; exact hvm, fun _ => rfl⟩ ⟨fun _ => by rw [hm81]; exact hvq, fun _ => rfl⟩
 have hn5 : m7.length + m8.length ≤ 500 := by omega
 rw [hm7, hm81, show joinV true true (m7.length + m8.length) = 0 by unfold joinV; rw [if_pos (show (true && true) = true from rfl), if_pos hn5], show joinL true true (m7.length + m8.length) (m.map (·.c)) q = joinS (m.map (·.c)) q by unfold joinL; rw [if_pos (by simp [hn5])]] at hrj
 refine factG (fun _ => rfl) hrj ?_ fun st hst => ?_
 ·exact fun w hw => ⟨hG7 w hw.2.2.2.2.2.1, hG8 w hw.2.2.2.2.2.2.1⟩
 have hgl : (m.map (·.c)).length = m.length := by simp
 have hvj : ValidP (joinS (m.map (·.c)) q) := valid_join hvm hvq (by rw [hgl]; omega)
 have hT : textD (leafS qL itL) (m.map (·.c)) (k : Int) = textD (leafS qL itL) q 0 := by
  rw [← text_eq hvm, ← text_eq hvq, text_full, text_full, ← img_text (lf := leafS qL itL) ?_ (valid_in hvm) himg h0q, himg.root.2]
  intro c d h1 h2 h3
  unfold leafS
  rw [h1, h2, h3]
 have hsb : sameB (joinS (m.map (·.c)) q) ((k : Int), (m.length : Int)) = true := by
  have h := img_eqv (valid_in hvm) himg h0q
  rw [himg.root.2, Int.zero_add, hgl] at h
  exact (same_eqv (valid_in hvj) ⟨⟨by omega, by rw [join_len, hgl]; omega⟩, ⟨by omega, by rw [join_len, hgl]; omega⟩⟩ (Nat.lt_succ_self _)).2 h
 rw [hT]
 have hb : ∀ l : List UInt8, (!(l == l)) = false := fun l => by simp
 refine wX ?_
 rw [hb]
 refine wX ?_
 rw [hb]
 refine wX ?_
 have hsj : Small st.m := by
  have hc0 := hst.c
  refine ⟨by have h1 := congrArg List.length hc0; rw [join_len, List.length_map, hgl] at h1; omega, fun p hp => ?_⟩
  have hc : p.c ∈ joinS (m.map (·.c)) q := hc0 ▸ List.mem_map_of_mem hp
  rcases List.mem_append.1 hc with hc | hc
  ·obtain ⟨x, hx, hxe⟩ := List.mem_map.1 hc
   rw [← hxe]
   exact hs.2 x hx
  ·obtain ⟨d, hd, hde⟩ := List.mem_map.1 hc
   have hd2 := img_small_b tiny.cell himg d hd
   rw [← hde]
   exact ⟨by have := hd2.2; show d.names.length ≤ _; omega, by show (d.items.map _).length ≤ _; rw [List.length_map]; omega⟩
 obtain ⟨e9, he9, hes9⟩ := REqual_c st.oc hst.oa hsj hst.ok (k : Int) (m.length : Int) [.fact (fun w => SlAt a (L.length * 1) (iC L) w ∧ TabF w), .fact G, .fact G1, .fact G2, .fact G4, .fact G7, .fact G8, .app 87 5 (grC st.m) st.oa st.m.length st.oc, famE (rowsG st.m)]
  (fun w hw => hst.gr hw.2.2.2.2.2.2.2.1 hw.2.2.2.2.2.2.2.2.1)
 rw [hst.c] at he9 hes9
 have he9t : e9 = true := he9.2 ⟨hvj, fun x hx => by
  rw [join_len, hgl]
  rcases List.mem_cons.1 hx with rfl | hx
  ·omega
  ·obtain rfl := List.mem_singleton.1 hx
   omega⟩
 rw [he9t, hsb] at hes9
 refine call1 hes9 ?_
 refine wX ?_
 refine call1 (sane_m _) ?_
 exact wZ
end Go.Proofs.YtgogonnnojcioaaGreatDoor
namespace Go.Proofs.YtgogonnnojcioaaGreatDoor
open Go.ChangeShapes Go.WideShapes Go.ChangeAt Go.RowKit Go.AX Go.Core
set_option maxRecDepth 100000
theorem tab_of {W : World} (h : laidMetH Tryz.prog laid3 W) : TabF W := by
 rw [MakeChecks.laidMetH_plain _ _ _ (by kernel_rfl)] at h
 exact Lib.tabIs_of_head (rest := [("unicode/utf8.acceptRanges", Rows.laid_unicode_utf8_acceptRanges), ("unicode/utf8.first", Rows.laid_unicode_utf8_first)]) (g := 1) (t := 191) (e := 172) (n := 20) (by kernel_rfl) (by kernel_rfl) (by kernel_rfl) (by kernel_rfl) (by kernel_rfl) (by kernel_rfl) (laid_tail (laid_tail h))
namespace MarshalBack
theorem own : ownKnob Tryz.prog.godebug = none := own0
theorem walk {H : Type} {enc : TypeId × Value → H} (W : World) (base : Nat) (args : Array Value) (ds : List (DataW H)) (p : List MemPlace) (k : Known enc Tryz.prog Tryz.f4 W base args ds p) (_hL : laidMetH Tryz.prog laid3 W) : Walk Tryz.prog 4 args W := by
 obtain ⟨u, v, rfl⟩ := arr2 (trodAll_len k.trod).2
 obtain ⟨i, rfl⟩ := okWide_int Tryz.underlying3 (k.val 1 _ v rfl rfl)
 obtain ⟨a, l, cap, rfl, ⟨_hq, ha, hs⟩, _, _⟩ := k.low.ints (e := 3) (i := .i64) 0 rfl rfl (by kernel_rfl) (by kernel_rfl) (by kernel_rfl) (by decide +kernel)
 have nil_of : ∀ {a : Option Addr} {l : List Int}, a.isSome = true ∨ l.length = 0 → a = none → l = [] := fun {a l} h e => by
  rcases h with h | h
  ·rw [e] at h; cases h
  ·exact List.eq_nil_of_length_eq_zero h
 exact walkH [.fact (fun w => SlAt a (l.length * 1) (iC l) w ∧ TabF w)] (fun _ he => ⟨_, List.mem_singleton.1 he, (by have h := hs.and (tab_imm (tab_of _hL)); simp only [Nat.mul_one]; exact h)⟩) (MarshalBack_c a cap l (nil_of ha) _hq i _ fun w hw => hw.1)
theorem lifted (os : Os) (started : os.Started) (H : Type) (enc : TypeId × Value → H) :
  ReturnsInHanded {} Tryz.checked os 4 .any (fun w args => (Rows.marshalBackSpec.pre enc Tryz.prog Tryz.f4 [] false w args ∧ laidMetH Tryz.prog laid3 w) ∧ sizedMet enc Tryz.prog Tryz.f4 (OpenSpec.ofChange Rows.marshalBackSpec) false w args) (Rows.marshalBackSpec.post enc Tryz.prog Tryz.f4 false true false false) := by
 refine liftS (C := Tryz.checked) own started (by kernel_rfl) Tryz.func4
  (ChangeSpec.witness_shaped (enc := enc) (C := Tryz.checked) (os := os) (X := fun w _ => laidMetH Tryz.prog laid3 w) false (World.laidAll Tryz.prog os laid3) #[.slice none 0 0, .int .i64 0] 8 (World.laidAll_os _ _ _) (World.shaped_of_ZipB (by kernel_rfl) (by kernel_rfl)) (by kernel_rfl) (by kernel_rfl) (by kernel_rfl) (door_met os _))
  laidOut rfl (t := _) rfl (by kernel_rfl) (by kernel_rfl) ?_ walk
 intro ds hd
 match ds, hd with
 | [d0, d1], _ => rfl
theorem over : Rows.marshalBackRow.holds Tryz.pinned (OpenSpec.ofChange Rows.marshalBackSpec) :=
 OpenClaim.holds_of_wide 4 Tryz.f4 rfl rfl rfl rfl rfl rfl rfl ⟨rfl, rfl, rfl, rfl, rfl⟩ rfl rfl rfl rfl rfl (by kernel_rfl) Tryz.func4 (by kernel_rfl)
  (of_decide_eq_true (by kernel_rfl)) (by unfold Func.isWrapper; first | (rw [if_pos (by decide +kernel)]; kernel_rfl) | (rw [if_neg (by decide +kernel)]; exact ⟨rfl, rfl⟩))
  (fun os started H enc _ => lifted os started H enc)
theorem proved : Rows.MarshalBackCardSaid :=
 Claim7.holds_tied_plain_at .later [] [.data, .data, .data, .data, .pinned] true (true, "92e2ed60dd5b2613fe6e0d172a7e2bd0782f276a49ab098c444f4227433a6c5a") false
  over (fun _ h => by cases h) (by kernel_rfl) (fun _ h => by cases h) marshalBack_row_tie rfl ⟨rfl, rfl⟩ (by kernel_rfl) rfl
  (fun f fn hf hfn => by
   obtain rfl : f = 4 := Option.some.inj ((show Tryz.prog.funcNamed "cabochon/cabochonlaw29.MarshalBack" = some 4 by kernel_rfl).symm.trans hf) |>.symm
   obtain rfl : fn = Tryz.f4 := (Option.some.inj (Tryz.func4.symm.trans hfn)).symm
   exact ⟨by kernel_rfl, fun j t ht => by
    have hm : t ∈ Tryz.f4.params.toList := by simpa using Array.mem_of_getElem? ht
    have hall : (Tryz.f4.params.toList.all fun u => !Tryz.prog.wantsStandIn u) = true := by kernel_rfl
    exact (show Tryz.prog.wantsStandIn t = false by simpa using List.all_eq_true.1 hall t hm)⟩)
  (by kernel_rfl)
#print axioms proved
end MarshalBack
end Go.Proofs.YtgogonnnojcioaaGreatDoor
