/-
  MarshalLoadsCardSaid is proved: of every string MarshalLoads returns true; the listed tables are tied to the program's text.
-/
import Derived.Lib.SlBytesConst
import Derived.Test.YtgogonnnojcioaaGreatDoorCards
import Derived.Test.YtgogonnnojcioaaGreatDoorTie
import Derived.Test.YtgogonnnojcioaaGreatDoorMld9
set_option linter.unusedVariables false
set_option linter.unusedSimpArgs false
/-
 Contracts: the document's reader: a form.
-/
namespace Go.Marshal
open Go.Core
theorem Tel.addS {st : PS} (h : st.e = 0) (c : Cell) : Tel (.ok ((), addS c (toS st))) () { st with g := st.g ++ [c] } := by
 obtain ⟨s, g, cs, ss, e⟩ := st
 simp only at h
 subst h
 exact ⟨rfl, rfl⟩
end Go.Marshal
namespace Go.Proofs.YtgogonnnojcioaaGreatDoor
open Go.AX Go.RowKit Go.Core Go.Marshal
set_option maxRecDepth 20000
theorem seal_d {H : List Ent} {rb : Nat} {S : List UInt8} {st : PS} {p : RdP} {nm : List CellP} (hl : 5 ≤ H.length) (h0 : H[0]? = some (.app 109 6 (ddC S st p) (some ⟨rb, 0, none⟩) 1 1)) (h1 : H[1]? = some (.app 87 5 (grC p.m) p.ga p.m.length p.gc)) (h3 : H[3]? = some (.app 3 1 (iC st.cells) p.ca st.cells.length p.cc)) (h4 : H[4]? = some (.app 9 1 (strC st.ss) p.sa st.ss.length p.sc)) (hΓ : ∀ w, Facts (restL H (dE rb S st p nm)) w → ∀ q ∈ nm, CellF q w) : SealOk H (dE rb S st p nm) := by
 refine ⟨hl, fun i e he => ?_⟩
 rcases i with _ | _ | _ | _ | _ | i
 ·obtain rfl := Option.some.inj he
  exact .inr (.inl ⟨_, _, _, _, _, _, rfl, h0⟩)
 ·obtain rfl := Option.some.inj he
  exact .inr (.inl ⟨_, _, _, _, _, _, rfl, h1⟩)
 ·exact .inr (.inr ⟨_, (Option.some.inj he).symm, hΓ⟩)
 ·obtain rfl := Option.some.inj he
  exact .inr (.inl ⟨_, _, _, _, _, _, rfl, h3⟩)
 ·obtain rfl := Option.some.inj he
  exact .inr (.inl ⟨_, _, _, _, _, _, rfl, h4⟩)
 ·cases he
theorem cell_plain {c : Cell} (hn : c.names = []) (hi : c.items = []) (w : World) : CellF (plP c) w := by
 obtain ⟨k, n, t, ns, its⟩ := c
 simp only at hn hi
 subst hn
 subst hi
 exact ⟨slAt_nil w, slAt_nil w⟩
theorem form_open {n : Nat} {st s1 : PS} {x : UInt8} (tel : Tel (nextS (toS st)) x s1) (h1 : s1.e = 0) (h64 : x ≠ 64) (h5 : ¬ 500 ≤ s1.g.length) (hx : x ∈ begins) {st' : PS} (hi : Tel (innerD (formD n) x (toS s1)) () st') : Tel (formD (n + 1) (toS st)) (s1.g.length : Int) st' := by
 unfold formD
 rw [tel.live h1]
 show Tel (if x = 64 then _ else if 500 ≤ s1.g.length ∨ x ∉ begins then _ else _) _ _
 rw [if_neg h64, if_neg (fun h => h.elim h5 (fun h => h hx))]
 exact hi.bnd (fun h => Tel.ok h) (fun _ => rfl)
theorem form_bad {n : Nat} {st s1 : PS} {x : UInt8} (tel : Tel (nextS (toS st)) x s1) (h1 : s1.e = 0) (h64 : x ≠ 64) (h : 500 ≤ s1.g.length ∨ x ∉ begins) : Tel (formD (n + 1) (toS st)) 0 (failM s1 4) := by
 unfold formD
 rw [tel.live h1]
 show Tel (if x = 64 then _ else if 500 ≤ s1.g.length ∨ x ∉ begins then _ else _) _ _
 rw [if_neg h64, if_pos h]
 exact ⟨fail_e h1 4, by decide⟩
theorem form_ref {n : Nat} {st s1 s2 : PS} {k : Nat} (tel : Tel (nextS (toS st)) 64 s1) (h1 : s1.e = 0) (tk : Tel (numS maxN (toS s1)) k s2) : (s2.e ≠ 0 → Tel (formD (n + 1) (toS st)) 0 s2) ∧ (s2.e = 0 → s2.cells.length ≤ k → Tel (formD (n + 1) (toS st)) 0 (failM s2 4)) ∧ (s2.e = 0 → k < s2.cells.length → Tel (formD (n + 1) (toS st)) (s2.cells.getD k 0) s2) := by
 unfold formD
 rw [tel.live h1]
 refine ⟨fun h => ?_, fun h h2 => ?_, fun h h2 => ?_⟩
 ·show Tel (bnd (numS maxN (toS s1)) _) _ _
  rw [tk.dead h]
  exact ⟨rfl, h⟩
 ·show Tel (bnd (numS maxN (toS s1)) _) _ _
  rw [tk.live h]
  show Tel (match s2.cells[k]? with
   | some c => .ok (c, toS s2)
   | none => .error 4) _ _
  rw [List.getElem?_eq_none h2]
  exact ⟨fail_e h 4, by decide⟩
 ·show Tel (bnd (numS maxN (toS s1)) _) _ _
  rw [tk.live h]
  show Tel (match s2.cells[k]? with
   | some c => .ok (c, toS s2)
   | none => .error 4) _ _
  rw [List.getD_eq_getElem?_getD, List.getElem?_eq_getElem h2]
  exact Tel.ok h
theorem add_le {st s2 : PS} (le : Le 0 st s2) (h5 : s2.g.length < 500) (c : Cell) : Le 0 st (addP s2 c) := by
 have h1 := le.g
 have h2 := le.cl
 exact ⟨le.pot, le.s, by show _ ≤ (s2.g ++ [c]).length; simp; omega, fun _ => by show (s2.g ++ [c]).length ≤ 500; simp; omega, by show s2.cells.length + st.g.length ≤ st.cells.length + (s2.g ++ [c]).length; simp; omega⟩
theorem open_bd2 {s1 : PS} (b : Bd s1) (h5 : s1.g.length < 500) (c : Cell) (x : Int) : Bd (cellsP (addP s1 c) x) :=
 ⟨by show (s1.g ++ [c]).length ≤ 500; simp; omega, by show (s1.cells ++ [x]).length ≤ (s1.g ++ [c]).length; have := b.cl; simp; omega, b.pot⟩
theorem open_le2 {st s1 : PS} (le : Le 0 st s1) (h5 : s1.g.length < 500) (c : Cell) (x : Int) : Le 0 st (cellsP (addP s1 c) x) := by
 have h1 := le.g
 have h2 := le.cl
 exact ⟨le.pot, le.s, by show _ ≤ (s1.g ++ [c]).length; simp; omega, fun _ => by show (s1.g ++ [c]).length ≤ 500; simp; omega, by show (s1.cells ++ [x]).length + st.g.length ≤ st.cells.length + (s1.g ++ [c]).length; simp; omega⟩
set_option maxHeartbeats 4000000 in
theorem form_step (n : Nat) (hc : FormC n) : FormC (n + 1) := by
  intro rb S st p nm hS ok bd hl h0 hn
  have htel := Ref.next.tel h0
  have hne := next_d rb S (by omega) st p nm hl
  have b1 := bd.le (next_le st)
  have le1 := next_le st
  have les := nextsymD_le st
  have ok1 := ok.same (next_keep st)
  have hl1 := hl.next
  have hlt := next_lt (st := st)
  have hR : ∃ R, formD (n + 1) (toS st) = R := ⟨_, rfl⟩
  refine SpecH.sealP ?_
  refine SpecH.pad [.app 9 1 [] none 0 0, .app 3 1 [] none 0 0] rfl ?_
  refine spec_of_exec hm Tryz.func86 (by kernel_rfl) rfl rfl ?_
  generalize nextM st = q at htel hne b1 le1 ok1 hl1 hlt les
  obtain ⟨x, s1⟩ := q
  simp only at htel hne b1 le1 ok1 hl1 hlt les
  (first | refine wX ?_ | exact wZ)
  refine callG (hne) [0, 1, 2, 3, 4] rfl ⟨rfl, rfl, rfl, rfl, rfl, trivial⟩ rfl fun _ _ => ?_
  (first | refine wX ?_ | exact wZ)
  refine LdN.one (a := some ⟨rb, 0, none⟩) (q := 5) (.int .i64 s1.e) rfl (fun w hw => hw.1) rfl ?_
  (first | refine wX ?_ | exact wZ)
  refine brd_ne (fun he => ?_) (fun he => ?_)
  · (first | refine wX ?_ | exact wZ)
    refine ⟨dE rb S (s1) (p) (nm ++ []), Nat.le_of_ble_eq_true rfl, seal_d (Nat.le_of_ble_eq_true rfl) rfl rfl rfl rfl (fun w hw => by rw [List.append_nil]; exact hw.1), ⟨_, rfl⟩, ⟨⟨_, s1, p, []⟩, ⟨?_, ?_, ?_, ?_, ?_, ?_, ?_⟩, rfl, rfl⟩⟩
    · exact ok1
    · exact (List.append_nil _).symm
    · intro q hq; cases hq
    · exact hl1
    · exact le1
    · exact fun h => absurd h he
    · exact htel.bnd (fun h => absurd h he) (fun _ => rfl)
  obtain ⟨hs1, _⟩ := hlt (.inl he)
  have hgl := b1.g
  have hml : p.m.length = s1.g.length := by rw [← ok1.g, List.length_map]
  have hp1 := b1.pot
  by_cases h64 : x = 64
  · subst h64
    have htk := (Ref.num maxN).tel he
    have hnum := number_d rb S (by omega) s1 p nm hl1 maxN
    have ok2 := ok1.same (num_keep maxN s1)
    have le2 := num_le maxN s1
    have hl2 := hl1.num maxN
    have hmo := num_most maxN s1
    generalize numM maxN s1 = q at htk hnum ok2 le2 hl2 hmo
    obtain ⟨k, s2⟩ := q
    simp only at htk hnum ok2 le2 hl2 hmo
    have hmo : k ≤ 1000000000000000 := hmo
    obtain ⟨f1, f2, f3⟩ := form_ref (n := n) htel he htk
    have hls := le2.s
    (first | refine wX ?_ | exact wZ)
    refine callG (hnum) [0, 1, 2, 3, 4] rfl ⟨rfl, rfl, rfl, rfl, rfl, trivial⟩ rfl fun _ _ => ?_
    (first | refine wX ?_ | exact wZ)
    refine LdN.one (a := some ⟨rb, 0, none⟩) (q := 5) (.int .i64 s2.e) rfl (fun w hw => hw.1) rfl ?_
    (first | refine wX ?_ | exact wZ)
    by_cases he2 : s2.e = 0
    · rw [show (s2.e == 0) = true by rw [he2]; rfl]
      (first | refine wX ?_ | exact wZ)
      refine LdN.one (a := some ⟨rb, 0, none⟩) (q := 3) (.slice p.ca s2.cells.length p.cc) rfl (fun w hw => hw.1) rfl ?_
      (first | refine wX ?_ | exact wZ)
      refine brd_dec (fun hk => ?_) (fun hk => ?_)
      · (first | refine wX ?_ | exact wZ)
        refine callG (fail_d rb S s2 p nm 4) [0, 1, 2, 3, 4] rfl ⟨rfl, rfl, rfl, rfl, rfl, trivial⟩ rfl fun _ _ => ?_
        have he4 : (failM s2 4).e = 4 := fail_e he2 4
        (first | refine wX ?_ | exact wZ)
        refine LdN.one (a := some ⟨rb, 0, none⟩) (q := 5) (.int .i64 (failM s2 4).e) rfl (fun w hw => hw.1) rfl ?_
        (first | refine wX ?_ | exact wZ)
        rw [show ((failM s2 4).e != 0) = true by rw [he4]; rfl]
        (first | refine wX ?_ | exact wZ)
        refine ⟨dE rb S (failM s2 4) (p) (nm ++ []), Nat.le_of_ble_eq_true rfl, seal_d (Nat.le_of_ble_eq_true rfl) rfl rfl rfl rfl (fun w hw => by rw [List.append_nil]; exact hw.1), ⟨_, rfl⟩, ⟨⟨_, failM s2 4, p, []⟩, ⟨?_, ?_, ?_, ?_, ?_, ?_, ?_⟩, rfl, rfl⟩⟩
        · exact ok2.same (fail_ss s2 4)
        · exact (List.append_nil _).symm
        · intro q hq; cases hq
        · exact hl2.fail 4
        · exact (le1.trans le2).trans (fail_le s2 4)
        · exact fun h => by rw [he4] at h; exact absurd h (by decide)
        · exact f2 he2 (by omega)
      · have hkl : k < s2.cells.length := by omega
        have hsa : p.ca.isSome = true := by
          cases h : p.ca with
          | none =>
            rw [ok2.ca h] at hkl
            exact absurd hkl (Nat.not_lt_zero _)
          | some b => rfl
        have hget : s2.cells[k]? = some (s2.cells.getD k 0) := by rw [List.getD_eq_getElem?_getD, List.getElem?_eq_getElem hkl]; rfl
        (first | refine wX ?_ | exact wZ)
        refine LdN.one (a := some ⟨rb, 0, none⟩) (q := 5) (.int .i64 s2.e) rfl (fun w hw => hw.1) rfl ?_
        (first | refine wX ?_ | exact wZ)
        rw [show (s2.e != 0) = false by rw [he2]; rfl]
        (first | refine wX ?_ | exact wZ)
        refine LdN.one (a := some ⟨rb, 0, none⟩) (q := 3) (.slice p.ca s2.cells.length p.cc) rfl (fun w hw => hw.1) rfl ?_
        (first | refine wX ?_ | exact wZ)
        refine Nd.mk ⟨hsa, by omega, by omega⟩ ?_
        (first | refine wX ?_ | exact wZ)
        refine LdN.one (.int .i64 (s2.cells.getD k 0)) rfl (fun w hw => hw.2.2.2.1) (by show (iC s2.cells)[Int.toNat _ * 1]? = _; rw [Int.toNat_natCast, Nat.mul_one]; exact iC_get hget) ?_
        (first | refine wX ?_ | exact wZ)
        refine ⟨dE rb S (s2) (p) (nm ++ []), Nat.le_of_ble_eq_true rfl, seal_d (Nat.le_of_ble_eq_true rfl) rfl rfl rfl rfl (fun w hw => by rw [List.append_nil]; exact hw.1), ⟨_, rfl⟩, ⟨⟨_, s2, p, []⟩, ⟨?_, ?_, ?_, ?_, ?_, ?_, ?_⟩, rfl, rfl⟩⟩
        · exact ok2
        · exact (List.append_nil _).symm
        · intro q hq; cases hq
        · exact hl2
        · exact le1.trans le2
        · exact fun _ => by show s2.s.length < _; omega
        · exact f3 he2 hkl
    · rw [show (s2.e == 0) = false by simpa using he2]
      (first | refine wX ?_ | exact wZ)
      refine LdN.one (a := some ⟨rb, 0, none⟩) (q := 5) (.int .i64 s2.e) rfl (fun w hw => hw.1) rfl ?_
      (first | refine wX ?_ | exact wZ)
      refine brd_ne (fun _ => ?_) (fun h => absurd h he2)
      (first | refine wX ?_ | exact wZ)
      refine ⟨dE rb S (s2) (p) (nm ++ []), Nat.le_of_ble_eq_true rfl, seal_d (Nat.le_of_ble_eq_true rfl) rfl rfl rfl rfl (fun w hw => by rw [List.append_nil]; exact hw.1), ⟨_, rfl⟩, ⟨⟨_, s2, p, []⟩, ⟨?_, ?_, ?_, ?_, ?_, ?_, ?_⟩, rfl, rfl⟩⟩
      · exact ok2
      · exact (List.append_nil _).symm
      · intro q hq; cases hq
      · exact hl2
      · exact le1.trans le2
      · exact fun h => absurd h he2
      · exact f1 he2
  have e64 : ((x.toNat : Int) == 64) = false := by
    rw [beq_eq_false_iff_ne]
    intro h5
    exact h64 (UInt8.toNat_inj.1 (by have : x.toNat = 64 := by omega
                                     rw [this]; rfl))
  by_cases h5 : 500 ≤ s1.g.length
  · (first | refine wX ?_ | exact wZ)
    rw [show ((x.toNat : Int) != 64) = true by rw [bne, e64]; rfl]
    (first | refine wX ?_ | exact wZ)
    refine LdN.one (a := some ⟨rb, 0, none⟩) (q := 2) (.slice p.ga p.m.length p.gc) rfl (fun w hw => hw.1) rfl ?_
    (first | refine wX ?_ | exact wZ)
    rw [show decide ((p.m.length : Int) ≥ 500) = true by simp; omega]
    (first | refine wX ?_ | exact wZ)
    refine callG (fail_d rb S s1 p nm 4) [0, 1, 2, 3, 4] rfl ⟨rfl, rfl, rfl, rfl, rfl, trivial⟩ rfl fun _ _ => ?_
    (first | refine wX ?_ | exact wZ)
    refine ⟨dE rb S (failM s1 4) (p) (nm ++ []), Nat.le_of_ble_eq_true rfl, seal_d (Nat.le_of_ble_eq_true rfl) rfl rfl rfl rfl (fun w hw => by rw [List.append_nil]; exact hw.1), ⟨_, rfl⟩, ⟨⟨_, failM s1 4, p, []⟩, ⟨?_, ?_, ?_, ?_, ?_, ?_, ?_⟩, rfl, rfl⟩⟩
    · exact ok1.same (fail_ss s1 4)
    · exact (List.append_nil _).symm
    · intro q hq; cases hq
    · exact hl1.fail 4
    · exact le1.trans (fail_le s1 4)
    · exact fun h => by rw [fail_e he 4] at h; exact absurd h (by decide)
    · exact form_bad htel he h64 (.inl h5)
  by_cases hx : x ∈ begins
  · have hx2 := hx
    unfold begins at hx2
    simp only [List.mem_cons, List.not_mem_nil, or_false] at hx2
    have hp2 : ∃ p2 : RdP, p2 = p := ⟨p, rfl⟩
    obtain ⟨p2, rfl⟩ := hp2
    have hm3 := hml
    have hp3 : p2 = p2 := rfl
    rcases hx2 with rfl | rfl | rfl | rfl | rfl | rfl | rfl | rfl | rfl | rfl
    · have ok2 := ok1
      have hl2 := hl1
      have le2 := le1
      (first | refine wX ?_ | exact wZ)
      refine LdN.one (a := some ⟨rb, 0, none⟩) (q := 2) (.slice p2.ga p2.m.length p2.gc) rfl (fun w hw => hw.1) rfl ?_
      (first | refine wX ?_ | exact wZ)
      rw [show decide ((p2.m.length : Int) ≥ 500) = false by simp; omega]
      (first | refine wX ?_ | exact wZ)
      refine callG (add_d rb S s1 p2 nm ⟨0, 0, [], [], []⟩ ⟨rfl, rfl⟩ (by omega)) [0, 1, 2, 3, 4] rfl ⟨rfl, rfl, rfl, rfl, rfl, trivial⟩ rfl fun i _ => ?_
      (first | refine wX ?_ | exact wZ)
      refine ⟨dE rb S (addP s1 ⟨0, 0, [], [], []⟩) ({ p2 with m := p2.m ++ [plP ⟨0, 0, [], [], []⟩], ga := some ⟨i.1, 0, none⟩, gc := i.2 }) (nm ++ [plP ⟨0, 0, [], [], []⟩]), Nat.le_of_ble_eq_true rfl, seal_d (Nat.le_of_ble_eq_true rfl) rfl rfl rfl rfl (fun w hw => fun q hq => (List.mem_append.1 hq).elim (hw.1 q) (fun h => by rw [List.mem_singleton.1 h]; exact cell_plain rfl rfl w)), ⟨_, rfl⟩, ⟨⟨_, addP s1 ⟨0, 0, [], [], []⟩, { p2 with m := p2.m ++ [plP ⟨0, 0, [], [], []⟩], ga := some ⟨i.1, 0, none⟩, gc := i.2 }, [plP ⟨0, 0, [], [], []⟩]⟩, ⟨?_, ?_, ?_, ?_, ?_, ?_, ?_⟩, rfl, rfl⟩⟩
      · exact ok2.add ⟨0, 0, [], [], []⟩ _ _
      · exact by first | rfl | (show _ = _; rw [hp3])
      · intro q hq
        rw [List.mem_singleton.1 hq]
        exact ok_leaf rfl rfl (Nat.zero_le _)
      · exact hl2
      · exact add_le le2 (by omega) _
      · exact fun _ => by show s1.s.length < _; omega
      · show Tel _ (p2.m.length : Int) _
        rw [hm3]
        exact form_open htel he h64 h5 hx (Tel.addS he _)
    · have ok2 := ok1
      have hl2 := hl1
      have le2 := le1
      (first | refine wX ?_ | exact wZ)
      refine LdN.one (a := some ⟨rb, 0, none⟩) (q := 2) (.slice p2.ga p2.m.length p2.gc) rfl (fun w hw => hw.1) rfl ?_
      (first | refine wX ?_ | exact wZ)
      rw [show decide ((p2.m.length : Int) ≥ 500) = false by simp; omega]
      (first | refine wX ?_ | exact wZ)
      refine callG (add_d rb S s1 p2 nm ⟨1, 0, [], [], []⟩ ⟨rfl, rfl⟩ (by omega)) [0, 1, 2, 3, 4] rfl ⟨rfl, rfl, rfl, rfl, rfl, trivial⟩ rfl fun i _ => ?_
      (first | refine wX ?_ | exact wZ)
      refine ⟨dE rb S (addP s1 ⟨1, 0, [], [], []⟩) ({ p2 with m := p2.m ++ [plP ⟨1, 0, [], [], []⟩], ga := some ⟨i.1, 0, none⟩, gc := i.2 }) (nm ++ [plP ⟨1, 0, [], [], []⟩]), Nat.le_of_ble_eq_true rfl, seal_d (Nat.le_of_ble_eq_true rfl) rfl rfl rfl rfl (fun w hw => fun q hq => (List.mem_append.1 hq).elim (hw.1 q) (fun h => by rw [List.mem_singleton.1 h]; exact cell_plain rfl rfl w)), ⟨_, rfl⟩, ⟨⟨_, addP s1 ⟨1, 0, [], [], []⟩, { p2 with m := p2.m ++ [plP ⟨1, 0, [], [], []⟩], ga := some ⟨i.1, 0, none⟩, gc := i.2 }, [plP ⟨1, 0, [], [], []⟩]⟩, ⟨?_, ?_, ?_, ?_, ?_, ?_, ?_⟩, rfl, rfl⟩⟩
      · exact ok2.add ⟨1, 0, [], [], []⟩ _ _
      · exact by first | rfl | (show _ = _; rw [hp3])
      · intro q hq
        rw [List.mem_singleton.1 hq]
        exact ok_leaf rfl rfl (Nat.zero_le _)
      · exact hl2
      · exact add_le le2 (by omega) _
      · exact fun _ => by show s1.s.length < _; omega
      · show Tel _ (p2.m.length : Int) _
        rw [hm3]
        exact form_open htel he h64 h5 hx (Tel.addS he _)
    · have ok2 := ok1
      have hl2 := hl1
      have le2 := le1
      (first | refine wX ?_ | exact wZ)
      refine LdN.one (a := some ⟨rb, 0, none⟩) (q := 2) (.slice p2.ga p2.m.length p2.gc) rfl (fun w hw => hw.1) rfl ?_
      (first | refine wX ?_ | exact wZ)
      rw [show decide ((p2.m.length : Int) ≥ 500) = false by simp; omega]
      (first | refine wX ?_ | exact wZ)
      refine callG (add_d rb S s1 p2 nm ⟨2, 0, [], [], []⟩ ⟨rfl, rfl⟩ (by omega)) [0, 1, 2, 3, 4] rfl ⟨rfl, rfl, rfl, rfl, rfl, trivial⟩ rfl fun i _ => ?_
      (first | refine wX ?_ | exact wZ)
      refine ⟨dE rb S (addP s1 ⟨2, 0, [], [], []⟩) ({ p2 with m := p2.m ++ [plP ⟨2, 0, [], [], []⟩], ga := some ⟨i.1, 0, none⟩, gc := i.2 }) (nm ++ [plP ⟨2, 0, [], [], []⟩]), Nat.le_of_ble_eq_true rfl, seal_d (Nat.le_of_ble_eq_true rfl) rfl rfl rfl rfl (fun w hw => fun q hq => (List.mem_append.1 hq).elim (hw.1 q) (fun h => by rw [List.mem_singleton.1 h]; exact cell_plain rfl rfl w)), ⟨_, rfl⟩, ⟨⟨_, addP s1 ⟨2, 0, [], [], []⟩, { p2 with m := p2.m ++ [plP ⟨2, 0, [], [], []⟩], ga := some ⟨i.1, 0, none⟩, gc := i.2 }, [plP ⟨2, 0, [], [], []⟩]⟩, ⟨?_, ?_, ?_, ?_, ?_, ?_, ?_⟩, rfl, rfl⟩⟩
      · exact ok2.add ⟨2, 0, [], [], []⟩ _ _
      · exact by first | rfl | (show _ = _; rw [hp3])
      · intro q hq
        rw [List.mem_singleton.1 hq]
        exact ok_leaf rfl rfl (Nat.zero_le _)
      · exact hl2
      · exact add_le le2 (by omega) _
      · exact fun _ => by show s1.s.length < _; omega
      · show Tel _ (p2.m.length : Int) _
        rw [hm3]
        exact form_open htel he h64 h5 hx (Tel.addS he _)
    · have htk := (Ref.num (2 * maxN)).tel he
      have hnum := number_d rb S (by omega) s1 p2 nm hl1 (2 * maxN)
      have ok2 := ok1.same (num_keep (2 * maxN) s1)
      have le2 := le1.trans (num_le (2 * maxN) s1)
      have hl2 := hl1.num (2 * maxN)
      have hkp := num_keep (2 * maxN) s1
      have hmo := num_most (2 * maxN) s1
      have hls2 := (num_le (2 * maxN) s1).s
      generalize numM (2 * maxN) s1 = q at htk hnum ok2 le2 hl2 hkp hmo hls2
      obtain ⟨m, s2⟩ := q
      simp only at htk hnum ok2 le2 hl2 hkp hmo hls2
      have hmo : m ≤ 2000000000000000 := hmo
      have hg2 : s2.g.length = s1.g.length := by rw [hkp.2.1]
      (first | refine wX ?_ | exact wZ)
      refine LdN.one (a := some ⟨rb, 0, none⟩) (q := 2) (.slice p2.ga p2.m.length p2.gc) rfl (fun w hw => hw.1) rfl ?_
      (first | refine wX ?_ | exact wZ)
      rw [show decide ((p2.m.length : Int) ≥ 500) = false by simp; omega]
      (first | refine wX ?_ | exact wZ)
      refine callG (hnum) [0, 1, 2, 3, 4] rfl ⟨rfl, rfl, rfl, rfl, rfl, trivial⟩ rfl fun _ _ => ?_
      (first | refine wX ?_ | exact wZ)
      have em : (m : Int).tmod 2 = ((m % 2 : Nat) : Int) := (Int.ofNat_tmod m 2).symm
      have ed : (m : Int).tdiv 2 = ((m / 2 : Nat) : Int) := (Int.ofNat_tdiv m 2).symm
      refine brd_eq (fun h => ?_) (fun h => ?_)
      · have hu : unsgn m = -(((m + 1) / 2 : Nat) : Int) := by unfold unsgn; rw [if_pos (by omega)]
        (first | refine wX ?_ | exact wZ)
        rw [show IntKind.i64.wrap ((IntKind.i64.wrap (0 - IntKind.i64.wrap ((m : Int) + 1))).tdiv 2) = unsgn m by
          rw [wrap_i64 (x := (m : Int) + 1) (by omega), wrap_i64 (x := 0 - ((m : Int) + 1)) (by omega), show (0 : Int) - ((m : Int) + 1) = -(((m + 1 : Nat)) : Int) by omega, Int.neg_tdiv, show ((m + 1 : Nat) : Int).tdiv 2 = (((m + 1) / 2 : Nat) : Int) from (Int.ofNat_tdiv (m + 1) 2).symm, wrap_i64 (by omega), hu]]
        refine callG (add_d rb S s2 p2 nm ⟨3, unsgn m, [], [], []⟩ ⟨rfl, rfl⟩ (by omega)) [0, 1, 2, 3, 4] rfl ⟨rfl, rfl, rfl, rfl, rfl, trivial⟩ rfl fun i _ => ?_
        (first | refine wX ?_ | exact wZ)
        refine ⟨dE rb S (addP s2 ⟨3, unsgn m, [], [], []⟩) ({ p2 with m := p2.m ++ [plP ⟨3, unsgn m, [], [], []⟩], ga := some ⟨i.1, 0, none⟩, gc := i.2 }) (nm ++ [plP ⟨3, unsgn m, [], [], []⟩]), Nat.le_of_ble_eq_true rfl, seal_d (Nat.le_of_ble_eq_true rfl) rfl rfl rfl rfl (fun w hw => fun q hq => (List.mem_append.1 hq).elim (hw.1 q) (fun h => by rw [List.mem_singleton.1 h]; exact cell_plain rfl rfl w)), ⟨_, rfl⟩, ⟨⟨_, addP s2 ⟨3, unsgn m, [], [], []⟩, { p2 with m := p2.m ++ [plP ⟨3, unsgn m, [], [], []⟩], ga := some ⟨i.1, 0, none⟩, gc := i.2 }, [plP ⟨3, unsgn m, [], [], []⟩]⟩, ⟨?_, ?_, ?_, ?_, ?_, ?_, ?_⟩, rfl, rfl⟩⟩
        · exact ok2.add ⟨3, unsgn m, [], [], []⟩ _ _
        · exact by first | rfl | (show _ = _; rw [hp3])
        · intro q hq
          rw [List.mem_singleton.1 hq]
          exact ok_leaf rfl rfl (Nat.zero_le _)
        · exact hl2
        · exact add_le le2 (by omega) _
        · exact fun _ => by show s2.s.length < _; omega
        · show Tel _ (p2.m.length : Int) _
          rw [hm3]
          exact form_open htel he h64 h5 hx (htk.bnd (fun h => Tel.addS h _) (fun _ => rfl))
      · have hu : unsgn m = ((m / 2 : Nat) : Int) := by unfold unsgn; rw [if_neg (by omega)]
        (first | refine wX ?_ | exact wZ)
        rw [show (m : Int).tdiv 2 = unsgn m by rw [ed, hu]]
        refine callG (add_d rb S s2 p2 nm ⟨3, unsgn m, [], [], []⟩ ⟨rfl, rfl⟩ (by omega)) [0, 1, 2, 3, 4] rfl ⟨rfl, rfl, rfl, rfl, rfl, trivial⟩ rfl fun i _ => ?_
        (first | refine wX ?_ | exact wZ)
        refine ⟨dE rb S (addP s2 ⟨3, unsgn m, [], [], []⟩) ({ p2 with m := p2.m ++ [plP ⟨3, unsgn m, [], [], []⟩], ga := some ⟨i.1, 0, none⟩, gc := i.2 }) (nm ++ [plP ⟨3, unsgn m, [], [], []⟩]), Nat.le_of_ble_eq_true rfl, seal_d (Nat.le_of_ble_eq_true rfl) rfl rfl rfl rfl (fun w hw => fun q hq => (List.mem_append.1 hq).elim (hw.1 q) (fun h => by rw [List.mem_singleton.1 h]; exact cell_plain rfl rfl w)), ⟨_, rfl⟩, ⟨⟨_, addP s2 ⟨3, unsgn m, [], [], []⟩, { p2 with m := p2.m ++ [plP ⟨3, unsgn m, [], [], []⟩], ga := some ⟨i.1, 0, none⟩, gc := i.2 }, [plP ⟨3, unsgn m, [], [], []⟩]⟩, ⟨?_, ?_, ?_, ?_, ?_, ?_, ?_⟩, rfl, rfl⟩⟩
        · exact ok2.add ⟨3, unsgn m, [], [], []⟩ _ _
        · exact by first | rfl | (show _ = _; rw [hp3])
        · intro q hq
          rw [List.mem_singleton.1 hq]
          exact ok_leaf rfl rfl (Nat.zero_le _)
        · exact hl2
        · exact add_le le2 (by omega) _
        · exact fun _ => by show s2.s.length < _; omega
        · show Tel _ (p2.m.length : Int) _
          rw [hm3]
          exact form_open htel he h64 h5 hx (htk.bnd (fun h => Tel.addS h _) (fun _ => rfl))
    · -- there is room for a cell
      (first | refine wX ?_ | exact wZ)
      refine LdN.one (a := some ⟨rb, 0, none⟩) (q := 2) (.slice p2.ga p2.m.length p2.gc) rfl (fun w hw => hw.1) rfl ?_
      (first | refine wX ?_ | exact wZ)
      rw [show decide ((p2.m.length : Int) ≥ 500) = false by simp; omega]
      (first | refine wX ?_ | exact wZ)
      refine callG (add_d rb S s1 p2 nm ⟨4, 0, [], [], []⟩ ⟨rfl, rfl⟩ (by omega)) [0, 1, 2, 3, 4] rfl ⟨rfl, rfl, rfl, rfl, rfl, trivial⟩ rfl fun i _ => ?_
      have ok2 := ok1.add ⟨4, 0, [], [], []⟩ i.1 i.2
      have hbo := open_bd2 b1 (by omega) ⟨4, 0, [], [], []⟩ (p2.m.length : Int)
      have hlo := open_le2 le1 (by omega) ⟨4, 0, [], [], []⟩ (p2.m.length : Int)
      have hbc := b1.cl
      (first | refine wX ?_ | exact wZ)
      refine LdN.one (a := some ⟨rb, 0, none⟩) (q := 3) (.slice p2.ca s1.cells.length p2.cc) rfl (fun w hw => hw.1) rfl ?_
      (first | refine wX ?_ | exact wZ)
      refine Nd.mk ⟨Nat.le_refl 1, rfl, rfl⟩ ?_
      (conv => whnf)
      refine AppN.grow 3 (iC s1.cells) [.int .i64 (p2.m.length : Int)] rfl rfl ⟨Nat.le_refl 1, ⟨by show (s1.cells.length + 1) * 8 ≤ _; omega, by omega⟩, by decide⟩ fun cb cc' g1 g2 => ?_
      (first | refine wX ?_ | exact wZ)
      have e1 : iC s1.cells ++ [.int .i64 (p2.m.length : Int)] = iC (s1.cells ++ [(p2.m.length : Int)]) := by simp [iC]
      have e2 : s1.cells.length + 1 = (s1.cells ++ [(p2.m.length : Int)]).length := by simp
      rw [e1, e2]
      refine EffW.appTo (i := 0) (q := 3) (ys := [_]) (ddC S (cellsP (addP s1 ⟨4, 0, [], [], []⟩) (p2.m.length : Int)) ({ p2 with m := p2.m ++ [plP ⟨4, 0, [], [], []⟩], ga := some ⟨i.1, 0, none⟩, gc := i.2, ca := some ⟨cb, 0, none⟩, cc := cc' } : RdP)) 6 rfl rfl rfl rfl rfl rfl rfl (Nat.le_of_ble_eq_true rfl) rfl rfl ?_
      have ok3 : OkD (cellsP (addP s1 ⟨4, 0, [], [], []⟩) (p2.m.length : Int)) ({ p2 with m := p2.m ++ [plP ⟨4, 0, [], [], []⟩], ga := some ⟨i.1, 0, none⟩, gc := i.2, ca := some ⟨cb, 0, none⟩, cc := cc' } : RdP) := ⟨ok2.g, ok2.ga, (fun h => by cases h), ok2.sa, ok2.sw, ok2.gx⟩
      have h03 : ((cellsP (addP s1 ⟨4, 0, [], [], []⟩) (p2.m.length : Int))).e = 0 := he
      have hl3 : Left S (cellsP (addP s1 ⟨4, 0, [], [], []⟩) (p2.m.length : Int)) := hl1
      have htk := (Ref.text maxN).tel h03
      have htx := text_e rb S (by omega) (cellsP (addP s1 ⟨4, 0, [], [], []⟩) (p2.m.length : Int)) ({ p2 with m := p2.m ++ [plP ⟨4, 0, [], [], []⟩], ga := some ⟨i.1, 0, none⟩, gc := i.2, ca := some ⟨cb, 0, none⟩, cc := cc' } : RdP) nm hl3 maxN
      have htl := text_len maxN (cellsP (addP s1 ⟨4, 0, [], [], []⟩) (p2.m.length : Int))
      have ok4 := ok3.same (text_keep maxN (cellsP (addP s1 ⟨4, 0, [], [], []⟩) (p2.m.length : Int)))
      have hl4 := hl3.text maxN
      have le4 := hlo.trans (text_le maxN (cellsP (addP s1 ⟨4, 0, [], [], []⟩) (p2.m.length : Int)))
      have hls4 := (text_le maxN (cellsP (addP s1 ⟨4, 0, [], [], []⟩) (p2.m.length : Int))).s
      generalize textM maxN (cellsP (addP s1 ⟨4, 0, [], [], []⟩) (p2.m.length : Int)) = q at htk htx htl ok4 hl4 le4 hls4
      obtain ⟨t, s4⟩ := q
      simp only at htk htx htl ok4 hl4 le4 hls4
      have hls4 : s4.s.length ≤ s1.s.length := hls4
      have htl : t.length ≤ s1.s.length := htl
      (first | refine wX ?_ | exact wZ)
      refine DrawN.planC (fun w => w.cell? ((⟨rb, 0, none⟩ : Addr).add 2) = some (.slice (some ⟨i.1, 0, none⟩) (p2.m ++ [plP ⟨4, 0, [], [], []⟩]).length i.2)) [0, 4, 5] [(1, 1), (2, 2), (3, 1), (6, 0)] [(7, 0), (8, 0), (9, 0)] (by decide +kernel) (fun w hw => hw.1.cell rfl) ?_
      ((conv => whnf); (repeat ((first | refine Nd.mk (fun w hw => hw.1.cell rfl) ?_ | refine ReadC.nil rfl rfl ?_ | refine VrN.norm (wrap_i64 (by omega)) ?_ | refine VrN.keep ?_ | refine Nd.mk (by decide +kernel) ?_ | refine Nd.mk (by omega) ?_ | refine RdN.intro _ rfl (by rfl) ?_); (conv => whnf))))
      refine ReadC.load _ rfl rfl (fun w hw => loadVar_cell rfl hw) ?_
      ((conv => whnf); (repeat ((first | refine Nd.mk (fun w hw => hw.1.cell rfl) ?_ | refine ReadC.nil rfl rfl ?_ | refine VrN.norm (wrap_i64 (by omega)) ?_ | refine VrN.keep ?_ | refine Nd.mk (by decide +kernel) ?_ | refine Nd.mk (by omega) ?_ | refine RdN.intro _ rfl (by rfl) ?_); (conv => whnf))))
      refine callG (htx) [0, 1, 2, 3, 4] rfl ⟨rfl, rfl, rfl, rfl, rfl, trivial⟩ rfl fun _ _ => ?_
      ((conv => whnf); (repeat ((first | refine Nd.mk (fun w hw => hw.1.cell rfl) ?_ | refine ReadC.nil rfl rfl ?_ | refine VrN.norm (wrap_i64 (by omega)) ?_ | refine VrN.keep ?_ | refine Nd.mk (by decide +kernel) ?_ | refine Nd.mk (by omega) ?_ | refine RdN.intro _ rfl (by rfl) ?_); (conv => whnf))))
      have hml4 : (p2.m ++ [plP ⟨4, 0, [], [], []⟩]).length = p2.m.length + 1 := by simp
      refine Nd.mk ⟨rfl, by omega, by omega⟩ ?_
      (conv => whnf)
      have hgk : (p2.m ++ [plP ⟨4, 0, [], [], []⟩])[p2.m.length]? = some (plP ⟨4, 0, [], [], []⟩) := pre_get _ _ _
      have hset : (p2.m ++ [plP ⟨4, 0, [], [], []⟩]).set p2.m.length (plP ⟨4, 0, t, [], []⟩) = p2.m ++ [plP ⟨4, 0, t, [], []⟩] := pre_set _ _ _ _
      have hq2 : p2.m.length * 5 + 2 < (grC (p2.m ++ [plP ⟨4, 0, [], [], []⟩])).length := by rw [grC_len]; omega
      refine EffW.appTo (i := 1) (q := p2.m.length * 5 + 2) (ys := [.string (bs t)]) (grC (p2.m ++ [plP ⟨4, 0, t, [], []⟩])) 5 rfl (by rw [Int.toNat_natCast]; show AV.c (CV.v (Value.pointer (some (((⟨i.1, 0, none⟩ : Addr).add (p2.m.length * 5)).add 2)))) = _; rw [add_lit0, add_lit]) rfl rfl rfl rfl rfl (by show p2.m.length * 5 + 2 + 1 ≤ (p2.m ++ [plP ⟨4, 0, [], [], []⟩]).length * 5; omega) ((put_set _ hq2).trans ((grC_fld (by omega) hgk rfl).trans (by rw [hset]))) rfl ?_
      (first | refine wX ?_ | exact wZ)
      have hml5 : (p2.m ++ [plP ⟨4, 0, t, [], []⟩]).length = (p2.m ++ [plP ⟨4, 0, [], [], []⟩]).length := by simp
      have hrc : ddC S (putG p2.m.length ⟨4, 0, t, [], []⟩ s4) { ({ p2 with m := p2.m ++ [plP ⟨4, 0, [], [], []⟩], ga := some ⟨i.1, 0, none⟩, gc := i.2, ca := some ⟨cb, 0, none⟩, cc := cc' } : RdP) with m := p2.m ++ [plP ⟨4, 0, t, [], []⟩] } = ddC S s4 ({ p2 with m := p2.m ++ [plP ⟨4, 0, [], [], []⟩], ga := some ⟨i.1, 0, none⟩, gc := i.2, ca := some ⟨cb, 0, none⟩, cc := cc' } : RdP) := by simp [ddC, putG]
      have hgd : s4.g.getD p2.m.length nilC = ⟨4, 0, [], [], []⟩ := map_get ok4.g (q := plP ⟨4, 0, [], [], []⟩) hgk
      refine ⟨dE rb S (putG p2.m.length ⟨4, 0, t, [], []⟩ s4) { ({ p2 with m := p2.m ++ [plP ⟨4, 0, [], [], []⟩], ga := some ⟨i.1, 0, none⟩, gc := i.2, ca := some ⟨cb, 0, none⟩, cc := cc' } : RdP) with m := p2.m ++ [plP ⟨4, 0, t, [], []⟩] } (nm ++ [plP ⟨4, 0, t, [], []⟩]), Nat.le_of_ble_eq_true rfl, seal_d (Nat.le_of_ble_eq_true rfl) (by rw [hrc]; rfl) (by rw [hml5]; rfl) rfl rfl (fun w hw => fun q hq => (List.mem_append.1 hq).elim (hw.1 q) (fun h => by rw [List.mem_singleton.1 h]; exact cell_plain rfl rfl w)), ⟨_, rfl⟩, ⟨⟨_, putG p2.m.length ⟨4, 0, t, [], []⟩ s4, { ({ p2 with m := p2.m ++ [plP ⟨4, 0, [], [], []⟩], ga := some ⟨i.1, 0, none⟩, gc := i.2, ca := some ⟨cb, 0, none⟩, cc := cc' } : RdP) with m := p2.m ++ [plP ⟨4, 0, t, [], []⟩] }, [plP ⟨4, 0, t, [], []⟩]⟩, ⟨?_, ?_, ?_, ?_, ?_, ?_, ?_⟩, rfl, rfl⟩⟩
      · have h9 := ok4.put p2.m.length (plP ⟨4, 0, t, [], []⟩) (by show p2.m.length < (p2.m ++ [plP ⟨4, 0, [], [], []⟩]).length; omega)
        rw [show (({ p2 with m := p2.m ++ [plP ⟨4, 0, [], [], []⟩], ga := some ⟨i.1, 0, none⟩, gc := i.2, ca := some ⟨cb, 0, none⟩, cc := cc' } : RdP)).m.set p2.m.length (plP ⟨4, 0, t, [], []⟩) = p2.m ++ [plP ⟨4, 0, t, [], []⟩] from hset] at h9
        exact h9
      · rfl
      · intro q hq
        rw [List.mem_singleton.1 hq]
        exact ok_leaf rfl rfl (by show t.length ≤ _; omega)
      · exact hl4
      · exact le4.trans (put_le _ _ _)
      · exact fun _ => by show s4.s.length < _; omega
      · show Tel _ (p2.m.length : Int) _
        rw [hml]
        refine form_open htel he h64 h5 hx ?_
        have h9 : openK 4 (toS s1) = toS (cellsP (addP s1 ⟨4, 0, [], [], []⟩) (p2.m.length : Int)) := by rw [hml]; rfl
        show Tel (Marshal.bnd (textS maxN (openK 4 (toS s1))) fun t st' => .ok ((), setT s1.g.length t st')) () _
        rw [h9]
        refine htk.bnd (fun h => ?_) (fun _ => rfl)
        rw [hml] at hgd
        have h8 : setT s1.g.length t (toS s4) = toS (putG s1.g.length ⟨4, 0, t, [], []⟩ s4) := by
          unfold setT toS putG
          simp only [hgd]
        show Tel (.ok ((), setT s1.g.length t (toS s4))) () (putG s1.g.length ⟨4, 0, t, [], []⟩ s4)
        rw [h8]
        exact Tel.ok h
    · have hls2 : (symD 58 s1).2.s.length ≤ s1.s.length := (symD_le 58 s1).s
      have htk := (Ref.symD 58).tel he
      have hsym := symbol_d rb S (by omega) 58 s1 p2 nm hl1 ok1.sa (by omega)
      have oks := fun i hi => ok1.sym (by omega) 58 (i := i) hi
      have hl2 := symD_left hl1 58
      have hlen := (symD_len 58 s1 (by omega) ok1.sw).1
      have hkp := symD_keep 58 s1
      have le2 := les
      generalize symD 58 s1 = q at htk hsym oks hl2 hlen hkp le2 hls2
      obtain ⟨t, s2⟩ := q
      simp only at htk hsym oks hl2 hlen hkp le2 hls2
      have hg2 : s2.g.length = s1.g.length := by rw [hkp.1]
      have hs2 : s2.s.length < st.s.length := Nat.lt_of_le_of_lt hls2 hs1
      (first | refine wX ?_ | exact wZ)
      refine LdN.one (a := some ⟨rb, 0, none⟩) (q := 2) (.slice p2.ga p2.m.length p2.gc) rfl (fun w hw => hw.1) rfl ?_
      (first | refine wX ?_ | exact wZ)
      rw [show decide ((p2.m.length : Int) ≥ 500) = false by simp; omega]
      (first | refine wX ?_ | exact wZ)
      refine callG hsym [0, 1, 2, 3, 4] rfl ⟨rfl, rfl, rfl, rfl, rfl, trivial⟩ rfl fun j hj => ?_
      have ok2 := oks j hj
      obtain ⟨p3, hp3⟩ : ∃ p3 : RdP, p3 = { p2 with sa := j.1, sc := j.2 } := ⟨_, rfl⟩
      have hm3 : p3.m.length = s1.g.length := by rw [hp3]; exact hml
      rw [← hp3] at ok2 ⊢
      (first | refine wX ?_ | exact wZ)
      refine callG (add_d rb S s2 p3 nm ⟨5, 0, t, [], []⟩ ⟨rfl, rfl⟩ (by omega)) [0, 1, 2, 3, 4] rfl ⟨rfl, rfl, rfl, rfl, rfl, trivial⟩ rfl fun i _ => ?_
      (first | refine wX ?_ | exact wZ)
      refine ⟨dE rb S (addP s2 ⟨5, 0, t, [], []⟩) ({ p3 with m := p3.m ++ [plP ⟨5, 0, t, [], []⟩], ga := some ⟨i.1, 0, none⟩, gc := i.2 }) (nm ++ [plP ⟨5, 0, t, [], []⟩]), Nat.le_of_ble_eq_true rfl, seal_d (Nat.le_of_ble_eq_true rfl) rfl rfl rfl rfl (fun w hw => fun q hq => (List.mem_append.1 hq).elim (hw.1 q) (fun h => by rw [List.mem_singleton.1 h]; exact cell_plain rfl rfl w)), ⟨_, rfl⟩, ⟨⟨_, addP s2 ⟨5, 0, t, [], []⟩, { p3 with m := p3.m ++ [plP ⟨5, 0, t, [], []⟩], ga := some ⟨i.1, 0, none⟩, gc := i.2 }, [plP ⟨5, 0, t, [], []⟩]⟩, ⟨?_, ?_, ?_, ?_, ?_, ?_, ?_⟩, rfl, rfl⟩⟩
      · exact ok2.add ⟨5, 0, t, [], []⟩ _ _
      · exact by first | rfl | (show _ = _; rw [hp3])
      · intro q hq
        rw [List.mem_singleton.1 hq]
        exact ok_leaf rfl rfl (hlen)
      · exact hl2
      · exact add_le le2 (by omega) _
      · exact fun _ => by show s2.s.length < _; omega
      · show Tel _ (p3.m.length : Int) _
        rw [hm3]
        exact form_open htel he h64 h5 hx (htk.bnd (fun h => Tel.addS h _) (fun _ => rfl))
    · have hls2 : (symD 59 s1).2.s.length ≤ s1.s.length := (symD_le 59 s1).s
      have htk := (Ref.symD 59).tel he
      have hsym := symbol_d rb S (by omega) 59 s1 p2 nm hl1 ok1.sa (by omega)
      have oks := fun i hi => ok1.sym (by omega) 59 (i := i) hi
      have hl2 := symD_left hl1 59
      have hlen := (symD_len 59 s1 (by omega) ok1.sw).1
      have hkp := symD_keep 59 s1
      have le2 := les
      generalize symD 59 s1 = q at htk hsym oks hl2 hlen hkp le2 hls2
      obtain ⟨t, s2⟩ := q
      simp only at htk hsym oks hl2 hlen hkp le2 hls2
      have hg2 : s2.g.length = s1.g.length := by rw [hkp.1]
      have hs2 : s2.s.length < st.s.length := Nat.lt_of_le_of_lt hls2 hs1
      (first | refine wX ?_ | exact wZ)
      refine LdN.one (a := some ⟨rb, 0, none⟩) (q := 2) (.slice p2.ga p2.m.length p2.gc) rfl (fun w hw => hw.1) rfl ?_
      (first | refine wX ?_ | exact wZ)
      rw [show decide ((p2.m.length : Int) ≥ 500) = false by simp; omega]
      (first | refine wX ?_ | exact wZ)
      refine callG hsym [0, 1, 2, 3, 4] rfl ⟨rfl, rfl, rfl, rfl, rfl, trivial⟩ rfl fun j hj => ?_
      have ok2 := oks j hj
      obtain ⟨p3, hp3⟩ : ∃ p3 : RdP, p3 = { p2 with sa := j.1, sc := j.2 } := ⟨_, rfl⟩
      have hm3 : p3.m.length = s1.g.length := by rw [hp3]; exact hml
      rw [← hp3] at ok2 ⊢
      (first | refine wX ?_ | exact wZ)
      refine callG (add_d rb S s2 p3 nm ⟨5, 0, t, [], []⟩ ⟨rfl, rfl⟩ (by omega)) [0, 1, 2, 3, 4] rfl ⟨rfl, rfl, rfl, rfl, rfl, trivial⟩ rfl fun i _ => ?_
      (first | refine wX ?_ | exact wZ)
      refine ⟨dE rb S (addP s2 ⟨5, 0, t, [], []⟩) ({ p3 with m := p3.m ++ [plP ⟨5, 0, t, [], []⟩], ga := some ⟨i.1, 0, none⟩, gc := i.2 }) (nm ++ [plP ⟨5, 0, t, [], []⟩]), Nat.le_of_ble_eq_true rfl, seal_d (Nat.le_of_ble_eq_true rfl) rfl rfl rfl rfl (fun w hw => fun q hq => (List.mem_append.1 hq).elim (hw.1 q) (fun h => by rw [List.mem_singleton.1 h]; exact cell_plain rfl rfl w)), ⟨_, rfl⟩, ⟨⟨_, addP s2 ⟨5, 0, t, [], []⟩, { p3 with m := p3.m ++ [plP ⟨5, 0, t, [], []⟩], ga := some ⟨i.1, 0, none⟩, gc := i.2 }, [plP ⟨5, 0, t, [], []⟩]⟩, ⟨?_, ?_, ?_, ?_, ?_, ?_, ?_⟩, rfl, rfl⟩⟩
      · exact ok2.add ⟨5, 0, t, [], []⟩ _ _
      · exact by first | rfl | (show _ = _; rw [hp3])
      · intro q hq
        rw [List.mem_singleton.1 hq]
        exact ok_leaf rfl rfl (hlen)
      · exact hl2
      · exact add_le le2 (by omega) _
      · exact fun _ => by show s2.s.length < _; omega
      · show Tel _ (p3.m.length : Int) _
        rw [hm3]
        exact form_open htel he h64 h5 hx (htk.bnd (fun h => Tel.addS h _) (fun _ => rfl))
    · -- a list of kind 6, so many items for each of its number; rw [Nat.mul_one]: so many are read
      (first | refine wX ?_ | exact wZ)
      refine LdN.one (a := some ⟨rb, 0, none⟩) (q := 2) (.slice p2.ga p2.m.length p2.gc) rfl (fun w hw => hw.1) rfl ?_
      (first | refine wX ?_ | exact wZ)
      rw [show decide ((p2.m.length : Int) ≥ 500) = false by simp; omega]
      (first | refine wX ?_ | exact wZ)
      refine callG (add_d rb S s1 p2 nm ⟨6, 0, [], [], []⟩ ⟨rfl, rfl⟩ (by omega)) [0, 1, 2, 3, 4] rfl ⟨rfl, rfl, rfl, rfl, rfl, trivial⟩ rfl fun i _ => ?_
      have ok3 := ok1.add ⟨6, 0, [], [], []⟩ i.1 i.2
      have hbo := open_bd2 b1 (by omega) ⟨6, 0, [], [], []⟩ (p2.m.length : Int)
      have hit := items_d n hc rb S hS (addP s1 ⟨6, 0, [], [], []⟩) { p2 with m := p2.m ++ [plP ⟨6, 0, [], [], []⟩], ga := some ⟨i.1, 0, none⟩, gc := i.2 } p2.m 6 1 (by omega) (by omega) ok3 rfl hbo hl1 he (by show s1.s.length < n; omega) nm
      (first | refine wX ?_ | exact wZ)
      refine callG hit [0, 1, 2, 3, 4, 6] rfl ⟨rfl, rfl, rfl, rfl, rfl, rfl, trivial⟩ rfl fun it hit2 => ?_
      obtain ⟨hi, htl⟩ := hit2
      (first | refine wX ?_ | exact wZ)
      have hls2 : it.st.s.length ≤ s1.s.length := hi.le.s
      have hlo := open_le2 le1 (by omega) ⟨6, 0, [], [], []⟩ (p2.m.length : Int)
      refine ⟨dE rb S (it.st) (it.p) (nm ++ itP 6 it.l it.a it.cap :: it.nm), Nat.le_of_ble_eq_true rfl, seal_d (Nat.le_of_ble_eq_true rfl) rfl rfl rfl rfl (fun w hw => fun q hq => (List.mem_append.1 hq).elim (fun h => hw.1 q (List.mem_append_left _ h)) (fun h => (List.mem_cons.1 h).elim (fun h => by rw [h]; exact ⟨slAt_nil w, hw.2.2.1⟩) (fun h => hw.1 q (List.mem_append_right _ h)))), ⟨_, rfl⟩, ⟨⟨_, it.st, it.p, itP 6 it.l it.a it.cap :: it.nm⟩, ⟨?_, ?_, ?_, ?_, ?_, ?_, ?_⟩, rfl, rfl⟩⟩
      · exact hi.ok
      · exact hi.m
      · intro q hq
        rcases List.mem_cons.1 hq with h | h
        · rw [h]
          have h8 := hi.ll
          exact ⟨fun _ => rfl, hi.la, Nat.zero_le _, by show it.l.length ≤ _; omega, (fun s hs => by cases hs), Nat.zero_le _, Nat.le_refl _, hi.lc⟩
        · exact hi.cell q h
      · exact hi.left
      · exact hlo.trans hi.le
      · exact fun _ => by show it.st.s.length < _; omega
      · show Tel _ (p2.m.length : Int) _
        rw [hml]
        refine form_open htel he h64 h5 hx ?_
        have h9 : (Marshal.bnd (numS maxN (openK 6 (toS s1))) fun n' st' => itemsD (formD n) s1.g.length (n') st') = Marshal.bnd (numS maxN (toS (cellsP (addP s1 ⟨6, 0, [], [], []⟩) (p2.m.length : Int)))) fun m s => itemsD (formD n) p2.m.length (m * 1) s := by
          rw [hml]
          congr 1
          funext m s
          rw [Nat.mul_one]
        show Tel (Marshal.bnd (numS maxN (openK 6 (toS s1))) fun n' st' => itemsD (formD n) s1.g.length (n') st') () it.st
        rw [h9]
        exact htl
    · -- a list of kind 7, so many items for each of its number; rw [Nat.mul_comm]: so many are read
      (first | refine wX ?_ | exact wZ)
      refine LdN.one (a := some ⟨rb, 0, none⟩) (q := 2) (.slice p2.ga p2.m.length p2.gc) rfl (fun w hw => hw.1) rfl ?_
      (first | refine wX ?_ | exact wZ)
      rw [show decide ((p2.m.length : Int) ≥ 500) = false by simp; omega]
      (first | refine wX ?_ | exact wZ)
      refine callG (add_d rb S s1 p2 nm ⟨7, 0, [], [], []⟩ ⟨rfl, rfl⟩ (by omega)) [0, 1, 2, 3, 4] rfl ⟨rfl, rfl, rfl, rfl, rfl, trivial⟩ rfl fun i _ => ?_
      have ok3 := ok1.add ⟨7, 0, [], [], []⟩ i.1 i.2
      have hbo := open_bd2 b1 (by omega) ⟨7, 0, [], [], []⟩ (p2.m.length : Int)
      have hit := items_d n hc rb S hS (addP s1 ⟨7, 0, [], [], []⟩) { p2 with m := p2.m ++ [plP ⟨7, 0, [], [], []⟩], ga := some ⟨i.1, 0, none⟩, gc := i.2 } p2.m 7 2 (by omega) (by omega) ok3 rfl hbo hl1 he (by show s1.s.length < n; omega) nm
      (first | refine wX ?_ | exact wZ)
      refine callG hit [0, 1, 2, 3, 4, 6] rfl ⟨rfl, rfl, rfl, rfl, rfl, rfl, trivial⟩ rfl fun it hit2 => ?_
      obtain ⟨hi, htl⟩ := hit2
      (first | refine wX ?_ | exact wZ)
      have hls2 : it.st.s.length ≤ s1.s.length := hi.le.s
      have hlo := open_le2 le1 (by omega) ⟨7, 0, [], [], []⟩ (p2.m.length : Int)
      refine ⟨dE rb S (it.st) (it.p) (nm ++ itP 7 it.l it.a it.cap :: it.nm), Nat.le_of_ble_eq_true rfl, seal_d (Nat.le_of_ble_eq_true rfl) rfl rfl rfl rfl (fun w hw => fun q hq => (List.mem_append.1 hq).elim (fun h => hw.1 q (List.mem_append_left _ h)) (fun h => (List.mem_cons.1 h).elim (fun h => by rw [h]; exact ⟨slAt_nil w, hw.2.2.1⟩) (fun h => hw.1 q (List.mem_append_right _ h)))), ⟨_, rfl⟩, ⟨⟨_, it.st, it.p, itP 7 it.l it.a it.cap :: it.nm⟩, ⟨?_, ?_, ?_, ?_, ?_, ?_, ?_⟩, rfl, rfl⟩⟩
      · exact hi.ok
      · exact hi.m
      · intro q hq
        rcases List.mem_cons.1 hq with h | h
        · rw [h]
          have h8 := hi.ll
          exact ⟨fun _ => rfl, hi.la, Nat.zero_le _, by show it.l.length ≤ _; omega, (fun s hs => by cases hs), Nat.zero_le _, Nat.le_refl _, hi.lc⟩
        · exact hi.cell q h
      · exact hi.left
      · exact hlo.trans hi.le
      · exact fun _ => by show it.st.s.length < _; omega
      · show Tel _ (p2.m.length : Int) _
        rw [hml]
        refine form_open htel he h64 h5 hx ?_
        have h9 : (Marshal.bnd (numS maxN (openK 7 (toS s1))) fun n' st' => itemsD (formD n) s1.g.length (2 * n') st') = Marshal.bnd (numS maxN (toS (cellsP (addP s1 ⟨7, 0, [], [], []⟩) (p2.m.length : Int)))) fun m s => itemsD (formD n) p2.m.length (m * 2) s := by
          rw [hml]
          congr 1
          funext m s
          rw [Nat.mul_comm]
        show Tel (Marshal.bnd (numS maxN (openK 7 (toS s1))) fun n' st' => itemsD (formD n) s1.g.length (2 * n') st') () it.st
        rw [h9]
        exact htl
    · -- there is room for a cell
      (first | refine wX ?_ | exact wZ)
      refine LdN.one (a := some ⟨rb, 0, none⟩) (q := 2) (.slice p2.ga p2.m.length p2.gc) rfl (fun w hw => hw.1) rfl ?_
      (first | refine wX ?_ | exact wZ)
      rw [show decide ((p2.m.length : Int) ≥ 500) = false by simp; omega]
      (first | refine wX ?_ | exact wZ)
      refine callG (add_d rb S s1 p2 nm ⟨8, 0, [], [], []⟩ ⟨rfl, rfl⟩ (by omega)) [0, 1, 2, 3, 4] rfl ⟨rfl, rfl, rfl, rfl, rfl, trivial⟩ rfl fun i _ => ?_
      have ok3 := ok1.add ⟨8, 0, [], [], []⟩ i.1 i.2
      have hbo := open_bd2 b1 (by omega) ⟨8, 0, [], [], []⟩ (p2.m.length : Int)
      have hob := object_d n hc rb S hS (addP s1 ⟨8, 0, [], [], []⟩) { p2 with m := p2.m ++ [plP ⟨8, 0, [], [], []⟩], ga := some ⟨i.1, 0, none⟩, gc := i.2 } p2.m ok3 rfl hbo hl1 he (by show s1.s.length < n; omega) nm
      (first | refine wX ?_ | exact wZ)
      refine callG hob [0, 1, 2, 3, 4, 5, 6] rfl ⟨rfl, rfl, rfl, rfl, rfl, rfl, rfl, trivial⟩ rfl fun ob hob2 => ?_
      obtain ⟨hi, htl⟩ := hob2
      (first | refine wX ?_ | exact wZ)
      have hls2 : ob.st.s.length ≤ s1.s.length := hi.le.s
      have hlo := open_le2 le1 (by omega) ⟨8, 0, [], [], []⟩ (p2.m.length : Int)
      refine ⟨dE rb S (ob.st) (ob.p) (nm ++ ob.c :: ob.nm), Nat.le_of_ble_eq_true rfl, seal_d (Nat.le_of_ble_eq_true rfl) rfl rfl rfl rfl (fun w hw => fun q hq => (List.mem_append.1 hq).elim (fun h => hw.1 q (List.mem_append_left _ h)) (fun h => (List.mem_cons.1 h).elim (fun h => by rw [h]; exact ⟨hw.2.1, hw.2.2.1⟩) (fun h => hw.1 q (List.mem_append_right _ h)))), ⟨_, rfl⟩, ⟨⟨_, ob.st, ob.p, ob.c :: ob.nm⟩, ⟨?_, ?_, ?_, ?_, ?_, ?_, ?_⟩, rfl, rfl⟩⟩
      · exact hi.ok
      · exact hi.m
      · intro q hq
        rcases List.mem_cons.1 hq with h | h
        · rw [h]
          have h8 := hi.ll
          have h9 := hi.nl
          have h7 := hi.tl
          exact ⟨hi.na, hi.ia, by show ob.ns.length ≤ _; omega, by show ob.l.length ≤ _; omega, fun s hs => Nat.le_trans (hi.nw s hs) (by omega), by show ob.t.length ≤ _; omega, hi.nb, hi.ib⟩
        · exact hi.cell q h
      · exact hi.left
      · exact hlo.trans hi.le
      · exact fun _ => by show ob.st.s.length < _; omega
      · show Tel _ (p2.m.length : Int) _
        rw [hml]
        refine form_open htel he h64 h5 hx ?_
        have h9 : objD (formD n) s1.g.length (openK 8 (toS s1)) = objD (formD n) p2.m.length (toS (cellsP (addP s1 ⟨8, 0, [], [], []⟩) (p2.m.length : Int))) := by
          rw [hml]
          rfl
        show Tel (objD (formD n) s1.g.length (openK 8 (toS s1))) () ob.st
        rw [h9]
        exact htl
  · have hne2 : ∀ c : UInt8, c ∈ begins → ((x.toNat : Int) == (c.toNat : Int)) = false := fun c hcb => by
      rw [beq_eq_false_iff_ne]
      intro h5
      exact hx (by rw [UInt8.toNat_inj.1 (show x.toNat = c.toNat by omega)]; exact hcb)
    have hp2 : ∃ p2 : RdP, p2 = p := ⟨p, rfl⟩
    obtain ⟨p2, rfl⟩ := hp2
    (first | refine wX ?_ | exact wZ)
    rw [show ((x.toNat : Int) != 64) = true by rw [bne, e64]; rfl]
    (first | refine wX ?_ | exact wZ)
    refine LdN.one (a := some ⟨rb, 0, none⟩) (q := 2) (.slice p2.ga p2.m.length p2.gc) rfl (fun w hw => hw.1) rfl ?_
    (first | refine wX ?_ | exact wZ)
    rw [show decide ((p2.m.length : Int) ≥ 500) = false by simp; omega]
    (first | refine wX ?_ | exact wZ)
    rw [show ((x.toNat : Int) == 48) = false from hne2 48 (by decide)]
    (first | refine wX ?_ | exact wZ)
    rw [show ((x.toNat : Int) == 84) = false from hne2 84 (by decide)]
    (first | refine wX ?_ | exact wZ)
    rw [show ((x.toNat : Int) == 70) = false from hne2 70 (by decide)]
    (first | refine wX ?_ | exact wZ)
    rw [show ((x.toNat : Int) == 105) = false from hne2 105 (by decide)]
    (first | refine wX ?_ | exact wZ)
    rw [show ((x.toNat : Int) == 58) = false from hne2 58 (by decide)]
    (first | refine wX ?_ | exact wZ)
    rw [show ((x.toNat : Int) == 59) = false from hne2 59 (by decide)]
    (first | refine wX ?_ | exact wZ)
    rw [e64]
    (first | refine wX ?_ | exact wZ)
    rw [show ((x.toNat : Int) == 34) = false from hne2 34 (by decide)]
    (first | refine wX ?_ | exact wZ)
    rw [show ((x.toNat : Int) == 91) = false from hne2 91 (by decide)]
    (first | refine wX ?_ | exact wZ)
    rw [show ((x.toNat : Int) == 123) = false from hne2 123 (by decide)]
    (first | refine wX ?_ | exact wZ)
    rw [show ((x.toNat : Int) == 111) = false from hne2 111 (by decide)]
    (first | refine wX ?_ | exact wZ)
    refine callG (fail_d rb S s1 p2 nm 4) [0, 1, 2, 3, 4] rfl ⟨rfl, rfl, rfl, rfl, rfl, trivial⟩ rfl fun _ _ => ?_
    (first | refine wX ?_ | exact wZ)
    refine ⟨dE rb S (failM s1 4) (p2) (nm ++ []), Nat.le_of_ble_eq_true rfl, seal_d (Nat.le_of_ble_eq_true rfl) rfl rfl rfl rfl (fun w hw => by rw [List.append_nil]; exact hw.1), ⟨_, rfl⟩, ⟨⟨_, failM s1 4, p2, []⟩, ⟨?_, ?_, ?_, ?_, ?_, ?_, ?_⟩, rfl, rfl⟩⟩
    · exact ok1.same (fail_ss s1 4)
    · exact (List.append_nil _).symm
    · intro q hq; cases hq
    · exact hl1.fail 4
    · exact le1.trans (fail_le s1 4)
    · exact fun h => by rw [fail_e he 4] at h; exact absurd h (by decide)
    · exact form_bad htel he h64 (.inr hx)
theorem form_d : ∀ n : Nat, FormC n
 | 0 => fun _ _ _ _ _ _ _ _ _ _ hn => absurd hn (Nat.not_lt_zero _)
 | n + 1 => form_step n (form_d n)
end Go.Proofs.YtgogonnnojcioaaGreatDoor

/-
 Plain: how wide the cells are that the program's reader holds.
-/
namespace Go.Marshal
open Go.Core

def WdC (c : Cell) : Prop := c.names.length ≤ 30001 ∧ c.items.length ≤ 30001
def Wd (st : PS) : Prop := ∀ c ∈ st.g, WdC c
theorem num_g (most : Nat) (st : PS) : (numM most st).2.g = st.g := by
 unfold numM
 split
 ·rfl
 split <;> rfl
theorem fail_g (st : PS) (e : Int) : (failM st e).g = st.g := by unfold failM; split <;> rfl
theorem next_g (st : PS) : (nextM st).2.g = st.g := by
 unfold nextM
 split
 ·rfl
 split <;> rfl
theorem text_g (most : Nat) (st : PS) : (textM most st).2.g = st.g := by
 have h := num_g maxN st
 unfold textM
 split
 ·exact h
 split
 ·exact h
 split <;> exact h
theorem sym_g (x : UInt8) (st : PS) : (symM x st).2.g = st.g := by
 have h1 := text_g 40 st
 have h2 := num_g maxN st
 unfold symM
 split
 ·simp only
  split
  ·rw [fail_g]; exact h1
  ·exact h1
 split
 ·split
  ·exact h2
  ·rw [fail_g]; exact h2
 ·exact fail_g _ _
theorem name_g (ns : List B) (st : PS) : (nameM ns st).2.g = st.g := by
 unfold nameM
 simp only
 split
 ·rw [fail_g, sym_g, next_g]
 ·rw [sym_g, next_g]
theorem class_g (st : PS) : (classM st).2.g = st.g := by
 unfold classM
 simp only
 split
 ·rw [fail_g, sym_g, next_g]
 ·rw [sym_g, next_g]
def WdF (f : PS → Int × PS) : Prop := ∀ st, Bd st → Wd st → Wd (f st).2
theorem items_wd {f : PS → Int × PS} (hf : Takes f) (hw : WdF f) : ∀ (n : Nat) (l : List Int) (st : PS), Bd st → Wd st → Wd (itemsM f n l st).2
 | 0, _, _, _, h => h
 | n + 1, l, st, b, h => by
  unfold itemsM
  split
  ·exact items_wd hf hw n _ _ (b.le (hf.le st)) (hw st b h)
  ·exact h
theorem attrs_wd {f : PS → Int × PS} (hf : Takes f) (hw : WdF f) : ∀ (n : Nat) (ns : List B) (l : List Int) (st : PS), Bd st → Wd st → Wd (attrsM f n ns l st).2
 | 0, _, _, _, _, h => h
 | n + 1, ns, l, st, b, h => by
  unfold attrsM
  split
  ·have b2 := b.le (name_le ns st)
   have h2 : Wd (nameM ns st).2 := by unfold Wd; rw [name_g]; exact h
   exact attrs_wd hf hw n _ _ _ (b2.le (hf.le _)) (hw _ b2 h2)
  ·exact h
theorem liv_le (st : PS) : liv st ≤ 1 := by unfold liv; split <;> omega
theorem items_w {f : PS → Int × PS} (hf : Takes f) (n : Nat) (st : PS) (b : Bd st) : (itemsM f n [] st).1.length ≤ 30001 := by
 have h := (items_le hf n [] st).2
 have h1 := liv_le st
 have h2 := b.pot
 have h3 : ([] : List Int).length = 0 := rfl
 omega
theorem inner_wd {f : PS → Int × PS} (hf : Takes f) (hw : WdF f) (x : UInt8) (st : PS) (b : Bd st) (h : Wd st) : WdC (innerM f x st).1 ∧ Wd (innerM f x st).2 := by
 have z : ∀ {c : Cell}, c.names = [] → c.items = [] → WdC c := fun h1 h2 => ⟨by rw [h1]; exact Nat.zero_le _, by rw [h2]; exact Nat.zero_le _⟩
 have bn := b.le (num_le maxN st)
 have hn : Wd (numM maxN st).2 := by unfold Wd; rw [num_g]; exact h
 unfold innerM
 split
 ·exact ⟨z rfl rfl, h⟩
 split
 ·exact ⟨z rfl rfl, h⟩
 split
 ·exact ⟨z rfl rfl, by unfold Wd; rw [num_g]; exact h⟩
 split
 ·exact ⟨z rfl rfl, by unfold Wd; rw [text_g]; exact h⟩
 split
 ·exact ⟨z rfl rfl, by unfold Wd; rw [sym_g]; exact h⟩
 split
 ·exact ⟨⟨Nat.zero_le _, items_w hf _ _ bn⟩, items_wd hf hw _ _ _ bn hn⟩
 split
 ·exact ⟨⟨Nat.zero_le _, items_w hf _ _ bn⟩, items_wd hf hw _ _ _ bn hn⟩
 split
 ·have bc := b.le (class_le st)
  have b2 := bc.le (num_le maxN (classM st).2)
  have h2 : Wd (numM maxN (classM st).2).2 := by unfold Wd; rw [num_g, class_g]; exact h
  obtain ⟨_, h4, h5⟩ := attrs_le hf (numM maxN (classM st).2).1 [] [] (numM maxN (classM st).2).2
  have h6 := liv_le (numM maxN (classM st).2).2
  have h7 := b2.pot
  have h8 : ([] : List Int).length = 0 := rfl
  have h9 : ([] : List B).length = 0 := rfl
  refine ⟨⟨?_, ?_⟩, attrs_wd hf hw _ _ _ _ b2 h2⟩
  ·show (attrsM f (numM maxN (classM st).2).1 [] [] (numM maxN (classM st).2).2).1.1.length ≤ _
   omega
  ·show (attrsM f (numM maxN (classM st).2).1 [] [] (numM maxN (classM st).2).2).1.2.length ≤ _
   omega
 ·exact ⟨z rfl rfl, h⟩
theorem open_bd {x : UInt8} {st : PS} (b : Bd st) (hg : ¬ 500 ≤ st.g.length) : Bd (openM x st) := by
 have b1 := b.cl
 refine ⟨?_, ?_, b.pot⟩
 ·show (st.g ++ [nilC]).length ≤ _
  simp
  omega
 ·show (if x ∈ named then st.cells ++ [(st.g.length : Int)] else st.cells).length ≤ (st.g ++ [nilC]).length
  split
  ·simp; omega
  ·simp; omega
theorem cell_wd : ∀ n : Nat, WdF (cellM n)
 | 0 => fun st b h => by
  show ∀ c ∈ (failM st 99).g, _
  rw [fail_g]
  exact h
 | n + 1 => fun st b h => by
  have ih := cell_wd n
  have b1 := b.le (next_le st)
  have h1 : Wd (nextM st).2 := by unfold Wd; rw [next_g]; exact h
  unfold cellM
  simp only
  split
  ·exact h1
  split
  ·unfold refM
   simp only
   have hn : Wd (numM maxN (nextM st).2).2 := by unfold Wd; rw [num_g]; exact h1
   split
   ·exact hn
   split
   ·unfold Wd; rw [fail_g]; exact hn
   ·exact hn
  split
  ·unfold Wd; rw [fail_g]; exact h1
  ·rename_i h2 h3
   have hg : ¬ 500 ≤ (nextM st).2.g.length := fun h => h3 (.inl h)
   have bo := open_bd (x := (nextM st).1) b1 hg
   have ho : Wd (openM (nextM st).1 (nextM st).2) := by
    intro c hc
    rcases List.mem_append.1 (show c ∈ (nextM st).2.g ++ [nilC] from hc) with hc | hc
    ·exact h1 c hc
    ·obtain rfl := List.mem_singleton.1 hc
     exact ⟨Nat.zero_le _, Nat.zero_le _⟩
   obtain ⟨w1, w2⟩ := inner_wd (cell_takes n) ih (nextM st).1 (openM (nextM st).1 (nextM st).2) bo ho
   intro c hc
   rcases List.mem_or_eq_of_mem_set (show c ∈ (innerM (cellM n) (nextM st).1 (openM (nextM st).1 (nextM st).2)).2.g.set (nextM st).2.g.length (innerM (cellM n) (nextM st).1 (openM (nextM st).1 (nextM st).2)).1 from hc) with hc | hc
   ·exact w2 c hc
   ·rw [hc]; exact w1
end Go.Marshal

/-
 AX, thirty-eighth text: []byte of a constant: the row is marked behind its cells.
-/
namespace Go.AX
open Go.RowKit

theorem run_convert_own {P : Program} (w : World) (t e : TypeId) (b : Nat) (arr : Array Value) (fr : Nat × Nat) (n c : Nat) (hb : w.heap[b]? = some (.cells arr e fr)) (ht : P.underlying t = some (.slice e)) (he : P.underlying e = some (.int .u8)) :
  (convert t t (.slice (some ⟨b, 0, none⟩) n c)).run P w = .ok (.slice (some ⟨b, 0, none⟩) n c) (w.freeze ⟨b, arr.size, none⟩ 1) := by
 have hsh : w.shape? b = some (e, arr.size) := by
  unfold World.shape?
  rw [hb]
 simp [convert, run_underlying ht, run_underlying he, markStringish, hsh]
theorem EffW.constB {P : Program} {o : Oper} {s : List AV} {H : List Ent} {K : AV → List Ent → Prop} {t e : TypeId} {x : Operand} {b n c : Nat} {xs : List Value} (i : Nat) (ho : o.op = .convert t t x) (ht : P.underlying t = some (.slice e)) (he : P.underlying e = some (.int .u8))
  (hx : opv s x = .c (.v (.slice (some ⟨b, 0, none⟩) n c))) (hi : nthE H i = some (.app e 1 xs (some ⟨b, 0, none⟩) n c)) (hk : K (.c (.v (.slice (some ⟨b, 0, none⟩) n c))) H) : EffW P o s H K := by
 intro ρ S w ac hsat hr
 have hxr := opv_rel hr x
 rw [hx] at hxr
 have hxe : ac.eval x = .slice (some ⟨b, 0, none⟩) n c := hxr
 rw [nthE_eq] at hi
 have hilt : i < H.length := (List.getElem?_eq_some_iff.1 hi).1
 have hset : H.set i (.app e 1 xs (some ⟨b, 0, none⟩) n c) = H := by
  apply List.ext_getElem?
  intro j
  by_cases hj : i = j
  ·subst hj
   rw [List.getElem?_set_self hilt, hi]
  ·rw [List.getElem?_set_ne hj]
 rcases hsat.ent i _ hi with ⟨h0, _⟩ | ⟨b', hb', hrow⟩
 ·cases h0
 ·obtain rfl : b = b' := by
   injection hb' with h1
   injection h1
  obtain ⟨arr, fr, ⟨hb, hfr⟩, h1, h2, h3, h4, h5⟩ := hrow
  have hrun := run_convert_own w t e b arr fr n c hb ht he
  have hbl : b < w.heap.size := (Array.getElem?_eq_some_iff.1 hb).1
  have hb2 : (w.freeze ⟨b, arr.size, none⟩ 1).heap[b]? = some (.cells arr e (if fr.1 == fr.2 then (arr.size, arr.size + 1) else (min fr.1 arr.size, max fr.2 (arr.size + 1)))) := by
   simp [World.freeze, Array.getElem?_modify, hb]
  have hS := hsat.setG (e' := .app e 1 xs (some ⟨b, 0, none⟩) n c) (c := b) (w' := w.freeze ⟨b, arr.size, none⟩ 1) hi rfl (by simp [World.freeze]) (fun k _ hne => by simp [World.freeze, Array.getElem?_modify, Ne.symm hne]) rfl rfl rfl (fun c hc => .inl (Option.some.inj hc).symm)
   (.inr ⟨b, rfl, arr, _, ⟨hb2, by
    split
    ·exact .inr (Nat.le_refl _)
    ·rename_i hne
     rcases hfr with h | h
     ·simp [h] at hne
     ·exact .inr (by show arr.size ≤ min fr.1 arr.size; omega)⟩, h1, h2, h3, h4, h5⟩)
  rw [hset] at hS
  refine ⟨_, _, hk, _, _, _, _, ?_, .inl rfl, hS.1, hS.2, rfl⟩
  unfold execOp
  simp only [ho, hxe, Sem.run_bind, hrun, Result.andThen_ok, Sem.run_pure]
end Go.AX

/-
 Contracts: the whole bytes are read (program).
-/
namespace Go.Proofs.YtgogonnnojcioaaGreatDoor
open Go.AX Go.RowKit Go.Core Go.Marshal
set_option maxRecDepth 20000

theorem checkW (a : Option Addr) (ca : Nat) (l : List CellP) (ha : a = none → l = []) (hs : l.length ≤ 2000 ∧ ∀ p ∈ l, p.c.names.length ≤ 40000 ∧ p.c.items.length ≤ 40000) (hok : ∀ p ∈ l, CellOk p) (b : Bool) (hb : b = true ↔ ValidP (l.map (·.c))) :
  ∀ H, (∀ w, Facts H w → GrF a l w) → SpecH Tryz.prog 65 (pvs [.slice a l.length ca]) H (Ret (errI b) H) := by
 intro H hH
 obtain ⟨b2, hb2, h⟩ := Check_w a ca l ha hs hok H hH
 have e : b2 = b := by rw [Bool.eq_iff_iff, hb, hb2]
 rw [← e]
 exact h
def P0 : RdP := ⟨[], none, 0, none, 0, none, 0⟩
def RdR (st : PS) (v : Value) (G : World → Prop) : Prop := ∃ (rb : Nat) (p : RdP), v = .tuple #[.pointer (some ⟨rb, 0, none⟩), .int .i64 st.e] ∧ RdOk st p ∧ ∀ w, G w → SlAt (some ⟨rb, 0, none⟩) 5 (rdC st p) w ∧ SlAt p.ga (p.m.length * 5) (grC p.m) w ∧ (∀ q ∈ p.m, CellF q w) ∧ SlAt p.sa (st.ss.length * 1) (strC st.ss) w
set_option maxHeartbeats 4000000 in
theorem read_c (s : List UInt8) (hs : s.length ≤ 20000) : SpecF Tryz.prog 41 [.string (bs s)] (fun w => ∀ q ∈ ([] : List CellP), CellF q w) (RdR (readM s)) := by
 refine specF_of ?_
 refine SpecH.pad [.app 57 5 [] none 0 0, .app 3 1 [] none 0 0, .app 9 1 [] none 0 0] rfl ?_
 refine spec_of_exec hm Tryz.func41 (by kernel_rfl) rfl rfl ?_
 have hsz := bs_size s
 (first | refine wXB ?_ | exact wZB)
 refine brd_dec (fun h => absurd h (by rw [hsz]; omega)) (fun _ => ?_)
 (first | refine wXB ?_ | exact wZB)
 refine BoxN.known [.string (bs s), .slice none 0 0, .slice none 0 0, .slice none 0 0, .int .i64 0] rfl fun rb => ?_
 (first | refine wXK ?_ | exact wZK)
 refine RwN.known [.int .u8 67, .int .u8 77, .int .u8 1] rfl fun hb => ?_
 (first | refine wXK ?_ | exact wZK)
 refine EffW.constB 5 rfl Tryz.underlying29 Tryz.underlying5 rfl rfl ?_
 obtain ⟨S0, hS0⟩ : ∃ S0, headM headB ⟨s, [], [], [], 0⟩ = S0 := ⟨_, rfl⟩
 have ok0 : RdOk ⟨s, [], [], [], 0⟩ P0 := ⟨rfl, (fun q hq => by cases hq), fun _ => rfl, fun _ => rfl, fun _ => rfl, (fun t ht => by cases ht), .inl rfl⟩
 have bd0 : Bd ⟨s, [], [], [], 0⟩ := ⟨Nat.zero_le _, Nat.le_refl _, by show 0 + s.length ≤ _; omega⟩
 (first | refine wXK ?_ | exact wZK)
 refine LoopN.intro (Nat × PS) (fun ⟨i, st⟩ => i ≤ 3 ∧ headM (headB.drop i) st = S0 ∧ RdOk st P0 ∧ Le 0 ⟨s, [], [], [], 0⟩ st)
  (fun ⟨i, _⟩ => mkS Tryz.f41.ntmps 0 [(4, .c (.v (.pointer (some ⟨rb, 0, none⟩)))), (14, .c (.v (.slice (some ⟨hb, 0, none⟩) 3 3))), (15, .c (.v (.int .i64 3))), (16, .c (.v (.int .i64 (i : Int))))])
  (fun ⟨_, st⟩ => [.fact fun w => ∀ q ∈ ([] : List CellP), CellF q w, .app 57 5 [] none 0 0, .app 3 1 (iC st.cells) none st.cells.length 0, .app 9 1 (strC st.ss) none st.ss.length 0, .app 84 5 (rdC st P0) (some ⟨rb, 0, none⟩) 1 1, .app 5 1 [.int .u8 67, .int .u8 77, .int .u8 1] (some ⟨hb, 0, none⟩) 3 3]) (fun ⟨i, _⟩ => 3 - i) [] rfl
  (fun _ => rfl) (fun _ => rfl) (fun _ _ => okHB_eq rfl) ⟨(0, ⟨s, [], [], [], 0⟩), ⟨by omega, hS0, ok0, Le.refl _⟩, ?_, ?_⟩ ?_
 ·exact wKK
 ·exact ⟨wkE_refl _, wkE_refl _, wkE_refl _, wkE_refl _, wkE_refl _, wkE_refl _, wkH_nil _⟩
 rintro ⟨i, st⟩ ⟨h1, h2, h3, h4⟩
 (first | refine wXK ?_ | exact wZK)
 refine brd_dec (fun hi => ?_) (fun hi => ?_)
 ·obtain ⟨c, hc⟩ : ∃ c, headB[i]? = some c := ⟨_, List.getElem?_eq_getElem (by show i < 3; omega)⟩
  have hd : headB.drop i = c :: headB.drop (i + 1) := by
   obtain ⟨h5, h6⟩ := List.getElem?_eq_some_iff.1 hc
   rw [← h6, List.getElem_cons_drop]
  rw [hd] at h2
  have h2 : headM (headB.drop (i + 1)) (if (nextM st).1 ≠ c then failM (nextM st).2 4 else (nextM st).2) = S0 := h2
  have hcv : ([.int .u8 67, .int .u8 77, .int .u8 1] : List Value)[i]? = some (.int .u8 (c.toNat : Int)) := by
   rcases i with _ | _ | _ | i
   ·cases hc; rfl
   ·cases hc; rfl
   ·cases hc; rfl
   ·cases hc
  have hnx := next_m rb st P0
  have hln := h4.trans (next_le st)
  have okn := h3.same (next_keep st)
  generalize nextM st = r at h2 hnx hln okn ⊢
  obtain ⟨x, st2⟩ := r
  simp only at h2 hnx hln okn
  (first | refine wXK ?_ | exact wZK)
  refine Nd.mk ⟨rfl, by omega, by omega⟩ ?_
  (first | refine wXK ?_ | exact wZK)
  refine LdN.one (.int .u8 (c.toNat : Int)) rfl (fun w hw => hw.2.2.2.2.2.1) (by show ([.int .u8 67, .int .u8 77, .int .u8 1] : List Value)[Int.toNat _ * 1]? = _; rw [Int.toNat_natCast, Nat.mul_one]; exact hcv) ?_
  (first | refine wXK ?_ | exact wZK)
  refine callG (hnx) [4, 1, 0, 2, 3] rfl ⟨rfl, rfl, rfl, rfl, rfl, trivial⟩ rfl fun _ _ => ?_
  (first | refine wXK ?_ | exact wZK)
  refine brd_ne (fun h7 => ?_) (fun h7 => ?_)
  ·have hxc : x ≠ c := fun h => h7 (by rw [h])
   rw [if_pos hxc] at h2
   (first | refine wXK ?_ | exact wZK)
   refine callG (fail_m rb st2 P0 4) [4, 1, 0, 2, 3] rfl ⟨rfl, rfl, rfl, rfl, rfl, trivial⟩ rfl fun _ _ => ?_
   (first | refine wXK ?_ | exact wZK)
   refine ⟨(i + 1, failM st2 4), ⟨by omega, h2, okn.same (fail_ss st2 4), hln.trans (fail_le st2 4)⟩, by show 3 - (i + 1) < 3 - i; omega, ?_, wkE_refl _, wkE_refl _, wkE_refl _, wkE_refl _, wkE_refl _, wkE_refl _, wkH_nil _⟩
   exact wKK
  ·have hxc : x = c := UInt8.toNat_inj.1 (by omega)
   rw [if_neg (fun h => h hxc)] at h2
   (first | refine wXK ?_ | exact wZK)
   refine ⟨(i + 1, st2), ⟨by omega, h2, okn, hln⟩, by show 3 - (i + 1) < 3 - i; omega, ?_, wkE_refl _, wkE_refl _, wkE_refl _, wkE_refl _, wkE_refl _, wkE_refl _, wkH_nil _⟩
   exact wKK
 ·obtain rfl : i = 3 := by omega
  have h2 : st = S0 := h2
  subst h2
  have hR : readM s = checkM (endM (cellM (s.length + 1) st).2) := by unfold readM; rw [hS0]
  rw [hR]
  have hs4 : st.s.length ≤ s.length := h4.s
  have bd4 := bd0.le h4
  have hce := cell_rd (s.length + 1) rb st P0 h3 bd4 (.inl (by omega))
  have hwd := cell_wd (s.length + 1) st bd4 (by unfold Wd; rw [← h3.g]; intro c hc; cases hc)
  have bd5 := bd4.le ((cell_takes (s.length + 1)).le st)
  generalize cellM (s.length + 1) st = r at hce hwd bd5 ⊢
  obtain ⟨z, st1⟩ := r
  simp only at hce hwd bd5
  (first | refine wXK ?_ | exact wZK)
  refine callG hce [4, 1, 0, 2, 3] rfl ⟨rfl, rfl, rfl, rfl, rfl, trivial⟩ rfl fun p hp => ?_
  (first | refine wXK ?_ | exact wZK)
  refine LdN.one (a := some ⟨rb, 0, none⟩) (q := 4) (.int .i64 st1.e) rfl (fun w hw => hw.2.2.2.2.1) rfl ?_
  (first | refine wXK ?_ | exact wZK)
  by_cases he : st1.e = 0
  ·rw [show (st1.e == 0) = true by rw [he]; rfl]
   (first | refine wXK ?_ | exact wZK)
   refine LdN.one (a := some ⟨rb, 0, none⟩) (q := 0) (.string (bs st1.s)) rfl (fun w hw => hw.2.2.2.2.1) rfl ?_
   (first | refine wXK ?_ | exact wZK)
   have hsn : ((bs st1.s).data.toList == (⟨#[]⟩ : ByteArray).data.toList) = decide (st1.s = []) := by rw [bs_list]; cases st1.s <;> rfl
   rw [hsn]
   by_cases hs1 : st1.s = []
   ·rw [decide_eq_true hs1]
    have e1 : endM st1 = st1 := by
     unfold endM
     rw [if_neg (fun h => h.2 hs1)]
    have hml : p.m.length = st1.g.length := by rw [← hp.g, List.length_map]
    have hgl := bd5.g
    obtain ⟨b, hb⟩ : ∃ b : Bool, b = true ↔ ValidP (p.m.map (·.c)) := by
     by_cases h : ValidP (p.m.map (·.c))
     ·exact ⟨true, fun _ => h, fun _ => rfl⟩
     ·exact ⟨false, (fun h => by cases h), fun h2 => absurd h2 h⟩
    have e2 : checkM st1 = { st1 with e := if b then 0 else 1 } := by
     unfold checkM
     rw [if_pos he]
     congr 1
     rw [← hp.g]
     cases b with
     | true => rw [if_pos (hb.1 rfl)]; rfl
     | false => rw [if_neg (fun h => by have := hb.2 h; cases this)]; rfl
    have hwm : ∀ q ∈ p.m, q.c.names.length ≤ 40000 ∧ q.c.items.length ≤ 40000 := fun q hq => by
     have := hwd q.c (by rw [← hp.g]; exact List.mem_map.2 ⟨q, hq, rfl⟩)
     exact ⟨Nat.le_trans this.1 (by decide), Nat.le_trans this.2 (by decide)⟩
    rw [show (z, st1).2 = st1 from rfl, e1, e2]
    (first | refine wXK ?_ | exact wZK)
    refine LdN.one (a := some ⟨rb, 0, none⟩) (q := 4) (.int .i64 st1.e) rfl (fun w hw => hw.2.2.2.2.1) rfl ?_
    rw [he]
    (first | refine wXK ?_ | exact wZK)
    refine LdN.one (a := some ⟨rb, 0, none⟩) (q := 1) (.slice p.ga p.m.length p.gc) rfl (fun w hw => hw.2.2.2.2.1) rfl ?_
    (first | refine wXK ?_ | exact wZK)
    refine call1 (checkW p.ga p.gc p.m hp.ga ⟨by omega, hwm⟩ hp.cell b hb _ (fun w hw => ⟨hw.2.1, hw.1⟩)) ?_
    (first | refine wXK ?_ | exact wZK)
    refine EffW.appTo (i := 4) (q := 4) (ys := [_]) (rdC ({ st1 with e := if b then 0 else 1 }) p) 5 rfl rfl rfl rfl rfl rfl rfl (Nat.le_of_ble_eq_true rfl) rfl rfl ?_
    (first | refine wXK ?_ | exact wZK)
    refine LdN.one (a := some ⟨rb, 0, none⟩) (q := 4) (.int .i64 (if b then 0 else 1)) rfl (fun w hw => hw.2.2.2.2.1) rfl ?_
    (first | refine wXK ?_ | exact wZK)
    exact fin_p (fun w => SlAt (some ⟨rb, 0, none⟩) 5 (rdC ({ st1 with e := if b then 0 else 1 }) p) w ∧ SlAt p.ga (p.m.length * 5) (grC p.m) w ∧ (∀ q ∈ p.m, CellF q w) ∧ SlAt p.sa (({ st1 with e := if b then 0 else 1 }).ss.length * 1) (strC ({ st1 with e := if b then 0 else 1 }).ss) w) ⟨rb, p, rfl, hp.same (st' := { st1 with e := if b then 0 else 1 }) ⟨rfl, rfl, rfl⟩, fun w hw => hw⟩ (fun w hw => ⟨hw.2.2.2.2.1, hw.2.1, hw.1, hw.2.2.2.1⟩)
   ·rw [decide_eq_false hs1]
    have e1 : endM st1 = failM st1 4 := by
     unfold endM
     rw [if_pos ⟨he, hs1⟩]
    have he4 : (failM st1 4).e = 4 := fail_e he 4
    have e2 : checkM (failM st1 4) = failM st1 4 := check_dead (by rw [he4]; decide)
    rw [show (z, st1).2 = st1 from rfl, e1, e2]
    have ok4 := hp.same (fail_ss st1 4)
    (first | refine wXK ?_ | exact wZK)
    refine callG (fail_m rb st1 p 4) [4, 1, 0, 2, 3] rfl ⟨rfl, rfl, rfl, rfl, rfl, trivial⟩ rfl fun _ _ => ?_
    generalize failM st1 4 = st4 at he4 ok4 ⊢
    (first | refine wXK ?_ | exact wZK)
    refine LdN.one (a := some ⟨rb, 0, none⟩) (q := 4) (.int .i64 st4.e) rfl (fun w hw => hw.2.2.2.2.1) rfl ?_
    rw [he4]
    (first | refine wXK ?_ | exact wZK)
    refine LdN.one (a := some ⟨rb, 0, none⟩) (q := 4) (.int .i64 st4.e) rfl (fun w hw => hw.2.2.2.2.1) rfl ?_
    (first | refine wXK ?_ | exact wZK)
    exact fin_p (fun w => SlAt (some ⟨rb, 0, none⟩) 5 (rdC (st4) p) w ∧ SlAt p.ga (p.m.length * 5) (grC p.m) w ∧ (∀ q ∈ p.m, CellF q w) ∧ SlAt p.sa ((st4).ss.length * 1) (strC (st4).ss) w) ⟨rb, p, rfl, ok4, fun w hw => hw⟩ (fun w hw => ⟨hw.2.2.2.2.1, hw.2.1, hw.1, hw.2.2.2.1⟩)
  ·have e1 : checkM (endM st1) = st1 := by rw [end_dead he, check_dead he]
   rw [e1]
   rw [show (st1.e == 0) = false by simpa using he]
   (first | refine wXK ?_ | exact wZK)
   refine LdN.one (a := some ⟨rb, 0, none⟩) (q := 4) (.int .i64 st1.e) rfl (fun w hw => hw.2.2.2.2.1) rfl ?_
   (first | refine wXK ?_ | exact wZK)
   refine brd_eq (fun h => absurd h he) (fun _ => ?_)
   (first | refine wXK ?_ | exact wZK)
   refine LdN.one (a := some ⟨rb, 0, none⟩) (q := 4) (.int .i64 st1.e) rfl (fun w hw => hw.2.2.2.2.1) rfl ?_
   (first | refine wXK ?_ | exact wZK)
   exact fin_p (fun w => SlAt (some ⟨rb, 0, none⟩) 5 (rdC (st1) p) w ∧ SlAt p.ga (p.m.length * 5) (grC p.m) w ∧ (∀ q ∈ p.m, CellF q w) ∧ SlAt p.sa ((st1).ss.length * 1) (strC (st1).ss) w) ⟨rb, p, rfl, hp, fun w hw => hw⟩ (fun w hw => ⟨hw.2.2.2.2.1, hw.2.1, hw.1, hw.2.2.2.1⟩)
end Go.Proofs.YtgogonnnojcioaaGreatDoor

/-
 Contracts: Load, Check, Symbols (program).
-/
namespace Go.Proofs.YtgogonnnojcioaaGreatDoor
open Go.AX Go.RowKit Go.Core Go.Marshal
set_option maxRecDepth 20000

theorem read_long (s : List UInt8) (hs : 20000 < s.length) : ∀ H, SpecH Tryz.prog 41 (pvs [.string (bs s)]) H (Ret (.tuple #[.pointer none, .int .i64 2]) H) := by
 refine pureC hm Tryz.func41 (by kernel_rfl) rfl rfl ?_
 have hsz := bs_size s
 (first | refine wX ?_ | exact wZ)
 refine brd_dec (fun h => ?_) (fun h => absurd (show (s.length : Int) > 20000 by omega) (by rw [hsz] at h; exact h))
 (first | refine wX ?_ | exact wZ)
def GraphR (g : List Cell) (v : Value) (G : World → Prop) : Prop := ∃ (a : Option Addr) (c : Nat) (m : List CellP), v = .slice a m.length c ∧ m.map (·.c) = g ∧ (a = none → m = []) ∧ (∀ q ∈ m, CellOk q) ∧ ∀ w, G w → GrF a m w
def LoadR (r : Except Int (List Cell × List B)) (v : Value) (G : World → Prop) : Prop := match r with
 | .error e => v = .tuple #[.slice none 0 0, .int .i64 e]
 | .ok (g, _) => ∃ v1, v = .tuple #[v1, .int .i64 0] ∧ GraphR g v1 G
theorem Load_c (s : List UInt8) : SpecF Tryz.prog 16 [.string (bs s)] (fun _ => True) (LoadR (loadS s)) := by
 refine specF hm Tryz.func16 (by kernel_rfl) rfl rfl ?_
 by_cases hs : 20000 < s.length
 ·have hl : loadS s = .error 2 := by unfold loadS; rw [if_pos hs]
  rw [hl]
  (first | refine wX ?_ | exact wZ)
  refine call1 (read_long s hs _) ?_
  (first | refine wX ?_ | exact wZ)
  exact fin_v rfl
 ·have href := load_ref (s := s) (by omega)
  ((conv => whnf); (repeat ((first | refine VrN.keep ?_ | refine BoxN.own ?_ | refine RwN.own ?_); (conv => whnf))))
  refine SpecF.call (read_c s (by omega)) (fun w _ q hq => by cases hq) fun v G hR => ?_
  obtain ⟨rb, p, rfl, ok, hG⟩ := hR
  generalize readM s = st at href ok hG ⊢
  cases hl : loadS s with
  | error e =>
   obtain ⟨h1, h2⟩ := href.2 e hl
   (first | refine wX ?_ | exact wZ)
   rw [h1]
   refine brd_ne (fun _ => ?_) (fun h => absurd h h2)
   (first | refine wX ?_ | exact wZ)
   exact fin_v rfl
  | ok r =>
   obtain ⟨h1, h2, h3⟩ := href.1 r hl
   obtain ⟨g, ss⟩ := r
   (first | refine wX ?_ | exact wZ)
   rw [h1]
   (first | refine wX ?_ | exact wZ)
   refine LdN.one (a := some ⟨rb, 0, none⟩) (q := 1) (.slice p.ga p.m.length p.gc) rfl (fun w hw => (hG w hw.2.1).1) rfl ?_
   (first | refine wX ?_ | exact wZ)
   exact fin_p (fun w => GrF p.ga p.m w) ⟨_, rfl, p.ga, p.gc, p.m, rfl, by rw [ok.g]; exact h2, ok.ga, ok.cell, fun w hw => hw⟩ (fun w hw => ⟨(hG w hw.2.1).2.1, (hG w hw.2.1).2.2.1⟩)
def errS (r : Except Int (List Cell × List B)) : Int := match r with
 | .error e => e
 | .ok _ => 0
theorem MCheck_c (s : List UInt8) : SpecF Tryz.prog 24 [.string (bs s)] (fun _ => True) (fun v _ => v = .int .i64 (errS (loadS s))) := by
 refine specF hm Tryz.func24 (by kernel_rfl) rfl rfl ?_
 by_cases hs : 20000 < s.length
 ·have hl : loadS s = .error 2 := by unfold loadS; rw [if_pos hs]
  rw [hl]
  (first | refine wX ?_ | exact wZ)
  refine call1 (read_long s hs _) ?_
  (first | refine wX ?_ | exact wZ)
  exact fin_v rfl
 ·have href := load_ref (s := s) (by omega)
  ((conv => whnf); (repeat ((first | refine VrN.keep ?_ | refine BoxN.own ?_ | refine RwN.own ?_); (conv => whnf))))
  refine SpecF.call (read_c s (by omega)) (fun w _ q hq => by cases hq) fun v G hR => ?_
  obtain ⟨rb, p, rfl, ok, hG⟩ := hR
  generalize readM s = st at href ok hG ⊢
  cases hl : loadS s with
  | error e =>
   obtain ⟨h1, h2⟩ := href.2 e hl
   (first | refine wX ?_ | exact wZ)
   rw [h1]
   exact fin_v rfl
  | ok r =>
   obtain ⟨h1, h2, h3⟩ := href.1 r hl
   (first | refine wX ?_ | exact wZ)
   rw [h1]
   exact fin_v rfl
def TextsR (l : List B) (v : Value) (G : World → Prop) : Prop := ∃ (a : Option Addr) (c : Nat), v = .slice a l.length c ∧ (a = none → l = []) ∧ ∀ w, G w → SlAt a (l.length * 1) (strC l) w
def SymsR (r : Except Int (List Cell × List B)) (v : Value) (G : World → Prop) : Prop := match r with
 | .error e => v = .tuple #[.slice none 0 0, .int .i64 e]
 | .ok (_, ss) => ∃ v1, v = .tuple #[v1, .int .i64 0] ∧ TextsR ss v1 G
theorem Symbols_c (s : List UInt8) : SpecF Tryz.prog 38 [.string (bs s)] (fun _ => True) (SymsR (loadS s)) := by
 refine specF hm Tryz.func38 (by kernel_rfl) rfl rfl ?_
 by_cases hs : 20000 < s.length
 ·have hl : loadS s = .error 2 := by unfold loadS; rw [if_pos hs]
  rw [hl]
  (first | refine wX ?_ | exact wZ)
  refine call1 (read_long s hs _) ?_
  (first | refine wX ?_ | exact wZ)
  exact fin_v rfl
 ·have href := load_ref (s := s) (by omega)
  ((conv => whnf); (repeat ((first | refine VrN.keep ?_ | refine BoxN.own ?_ | refine RwN.own ?_); (conv => whnf))))
  refine SpecF.call (read_c s (by omega)) (fun w _ q hq => by cases hq) fun v G hR => ?_
  obtain ⟨rb, p, rfl, ok, hG⟩ := hR
  generalize readM s = st at href ok hG ⊢
  cases hl : loadS s with
  | error e =>
   obtain ⟨h1, h2⟩ := href.2 e hl
   (first | refine wX ?_ | exact wZ)
   rw [h1]
   refine brd_ne (fun _ => ?_) (fun h => absurd h h2)
   (first | refine wX ?_ | exact wZ)
   exact fin_v rfl
  | ok r =>
   obtain ⟨h1, h2, h3⟩ := href.1 r hl
   obtain ⟨g, ss⟩ := r
   have h3 : st.ss = ss := h3
   subst h3
   (first | refine wX ?_ | exact wZ)
   rw [h1]
   (first | refine wX ?_ | exact wZ)
   refine LdN.one (a := some ⟨rb, 0, none⟩) (q := 3) (.slice p.sa st.ss.length p.sc) rfl (fun w hw => (hG w hw.2.1).1) rfl ?_
   (first | refine wX ?_ | exact wZ)
   exact fin_p (fun w => SlAt p.sa (st.ss.length * 1) (strC st.ss) w) ⟨_, rfl, p.sa, p.sc, rfl, ok.sa, fun w hw => hw⟩ (fun w hw => (hG w hw.2.1).2.2.2)
end Go.Proofs.YtgogonnnojcioaaGreatDoor

/-
 Contracts: the whole bytes are read (document).
-/
namespace Go.Marshal
open Go.Core
theorem load_tel {s : B} (hs : s.length ≤ 20000) : ((headM headB ⟨s, [], [], [], 0⟩).e ≠ 0 → loadS s = .error (headM headB ⟨s, [], [], [], 0⟩).e) ∧
  ((headM headB ⟨s, [], [], [], 0⟩).e = 0 → ∀ (v : Int) (st : PS), Tel (formD (s.length + 1) (toS (headM headB ⟨s, [], [], [], 0⟩))) v st →
   (st.e ≠ 0 → loadS s = .error st.e) ∧ (st.e = 0 → st.s ≠ [] → loadS s = .error 4) ∧ (st.e = 0 → st.s = [] → (ValidP st.g → loadS s = .ok (st.g, st.ss)) ∧ (¬ ValidP st.g → loadS s = .error 1))) := by
 have hh := head_ref headB ⟨s, [], [], [], 0⟩ rfl
 unfold loadS
 rw [if_neg (by omega)]
 cases hr : headF headB s with
 | error e1 =>
  obtain ⟨h1, h2⟩ := hh.2 e1 hr
  exact ⟨fun _ => by rw [h1], fun h => absurd (h1.symm.trans h) h2⟩
 | ok r =>
  have h1 := hh.1 r hr
  rw [h1]
  have hl : r.length ≤ s.length := by rw [head_ok _ _ _ hr, List.length_append]; omega
  refine ⟨fun h => absurd rfl h, fun _ v st tel => ?_⟩
  have hst : formF (r.length + 1) ⟨r, [], [], []⟩ = formF (s.length + 1) ⟨r, [], [], []⟩ := form_stab _ _ _ (Nat.lt_succ_self _) (by show r.length < _; omega)
  have tel : Tel (formF (s.length + 1) ⟨r, [], [], []⟩) v st := by rw [← formD_eq]; exact tel
  simp only
  rw [hst]
  refine ⟨fun h => ?_, fun h hn => ?_, fun h hn => ?_⟩
  ·rw [tel.dead h]
  ·rw [tel.live h]
   have : (toS st).s ≠ [] := hn
   simp only
   rw [if_pos this]
  ·rw [tel.live h]
   have : (toS st).s = [] := hn
   simp only
   rw [if_neg (fun h => h this)]
   refine ⟨fun hv => ?_, fun hv => ?_⟩
   ·rw [if_pos (show ValidP (toS st).g from hv)]
    rfl
   ·rw [if_neg (show ¬ ValidP (toS st).g from hv)]
theorem loadS_err {s : B} {e : Int} (h : loadS s = .error e) : e ≠ 0 := by
 by_cases hs : s.length ≤ 20000
 ·exact ((load_ref hs).2 e h).2
 ·unfold loadS at h
  rw [if_pos (by omega)] at h
  cases h
  decide
end Go.Marshal
namespace Go.Proofs.YtgogonnnojcioaaGreatDoor
open Go.AX Go.RowKit Go.Core Go.Marshal
set_option maxRecDepth 20000

def RdD (S : List UInt8) (v : Value) (G : World → Prop) : Prop := ∃ (rb : Nat) (st : PS) (p : RdP), v = .tuple #[.pointer (some ⟨rb, 0, none⟩), .int .i64 (errS (loadS S))] ∧ OkD st p ∧ (∀ q ∈ p.m, CellOk q) ∧ (∀ r, loadS S = .ok r → st.g = r.1 ∧ st.ss = r.2) ∧ ∀ w, G w → SlAt (some ⟨rb, 0, none⟩) 6 (ddC S st p) w ∧ SlAt p.ga (p.m.length * 5) (grC p.m) w ∧ (∀ q ∈ p.m, CellF q w) ∧ SlAt p.sa (st.ss.length * 1) (strC st.ss) w
theorem okd0 (S : List UInt8) : OkD ⟨S, [], [], [], 0⟩ P0 := ⟨rfl, fun _ => rfl, fun _ => rfl, fun _ => rfl, (fun t ht => by cases ht), .inl rfl⟩
theorem ddC0 (S : List UInt8) : ddC S ⟨S, [], [], [], 0⟩ P0 = [.string (bs S), .int .i64 0, .slice none 0 0, .slice none 0 0, .slice none 0 0, .int .i64 0] := by
 unfold ddC
 simp only [Nat.sub_self]
 rfl
set_option maxHeartbeats 4000000 in
theorem read_d (S : List UInt8) : SpecF Tryz.prog 61 [.string (bs S)] (fun w => ∀ q ∈ ([] : List CellP), CellF q w) (RdD S) := by
 refine specF_of ?_
 refine SpecH.pad [.app 87 5 [] none 0 0, .app 3 1 [] none 0 0, .app 9 1 [] none 0 0] rfl ?_
 refine spec_of_exec hm Tryz.func61 (by kernel_rfl) rfl rfl ?_
 have hsz := bs_size S
 (first | refine wXB ?_ | exact wZB)
 refine BoxN.known [.string (bs S), .int .i64 0, .slice none 0 0, .slice none 0 0, .slice none 0 0, .int .i64 0] rfl fun rb => ?_
 rw [← ddC0 S]
 (first | refine wXK ?_ | exact wZK)
 refine brd_dec (fun hlong => ?_) (fun hS => ?_)
 ·have hl : loadS S = .error 2 := by unfold loadS; rw [if_pos (by rw [hsz] at hlong; omega)]
  (first | refine wXK ?_ | exact wZK)
  refine fin_p (fun w => SlAt (some ⟨rb, 0, none⟩) 6 (ddC S ((⟨S, [], [], [], 0⟩ : PS)) (P0)) w ∧ SlAt (P0).ga ((P0).m.length * 5) (grC (P0).m) w ∧ (∀ q ∈ (P0).m, CellF q w) ∧ SlAt (P0).sa (((⟨S, [], [], [], 0⟩ : PS)).ss.length * 1) (strC ((⟨S, [], [], [], 0⟩ : PS)).ss) w) ⟨rb, (⟨S, [], [], [], 0⟩ : PS), P0, ?_, okd0 S, ?_, ?_, fun w hw => hw⟩ (fun w hw => ⟨hw.2.2.2.2.1, hw.2.1, hw.1, hw.2.2.2.1⟩)
  ·rw [hl]; rfl
  ·intro q hq; cases hq
  ·intro r h; rw [hl] at h; cases h
 have hS : S.length ≤ 20000 := by rw [hsz] at hS; omega
 obtain ⟨S0, hS0⟩ : ∃ S0, headM headB ⟨S, [], [], [], 0⟩ = S0 := ⟨_, rfl⟩
 obtain ⟨t1, t2⟩ := load_tel hS
 rw [hS0] at t1 t2
 have bd0 : Bd ⟨S, [], [], [], 0⟩ := ⟨Nat.zero_le _, Nat.le_refl _, by show 0 + S.length ≤ _; omega⟩
 (first | refine wXK ?_ | exact wZK)
 refine LoopN.intro (Nat × PS) (fun ⟨i, st⟩ => i ≤ 3 ∧ headM (headB.drop i) st = S0 ∧ OkD st P0 ∧ Left S st ∧ Le 0 ⟨S, [], [], [], 0⟩ st)
  (fun ⟨i, _⟩ => mkS Tryz.f61.ntmps 0 [(0, .c (.v (.string (bs S)))), (4, .c (.v (.pointer (some ⟨rb, 0, none⟩)))), (5, .c (.v (.string ⟨#[67, 77, 1]⟩))), (6, .c (.v (.int .i64 (i : Int))))])
  (fun ⟨_, st⟩ => [.fact fun w => ∀ q ∈ ([] : List CellP), CellF q w, .app 87 5 [] none 0 0, .app 3 1 (iC st.cells) none st.cells.length 0, .app 9 1 (strC st.ss) none st.ss.length 0, .app 109 6 (ddC S st P0) (some ⟨rb, 0, none⟩) 1 1]) (fun ⟨i, _⟩ => 3 - i) [] rfl
  (fun _ => rfl) (fun _ => rfl) (fun _ _ => okHB_eq rfl) ⟨(0, ⟨S, [], [], [], 0⟩), ⟨by omega, hS0, okd0 S, ⟨[], rfl⟩, Le.refl _⟩, ?_, ?_⟩ ?_
 ·exact wKK
 ·exact ⟨wkE_refl _, wkE_refl _, wkE_refl _, wkE_refl _, wkE_refl _, wkH_nil _⟩
 rintro ⟨i, st⟩ ⟨h1, h2, h3, hl, h4⟩
 have hd3 : ((⟨#[67, 77, 1]⟩ : ByteArray).size : Int) = 3 := rfl
 (first | refine wXK ?_ | exact wZK)
 refine brd_dec (fun hi => ?_) (fun hi => ?_)
 ·obtain ⟨c, hc⟩ : ∃ c, headB[i]? = some c := ⟨_, List.getElem?_eq_getElem (by show i < 3; omega)⟩
  have hd : headB.drop i = c :: headB.drop (i + 1) := by
   obtain ⟨h5, h6⟩ := List.getElem?_eq_some_iff.1 hc
   rw [← h6, List.getElem_cons_drop]
  rw [hd] at h2
  have h2 : headM (headB.drop (i + 1)) (if (nextM st).1 ≠ c then failM (nextM st).2 4 else (nextM st).2) = S0 := h2
  have hcv : byteAt ⟨#[67, 77, 1]⟩ i = (c.toNat : Int) := by
   rcases i with _ | _ | _ | i
   ·cases hc; rfl
   ·cases hc; rfl
   ·cases hc; rfl
   ·cases hc
  have hnx := next_d rb S (by omega) st P0 [] hl
  have hln := h4.trans (next_le st)
  have okn := h3.same (next_keep st)
  have hll := hl.next
  generalize nextM st = r at h2 hnx hln okn hll
  obtain ⟨x, st2⟩ := r
  simp only at h2 hnx hln okn hll
  (first | refine wXK ?_ | exact wZK)
  refine callG (hnx) [4, 1, 0, 2, 3] rfl ⟨rfl, rfl, rfl, rfl, rfl, trivial⟩ rfl fun _ _ => ?_
  (first | refine wXK ?_ | exact wZK)
  refine LdN.one (a := some ⟨rb, 0, none⟩) (q := 5) (.int .i64 st2.e) rfl (fun w hw => hw.2.2.2.2.1) rfl ?_
  (first | refine wXK ?_ | exact wZK)
  by_cases he : st2.e = 0
  ·rw [show (st2.e == 0) = true by rw [he]; rfl]
   (first | refine wXK ?_ | exact wZK)
   rw [Int.toNat_natCast, hcv]
   refine brd_ne (fun h7 => ?_) (fun h7 => ?_)
   ·have hxc : x ≠ c := fun h => h7 (by rw [h])
    rw [if_pos hxc] at h2
    (first | refine wXK ?_ | exact wZK)
    refine callG (fail_d rb S st2 P0 [] 4) [4, 1, 0, 2, 3] rfl ⟨rfl, rfl, rfl, rfl, rfl, trivial⟩ rfl fun _ _ => ?_
    (first | refine wXK ?_ | exact wZK)
    refine ⟨(i + 1, failM st2 4), ⟨by omega, h2, okn.same (fail_ss st2 4), hll.fail 4, hln.trans (fail_le st2 4)⟩, by show 3 - (i + 1) < 3 - i; omega, ?_, wkE_refl _, wkE_refl _, wkE_refl _, wkE_refl _, wkE_refl _, wkH_nil _⟩
    exact wKK
   ·have hxc : x = c := UInt8.toNat_inj.1 (by omega)
    rw [if_neg (fun h => h hxc)] at h2
    (first | refine wXK ?_ | exact wZK)
    refine ⟨(i + 1, st2), ⟨by omega, h2, okn, hll, hln⟩, by show 3 - (i + 1) < 3 - i; omega, ?_, wkE_refl _, wkE_refl _, wkE_refl _, wkE_refl _, wkE_refl _, wkH_nil _⟩
    exact wKK
  ·rw [show (st2.e == 0) = false by simpa using he]
   have h2 : headM (headB.drop (i + 1)) st2 = S0 := by
    rw [← h2]
    split
    ·rw [fail_dead he]
    ·rfl
   (first | refine wXK ?_ | exact wZK)
   refine ⟨(i + 1, st2), ⟨by omega, h2, okn, hll, hln⟩, by show 3 - (i + 1) < 3 - i; omega, ?_, wkE_refl _, wkE_refl _, wkE_refl _, wkE_refl _, wkE_refl _, wkH_nil _⟩
   exact wKK
 ·obtain rfl : i = 3 := by rw [hd3] at hi; omega
  have h2 : st = S0 := h2
  subst h2
  have hs4 : st.s.length ≤ S.length := h4.s
  have bd4 := bd0.le h4
  (first | refine wXK ?_ | exact wZK)
  refine LdN.one (a := some ⟨rb, 0, none⟩) (q := 5) (.int .i64 st.e) rfl (fun w hw => hw.2.2.2.2.1) rfl ?_
  (first | refine wXK ?_ | exact wZK)
  by_cases he : st.e = 0
  ·rw [show (st.e == 0) = true by rw [he]; rfl]
   (first | refine wXK ?_ | exact wZK)
   refine callG (form_d (S.length + 1) rb S st P0 [] hS h3 bd4 hl he (by omega)) [4, 1, 0, 2, 3] rfl ⟨rfl, rfl, rfl, rfl, rfl, trivial⟩ rfl fun d hd => ?_
   obtain ⟨dv, ds, dp, dn⟩ := d
   obtain ⟨ok8, hm8, hc8, hl8, le8, lt8, tel8⟩ := hd
   simp only at ok8 hm8 hc8 hl8 le8 lt8 tel8
   obtain ⟨u1, u2, u3⟩ := t2 he dv ds tel8
   have hdn : dp.m = dn := by rw [hm8]; rfl
   subst hdn
   have hll8 := left_len hl8
   (first | refine wXK ?_ | exact wZK)
   refine LdN.one (a := some ⟨rb, 0, none⟩) (q := 5) (.int .i64 ds.e) rfl (fun w hw => hw.2.2.2.2.1) rfl ?_
   (first | refine wXK ?_ | exact wZK)
   by_cases he8 : ds.e = 0
   ·rw [show (ds.e == 0) = true by rw [he8]; rfl]
    (first | refine wXK ?_ | exact wZK)
    refine LdN.one (a := some ⟨rb, 0, none⟩) (q := 1) (.int .i64 ((S.length - ds.s.length : Nat) : Int)) rfl (fun w hw => hw.2.2.2.2.1) rfl ?_
    (first | refine wXK ?_ | exact wZK)
    refine brd_dec (fun hat => ?_) (fun hat => ?_)
    ·have hne : ds.s ≠ [] := fun h => by rw [hsz, h, List.length_nil, Nat.sub_zero] at hat; exact absurd hat (Int.lt_irrefl _)
     have hl0 := u2 he8 hne
     have he4 : (failM ds 4).e = 4 := fail_e he8 4
     (first | refine wXK ?_ | exact wZK)
     refine callG (fail_d rb S ds dp ([] ++ dp.m) 4) [4, 1, 0, 2, 3] rfl ⟨rfl, rfl, rfl, rfl, rfl, trivial⟩ rfl fun _ _ => ?_
     (first | refine wXK ?_ | exact wZK)
     refine LdN.one (a := some ⟨rb, 0, none⟩) (q := 5) (.int .i64 (failM ds 4).e) rfl (fun w hw => hw.2.2.2.2.1) rfl ?_
     (first | refine wXK ?_ | exact wZK)
     rw [show ((failM ds 4).e == 0) = false by rw [he4]; rfl]
     (first | refine wXK ?_ | exact wZK)
     refine LdN.one (a := some ⟨rb, 0, none⟩) (q := 5) (.int .i64 (failM ds 4).e) rfl (fun w hw => hw.2.2.2.2.1) rfl ?_
     (first | refine wXK ?_ | exact wZK)
     refine fin_p (fun w => SlAt (some ⟨rb, 0, none⟩) 6 (ddC S (failM ds 4) (dp)) w ∧ SlAt (dp).ga ((dp).m.length * 5) (grC (dp).m) w ∧ (∀ q ∈ (dp).m, CellF q w) ∧ SlAt (dp).sa ((failM ds 4).ss.length * 1) (strC (failM ds 4).ss) w) ⟨rb, failM ds 4, dp, ?_, ok8.same (fail_ss ds 4), ?_, ?_, fun w hw => hw⟩ (fun w hw => ⟨hw.2.2.2.2.1, hw.2.1, hw.1, hw.2.2.2.1⟩)
     ·rw [hl0, he4]; rfl
     ·exact hc8
     ·intro r h; rw [hl0] at h; cases h
    ·have hnil : ds.s = [] := List.eq_nil_of_length_eq_zero (by rw [hsz] at hat; omega)
     obtain ⟨v1, v2⟩ := u3 he8 hnil
     have hgb : dp.m.length ≤ 500 := by
      have := (bd4.le le8).g
      rw [← ok8.g, List.length_map] at this
      exact this
     obtain ⟨b, hb, hvc⟩ := Valid_b dp.ga dp.gc dp.m ok8.ga (by omega) hc8
     rw [ok8.g] at hb
     (first | refine wXK ?_ | exact wZK)
     refine LdN.one (a := some ⟨rb, 0, none⟩) (q := 5) (.int .i64 ds.e) rfl (fun w hw => hw.2.2.2.2.1) rfl ?_
     (first | refine wXK ?_ | exact wZK)
     rw [show (ds.e == 0) = true by rw [he8]; rfl]
     (first | refine wXK ?_ | exact wZK)
     refine LdN.one (a := some ⟨rb, 0, none⟩) (q := 2) (.slice dp.ga dp.m.length dp.gc) rfl (fun w hw => hw.2.2.2.2.1) rfl ?_
     (first | refine wXK ?_ | exact wZK)
     refine call1 (hvc _ (fun w hw => ⟨hw.2.1, hw.1⟩)) ?_
     cases b with
     | true =>
      have hl0 := v1 (hb.1 rfl)
      (first | refine wXK ?_ | exact wZK)
      refine LdN.one (a := some ⟨rb, 0, none⟩) (q := 5) (.int .i64 ds.e) rfl (fun w hw => hw.2.2.2.2.1) rfl ?_
      (first | refine wXK ?_ | exact wZK)
      refine fin_p (fun w => SlAt (some ⟨rb, 0, none⟩) 6 (ddC S (ds) (dp)) w ∧ SlAt (dp).ga ((dp).m.length * 5) (grC (dp).m) w ∧ (∀ q ∈ (dp).m, CellF q w) ∧ SlAt (dp).sa ((ds).ss.length * 1) (strC (ds).ss) w) ⟨rb, ds, dp, ?_, ok8, ?_, ?_, fun w hw => hw⟩ (fun w hw => ⟨hw.2.2.2.2.1, hw.2.1, hw.1, hw.2.2.2.1⟩)
      ·rw [hl0, he8]; rfl
      ·exact hc8
      ·intro r h; rw [hl0] at h; cases h; exact ⟨rfl, rfl⟩
     | false =>
      have hl0 := v2 (fun h => by have := hb.2 h; cases this)
      have he1 : (failM ds 1).e = 1 := fail_e he8 1
      (first | refine wXK ?_ | exact wZK)
      refine callG (fail_d rb S ds dp ([] ++ dp.m) 1) [4, 1, 0, 2, 3] rfl ⟨rfl, rfl, rfl, rfl, rfl, trivial⟩ rfl fun _ _ => ?_
      (first | refine wXK ?_ | exact wZK)
      refine LdN.one (a := some ⟨rb, 0, none⟩) (q := 5) (.int .i64 (failM ds 1).e) rfl (fun w hw => hw.2.2.2.2.1) rfl ?_
      (first | refine wXK ?_ | exact wZK)
      refine fin_p (fun w => SlAt (some ⟨rb, 0, none⟩) 6 (ddC S (failM ds 1) (dp)) w ∧ SlAt (dp).ga ((dp).m.length * 5) (grC (dp).m) w ∧ (∀ q ∈ (dp).m, CellF q w) ∧ SlAt (dp).sa ((failM ds 1).ss.length * 1) (strC (failM ds 1).ss) w) ⟨rb, failM ds 1, dp, ?_, ok8.same (fail_ss ds 1), ?_, ?_, fun w hw => hw⟩ (fun w hw => ⟨hw.2.2.2.2.1, hw.2.1, hw.1, hw.2.2.2.1⟩)
      ·rw [hl0, he1]; rfl
      ·exact hc8
      ·intro r h; rw [hl0] at h; cases h
   ·rw [show (ds.e == 0) = false by simpa using he8]
    (first | refine wXK ?_ | exact wZK)
    refine LdN.one (a := some ⟨rb, 0, none⟩) (q := 5) (.int .i64 ds.e) rfl (fun w hw => hw.2.2.2.2.1) rfl ?_
    (first | refine wXK ?_ | exact wZK)
    rw [show (ds.e == 0) = false by simpa using he8]
    (first | refine wXK ?_ | exact wZK)
    refine LdN.one (a := some ⟨rb, 0, none⟩) (q := 5) (.int .i64 ds.e) rfl (fun w hw => hw.2.2.2.2.1) rfl ?_
    (first | refine wXK ?_ | exact wZK)
    have hl0 := u1 he8
    refine fin_p (fun w => SlAt (some ⟨rb, 0, none⟩) 6 (ddC S (ds) (dp)) w ∧ SlAt (dp).ga ((dp).m.length * 5) (grC (dp).m) w ∧ (∀ q ∈ (dp).m, CellF q w) ∧ SlAt (dp).sa ((ds).ss.length * 1) (strC (ds).ss) w) ⟨rb, ds, dp, ?_, ok8, ?_, ?_, fun w hw => hw⟩ (fun w hw => ⟨hw.2.2.2.2.1, hw.2.1, hw.1, hw.2.2.2.1⟩)
    ·rw [hl0]; rfl
    ·exact hc8
    ·intro r h; rw [hl0] at h; cases h
  ·rw [show (st.e == 0) = false by simpa using he]
   (first | refine wXK ?_ | exact wZK)
   refine LdN.one (a := some ⟨rb, 0, none⟩) (q := 5) (.int .i64 st.e) rfl (fun w hw => hw.2.2.2.2.1) rfl ?_
   (first | refine wXK ?_ | exact wZK)
   rw [show (st.e == 0) = false by simpa using he]
   (first | refine wXK ?_ | exact wZK)
   refine LdN.one (a := some ⟨rb, 0, none⟩) (q := 5) (.int .i64 st.e) rfl (fun w hw => hw.2.2.2.2.1) rfl ?_
   (first | refine wXK ?_ | exact wZK)
   rw [show (st.e == 0) = false by simpa using he]
   (first | refine wXK ?_ | exact wZK)
   refine LdN.one (a := some ⟨rb, 0, none⟩) (q := 5) (.int .i64 st.e) rfl (fun w hw => hw.2.2.2.2.1) rfl ?_
   (first | refine wXK ?_ | exact wZK)
   have hl0 := t1 he
   refine fin_p (fun w => SlAt (some ⟨rb, 0, none⟩) 6 (ddC S (st) (P0)) w ∧ SlAt (P0).ga ((P0).m.length * 5) (grC (P0).m) w ∧ (∀ q ∈ (P0).m, CellF q w) ∧ SlAt (P0).sa ((st).ss.length * 1) (strC (st).ss) w) ⟨rb, st, P0, ?_, h3, ?_, ?_, fun w hw => hw⟩ (fun w hw => ⟨hw.2.2.2.2.1, hw.2.1, hw.1, hw.2.2.2.1⟩)
   ·rw [hl0]; rfl
   ·intro q hq; cases hq
   ·intro r h; rw [hl0] at h; cases h
theorem RLoad_c (S : List UInt8) : SpecF Tryz.prog 37 [.string (bs S)] (fun _ => True) (LoadR (loadS S)) := by
 refine specF hm Tryz.func37 (by kernel_rfl) rfl rfl ?_
 ((conv => whnf); (repeat ((first | refine VrN.keep ?_ | refine BoxN.own ?_ | refine RwN.own ?_); (conv => whnf))))
 refine SpecF.call (read_d S) (fun w _ q hq => by cases hq) fun v G hR => ?_
 obtain ⟨rb, st, p, rfl, ok, hcl, hok, hG⟩ := hR
 cases hl : loadS S with
 | error e =>
  have he : e ≠ 0 := loadS_err hl
  (first | refine wX ?_ | exact wZ)
  refine brd_ne (fun _ => ?_) (fun h => absurd h he)
  (first | refine wX ?_ | exact wZ)
  exact fin_v rfl
 | ok r =>
  obtain ⟨g, ss⟩ := r
  obtain ⟨h1, h2⟩ := hok _ hl
  (first | refine wX ?_ | exact wZ)
  refine LdN.one (a := some ⟨rb, 0, none⟩) (q := 2) (.slice p.ga p.m.length p.gc) rfl (fun w hw => (hG w hw.2.1).1) rfl ?_
  (first | refine wX ?_ | exact wZ)
  exact fin_p (fun w => GrF p.ga p.m w) ⟨_, rfl, p.ga, p.gc, p.m, rfl, ok.g.trans h1, ok.ga, hcl, fun w hw => hw⟩ (fun w hw => ⟨(hG w hw.2.1).2.1, (hG w hw.2.1).2.2.1⟩)
theorem RSymbols_c (S : List UInt8) : SpecF Tryz.prog 39 [.string (bs S)] (fun _ => True) (SymsR (loadS S)) := by
 refine specF hm Tryz.func39 (by kernel_rfl) rfl rfl ?_
 ((conv => whnf); (repeat ((first | refine VrN.keep ?_ | refine BoxN.own ?_ | refine RwN.own ?_); (conv => whnf))))
 refine SpecF.call (read_d S) (fun w _ q hq => by cases hq) fun v G hR => ?_
 obtain ⟨rb, st, p, rfl, ok, hcl, hok, hG⟩ := hR
 cases hl : loadS S with
 | error e =>
  have he : e ≠ 0 := loadS_err hl
  (first | refine wX ?_ | exact wZ)
  refine brd_ne (fun _ => ?_) (fun h => absurd h he)
  (first | refine wX ?_ | exact wZ)
  exact fin_v rfl
 | ok r =>
  obtain ⟨g, ss⟩ := r
  obtain ⟨h1, h2⟩ := hok _ hl
  have h2 : st.ss = ss := h2
  subst h2
  (first | refine wX ?_ | exact wZ)
  refine LdN.one (a := some ⟨rb, 0, none⟩) (q := 4) (.slice p.sa st.ss.length p.sc) rfl (fun w hw => (hG w hw.2.1).1) rfl ?_
  (first | refine wX ?_ | exact wZ)
  exact fin_p (fun w => SlAt p.sa (st.ss.length * 1) (strC st.ss) w) ⟨_, rfl, p.sa, p.sc, rfl, ok.sa, fun w hw => hw⟩ (fun w hw => (hG w hw.2.1).2.2.2)
end Go.Proofs.YtgogonnnojcioaaGreatDoor

/-
 Contract: slices.Clone, with memory of the caller's own.
-/
namespace Go.Proofs.YtgogonnnojcioaaGreatDoor
open Go.AX Go.RowKit Go.Core
set_option maxRecDepth 20000

end Go.Proofs.YtgogonnnojcioaaGreatDoor

/-
 AX, fifty-sixth text: a row that may be nil is put into a family.
-/
namespace Go.AX

end Go.AX

/-
 Plain: a graph whose cells are changed one by one, and its rows; graphs in whose arrays b stands for a are valid.
-/
namespace Go.Core
theorem set_same {α : Type} {l : List α} {k : Nat} {x : α} (h : l[k]? = some x) : l.set k x = l := by
 obtain ⟨hk, rfl⟩ := List.getElem?_eq_some_iff.1 h
 exact List.set_getElem_self hk
end Go.Core
namespace Go.Proofs.YtgogonnnojcioaaGreatDoor
open Go.AX Go.RowKit Go.Core
set_option maxRecDepth 20000

end Go.Proofs.YtgogonnnojcioaaGreatDoor

/-
 Contract: the graph of what is reached (program), with memory of the caller's own.
-/
namespace Go.Proofs.YtgogonnnojcioaaGreatDoor
open Go.AX Go.RowKit Go.Core
set_option maxRecDepth 20000

end Go.Proofs.YtgogonnnojcioaaGreatDoor

/-
 Contract: Copy (program), with memory of the caller's own.
-/
namespace Go.Proofs.YtgogonnnojcioaaGreatDoor
open Go.AX Go.RowKit Go.Core
set_option maxRecDepth 20000

end Go.Proofs.YtgogonnnojcioaaGreatDoor

/-
 Contracts: what is reached, whether a circle is, how deep (document).
-/
namespace Go.Proofs.YtgogonnnojcioaaGreatDoor
open Go.AX Go.RowKit Go.Core
set_option maxRecDepth 20000

end Go.Proofs.YtgogonnnojcioaaGreatDoor

/-
 Contract: whether a circle is reached (document).
-/
namespace Go.Core
end Go.Core
namespace Go.Proofs.YtgogonnnojcioaaGreatDoor
open Go.AX Go.RowKit Go.Core
set_option maxRecDepth 20000

end Go.Proofs.YtgogonnnojcioaaGreatDoor

/-
 Contract: how deep (document).
-/
namespace Go.Core
def KnD (g : List Cell) (S : List Int) : Prop := S.length = g.length ∧ ∀ (j : Nat) (v : Int), S[j]? = some v → v = 0 ∨ (v = (dep g (j : Int) : Int) ∧ 0 < v)
theorem KnD.none (g : List Cell) : KnD g (List.replicate g.length 0) := ⟨by simp, fun j v h => by
 rw [List.getElem?_replicate] at h
 split at h
 ·exact .inl (Option.some.inj h).symm
 ·cases h⟩
theorem KnD.put {g : List Cell} {S : List Int} (h : KnD g S) {i : Nat} (hp : 0 < dep g (i : Int)) : KnD g (S.set i (dep g (i : Int) : Int)) := by
 refine ⟨by rw [List.length_set, h.1], fun j v hj => ?_⟩
 by_cases e : i = j
 ·subst e
  rw [List.getElem?_set] at hj
  simp only [if_true] at hj
  split at hj
  ·cases hj; exact .inr ⟨rfl, by omega⟩
  ·cases hj
 ·rw [List.getElem?_set_ne e] at hj
  exact h.2 j v hj
end Go.Core
namespace Go.Proofs.YtgogonnnojcioaaGreatDoor
open Go.AX Go.RowKit Go.Core
set_option maxRecDepth 20000

end Go.Proofs.YtgogonnnojcioaaGreatDoor

/-
 Contracts: Reach, Circular, Depth (document); CoreReaches (law).
-/
namespace Go.Proofs.YtgogonnnojcioaaGreatDoor
open Go.AX Go.RowKit Go.Core
set_option maxRecDepth 20000

end Go.Proofs.YtgogonnnojcioaaGreatDoor

/-
 Contract: own, copied, Copy (document), with memory of the caller's own.
-/
namespace Go.Proofs.YtgogonnnojcioaaGreatDoor
open Go.AX Go.RowKit Go.Core
set_option maxRecDepth 20000

end Go.Proofs.YtgogonnnojcioaaGreatDoor

/-
 Contract: Copy (document), with memory of the caller's own.
-/
namespace Go.Proofs.YtgogonnnojcioaaGreatDoor
open Go.AX Go.RowKit Go.Core
set_option maxRecDepth 20000

end Go.Proofs.YtgogonnnojcioaaGreatDoor

/-
 Contracts: slices.Equal of numbers and strings, the closure of Same (program).
-/
namespace Go.Proofs.YtgogonnnojcioaaGreatDoor
open Go.AX Go.RowKit Go.Core
set_option maxRecDepth 20000

theorem take_next {α : Type} {l m : List α} {i : Nat} {x y : α} (h : l.take i = m.take i) (hx : l[i]? = some x) (hy : m[i]? = some y) (e : x = y) : l.take (i + 1) = m.take (i + 1) := by
 rw [List.take_add_one, List.take_add_one, h, hx, hy, e]
end Go.Proofs.YtgogonnnojcioaaGreatDoor

/-
 Contracts: whether two cells are one (the closure of Same), slices.EqualFunc by it (program).
-/
namespace Go.Core
def cellE (x y : Cell) : Bool := x.kind == y.kind && x.num == y.num && x.text == y.text && decide (x.names = y.names) && decide (x.items = y.items)
theorem cellE_iff {x y : Cell} : cellE x y = true ↔ x = y := by
 unfold cellE
 simp only [Bool.and_eq_true, beq_iff_eq, decide_eq_true_eq]
 constructor
 ·intro ⟨⟨⟨⟨h1, h2⟩, h3⟩, h4⟩, h5⟩
  cases x; cases y
  simp only at h1 h2 h3 h4 h5
  subst h1 h2 h3 h4 h5
  rfl
 ·intro h
  subst h
  exact ⟨⟨⟨⟨rfl, rfl⟩, rfl⟩, rfl⟩, rfl⟩
end Go.Core
namespace Go.Proofs.YtgogonnnojcioaaGreatDoor
open Go.AX Go.RowKit Go.Core
set_option maxRecDepth 20000

theorem bool_no {r : Bool} {P : Prop} (hr : r = true ↔ P) (h : ¬ P) : false = r := by
 cases r with
 | false => rfl
 | true => exact absurd (hr.1 rfl) h
end Go.Proofs.YtgogonnnojcioaaGreatDoor

/-
 Plain: the text of an array is that of its items.
-/
namespace Go.Core
end Go.Core

/-
 Plain: a copy is valid, begins with the cell that was asked for, is the copy of itself, and writes the same text.
-/
namespace Go.Core
open Go.Proofs.YtgogonnnojcioaaGreatDoor
end Go.Core

/-
 Contract: CoreCopies (law).
-/
namespace Go.Proofs.YtgogonnnojcioaaGreatDoor
open Go.AX Go.RowKit Go.Core
set_option maxRecDepth 20000

end Go.Proofs.YtgogonnnojcioaaGreatDoor

/-
 Contract: Same (program).
-/
namespace Go.Proofs.YtgogonnnojcioaaGreatDoor
open Go.AX Go.RowKit Go.Core
set_option maxRecDepth 20000

end Go.Proofs.YtgogonnnojcioaaGreatDoor

/-
 Contracts: Alike of any two graphs, Same (document).
-/
namespace Go.Proofs.YtgogonnnojcioaaGreatDoor
open Go.AX Go.RowKit Go.Core
set_option maxRecDepth 20000

set_option maxHeartbeats 1000000 in
theorem Alike2_c (a b : Option Addr) (ca cb : Nat) (l m : List CellP) (ha : a = none → l = []) (hb : b = none → m = []) (hl : l.length ≤ 200000000000000) (hol : ∀ p ∈ l, CellOk p) (hom : ∀ p ∈ m, CellOk p) (r : Bool) (hr : r = true ↔ l.map (·.c) = m.map (·.c)) :
  ∀ H, (∀ w, Facts H w → GrF a l w ∧ GrF b m w) → SpecH Tryz.prog 27 (pvs [.slice a l.length ca, .slice b m.length cb]) H (Ret (.bool r) H) := by
 refine factC hm Tryz.func27 (by kernel_rfl) rfl rfl ?_
 (first | refine wX ?_ | exact wZ)
 refine brd_ne (fun h0 => ?_) (fun h0 => ?_)
 ·(first | refine wX ?_ | exact wZ)
  exact out_bool (bool_no hr fun e => h0 (by have := congrArg List.length e; simp only [List.length_map] at this; omega))
 have hlen : l.length = m.length := by omega
 (first | refine wX ?_ | exact wZ)
 refine loopS Nat (fun i => i ≤ l.length ∧ (l.map (·.c)).take i = (m.map (·.c)).take i) (fun i => mkS Tryz.f27.ntmps 0 [(0, .c (.v (.slice a l.length ca))), (1, .c (.v (.slice b m.length cb))), (5, .c (.v (.int .i64 (i : Int))))]) (fun i => l.length - i) rfl (fun _ => rfl) 0 ⟨Nat.zero_le _, rfl⟩ ?_ ?_
 ·exact wKK
 intro i ⟨hi, he⟩
 (first | refine wX ?_ | exact wZ)
 refine brd_dec (fun h1 => ?_) (fun h1 => ?_)
 ·obtain ⟨p, hp⟩ : ∃ p, l[i]? = some p := ⟨_, List.getElem?_eq_getElem (by omega)⟩
  obtain ⟨q, hq⟩ : ∃ q, m[i]? = some q := ⟨_, List.getElem?_eq_getElem (by omega)⟩
  have hpc : (l.map (·.c))[i]? = some p.c := by rw [List.getElem?_map, hp]; rfl
  have hqc : (m.map (·.c))[i]? = some q.c := by rw [List.getElem?_map, hq]; rfl
  have hno : p.c ≠ q.c → ¬ l.map (·.c) = m.map (·.c) := fun h e => h (by
   rw [e] at hpc
   exact Option.some.inj (hpc.symm.trans hqc))
  have hpo := hol p (List.mem_of_getElem? hp)
  have hqo := hom q (List.mem_of_getElem? hq)
  have hpm := List.mem_of_getElem? hp
  have hqm := List.mem_of_getElem? hq
  have hil := hpo.il
  have hsa : a.isSome = true := by
   cases a with
   | none => rw [ha rfl] at hp; cases hp
   | some b => rfl
  have hsb : b.isSome = true := by
   cases b with
   | none => rw [hb rfl] at hq; cases hq
   | some b => rfl
  (first | refine wX ?_ | exact wZ)
  refine Nd.mk ⟨hsa, by omega, by omega⟩ ?_
  (first | refine wX ?_ | exact wZ)
  refine LdN.agg (cellC p) rfl (fun w hw => hw.1.1.1) rfl (fun k hk => by rw [Int.toNat_natCast]; exact grC_get l i k hk hp) ?_
  (first | refine wX ?_ | exact wZ)
  refine Nd.mk ⟨hsb, by omega, by omega⟩ ?_
  (first | refine wX ?_ | exact wZ)
  refine LdN.agg (cellC q) rfl (fun w hw => hw.1.2.1) rfl (fun k hk => by rw [Int.toNat_natCast]; exact grC_get m i k hk hq) ?_
  (first | refine wX ?_ | exact wZ)
  have hal := alike_c p q hpo hqo
  refine callQ (hal _ ?_) ?_
  ·intro w hw
   exact ⟨hw.1.1.2 p hpm, hw.1.2.2 q hqm⟩
  cases hab : alikeB p.c q.c with
  | false =>
   (first | refine wX ?_ | exact wZ)
   exact out_bool (bool_no hr (hno fun e => by
    rw [e, alike_refl] at hab
    cases hab))
  | true =>
  have hal := alike_to hab
  have hil2 := hal.2.2.2.2
  (first | refine wX ?_ | exact wZ)
  refine loopS Nat (fun k => k ≤ p.c.items.length ∧ p.c.items.take k = q.c.items.take k) (fun k => mkS Tryz.f27.ntmps 0 [(0, .c (.v (.slice a l.length ca))), (1, .c (.v (.slice b m.length cb))), (5, .c (.v (.int .i64 (i : Int)))), (6, .c (.v (.int .i64 (k : Int))))]) (fun k => p.c.items.length - k) rfl (fun _ => rfl) 0 ⟨Nat.zero_le _, rfl⟩ ?_ ?_
  ·exact wKK
  intro k ⟨hk, hke⟩
  (first | refine wX ?_ | exact wZ)
  refine Nd.mk ⟨hsa, by omega, by omega⟩ ?_
  (first | refine wX ?_ | exact wZ)
  refine LdN.fld (.slice p.ia p.c.items.length p.ic) rfl (fun w hw => hw.1.1.1) (by rw [Int.toNat_natCast]; exact grC_get l i 4 (by decide) hp) ?_
  (first | refine wX ?_ | exact wZ)
  refine brd_dec (fun h2 => ?_) (fun h2 => ?_)
  ·obtain ⟨x, hx⟩ : ∃ x, p.c.items[k]? = some x := ⟨_, List.getElem?_eq_getElem (by omega)⟩
   obtain ⟨y, hx2⟩ : ∃ z, q.c.items[k]? = some z := ⟨_, List.getElem?_eq_getElem (by omega)⟩
   have hkq := (List.getElem?_eq_some_iff.1 hx2).1
   have hsi : p.ia.isSome = true := by
    cases hna : p.ia with
    | none => rw [hpo.ia hna] at hx; cases hx
    | some b => rfl
   have hsj : q.ia.isSome = true := by
    cases hna : q.ia with
    | none => rw [hqo.ia hna] at hx2; cases hx2
    | some b => rfl
   (first | refine wX ?_ | exact wZ)
   refine Nd.mk ⟨hsa, by omega, by omega⟩ ?_
   (first | refine wX ?_ | exact wZ)
   refine LdN.fld (.slice p.ia p.c.items.length p.ic) rfl (fun w hw => hw.1.1.1) (by rw [Int.toNat_natCast]; exact grC_get l i 4 (by decide) hp) ?_
   (first | refine wX ?_ | exact wZ)
   refine Nd.mk ⟨hsi, by omega, by omega⟩ ?_
   (first | refine wX ?_ | exact wZ)
   refine LdN.one (.int .i64 x) rfl (fun w hw => (hw.1.1.2 p hpm).2) (by rw [Int.toNat_natCast]; show (iC p.c.items)[k * 1]? = _; rw [Nat.mul_one]; exact iC_get hx) ?_
   (first | refine wX ?_ | exact wZ)
   refine Nd.mk ⟨hsb, by omega, by omega⟩ ?_
   (first | refine wX ?_ | exact wZ)
   refine LdN.fld (.slice q.ia q.c.items.length q.ic) rfl (fun w hw => hw.1.2.1) (by rw [Int.toNat_natCast]; exact grC_get m i 4 (by decide) hq) ?_
   (first | refine wX ?_ | exact wZ)
   refine Nd.mk ⟨hsj, by omega, by omega⟩ ?_
   (first | refine wX ?_ | exact wZ)
   refine LdN.one (.int .i64 y) rfl (fun w hw => (hw.1.2.2 q hqm).2) (by rw [Int.toNat_natCast]; show (iC q.c.items)[k * 1]? = _; rw [Nat.mul_one]; exact iC_get hx2) ?_
   (first | refine wX ?_ | exact wZ)
   refine brd_ne (fun h => ?_) (fun h => ?_)
   ·(first | refine wX ?_ | exact wZ)
    exact out_bool (bool_no hr (hno fun e => h (by
     rw [e] at hx
     exact Option.some.inj (hx.symm.trans hx2))))
   (first | refine wX ?_ | exact wZ)
   refine ⟨k + 1, ⟨by omega, take_next hke hx hx2 h⟩, by omega, ?_, wHH⟩
   exact wKK
  ·obtain rfl : k = p.c.items.length := by omega
   rw [List.take_length, hil2, List.take_length] at hke
   have hpq : p.c = q.c := cellE_iff.1 (by
    unfold cellE
    rw [hal.1, hal.2.1, hal.2.2.1, hal.2.2.2.1, hke]
    simp)
   (first | refine wX ?_ | exact wZ)
   refine ⟨i + 1, ⟨by omega, take_next he hpc hqc hpq⟩, by omega, ?_, wHH⟩
   exact wKK
 ·obtain rfl : i = l.length := by omega
  rw [List.take_of_length_le (by simp), List.take_of_length_le (by simp; omega)] at he
  (first | refine wX ?_ | exact wZ)
  exact out_bool (hr.2 he).symm
end Go.Proofs.YtgogonnnojcioaaGreatDoor

/-
 Contract: bytes are read as the document says (law).
-/
namespace Go.Marshal
open Go.Core
theorem head_le : ∀ (hs : B) (st : PS), Le 0 st (headM hs st)
 | [], st => Le.refl st
 | h :: hs, st => by
  have h1 : Le 0 st (if (nextM st).1 ≠ h then failM (nextM st).2 4 else (nextM st).2) := by
   split
   ·exact (next_le st).trans (fail_le _ 4)
   ·exact next_le st
  exact h1.trans (head_le hs _)
theorem head_g : ∀ (hs : B) (st : PS), (headM hs st).g = st.g
 | [], st => rfl
 | h :: hs, st => by
  have h1 : (if (nextM st).1 ≠ h then failM (nextM st).2 4 else (nextM st).2).g = st.g := by
   split
   ·rw [fail_g, next_g]
   ·rw [next_g]
  show (headM hs _).g = _
  rw [head_g hs _, h1]
theorem load_wide {s : B} {g : List Cell} {ss : List B} (h : loadS s = .ok (g, ss)) : g.length ≤ 500 ∧ ss.length ≤ 30000 ∧ ∀ c ∈ g, c.names.length ≤ 30001 ∧ c.items.length ≤ 30001 := by
 by_cases hs : s.length ≤ 20000
 ·obtain ⟨_, h2, h3⟩ := (load_ref hs).1 _ h
  have h3 : (readM s).ss = ss := h3
  have h2 : (readM s).g = g := h2
  have b0 : Bd ⟨s, [], [], [], 0⟩ := ⟨Nat.zero_le _, Nat.le_refl _, by show 0 + s.length ≤ _; omega⟩
  have b1 := b0.le (head_le headB ⟨s, [], [], [], 0⟩)
  have b2 := b1.le ((cell_takes (s.length + 1)).le (headM headB ⟨s, [], [], [], 0⟩))
  have hw := cell_wd (s.length + 1) _ b1 (by unfold Wd; rw [head_g]; intro c hc; cases hc)
  have hg : (readM s).g = (cellM (s.length + 1) (headM headB ⟨s, [], [], [], 0⟩)).2.g := by
   unfold readM checkM endM
   split <;> split <;> first | rfl | exact fail_g _ _
  have hq : (readM s).ss = (cellM (s.length + 1) (headM headB ⟨s, [], [], [], 0⟩)).2.ss := by
   have hf : ∀ (a : PS) (e : Int), (failM a e).ss = a.ss := fun a e => by unfold failM; split <;> rfl
   unfold readM checkM endM
   split <;> split <;> first | rfl | exact hf _ _
  rw [← h2, ← h3, hg, hq]
  exact ⟨b2.g, by have := b2.pot; omega, hw⟩
 ·unfold loadS at h
  rw [if_pos (by omega)] at h
  cases h
def gR (R : Except Int (List Cell × List B)) : List Cell := match R with
 | .ok p => p.1
 | .error _ => []
def sR (R : Except Int (List Cell × List B)) : List B := match R with
 | .ok p => p.2
 | .error _ => []
end Go.Marshal
namespace Go.Proofs.YtgogonnnojcioaaGreatDoor
open Go.AX Go.RowKit Go.Core Go.Marshal
set_option maxRecDepth 20000

theorem LoadR.uni {R : Except Int (List Cell × List (List UInt8))} {v : Value} {G : World → Prop} (h : LoadR R v G) : ∃ (a : Option Addr) (c : Nat) (m : List CellP), v = .tuple #[.slice a m.length c, .int .i64 (errS R)] ∧ m.map (·.c) = gR R ∧ (a = none → m = []) ∧ (∀ q ∈ m, CellOk q) ∧ ∀ w, G w → GrF a m w := by
 cases R with
 | error e => exact ⟨none, 0, [], h, rfl, fun _ => rfl, (fun q hq => by cases hq), fun w _ => ⟨slAt_nil w, fun q hq => by cases hq⟩⟩
 | ok p =>
  obtain ⟨g, ss⟩ := p
  obtain ⟨v1, rfl, a, c, m, rfl, h2, h3, h4, h5⟩ := h
  exact ⟨a, c, m, rfl, h2, h3, h4, h5⟩
theorem SymsR.uni {R : Except Int (List Cell × List (List UInt8))} {v : Value} {G : World → Prop} (h : SymsR R v G) : ∃ (a : Option Addr) (c : Nat), v = .tuple #[.slice a (sR R).length c, .int .i64 (errS R)] ∧ (a = none → sR R = []) ∧ ∀ w, G w → SlAt a ((sR R).length * 1) (strC (sR R)) w := by
 cases R with
 | error e => exact ⟨none, 0, h, fun _ => rfl, fun w _ => slAt_nil w⟩
 | ok p =>
  obtain ⟨g, ss⟩ := p
  obtain ⟨v1, rfl, a, c, rfl, h2, h3⟩ := h
  exact ⟨a, c, rfl, h2, h3⟩
theorem same_l (a b : Option Addr) (ca cb : Nat) (l m : List (List UInt8)) (ha : a = none → l = []) (hb : b = none → m = []) (hl : l.length ≤ 1000000) (r : Bool) (hr : r = true ↔ l = m) :
  ∀ H, (∀ w, Facts H w → SlAt a (l.length * 1) (strC l) w ∧ SlAt b (m.length * 1) (strC m) w) → SpecH Tryz.prog 40 (pvs [.slice a l.length ca, .slice b m.length cb]) H (Ret (.bool r) H) := by
 refine factC hm Tryz.func40 (by kernel_rfl) rfl rfl ?_
 (first | refine wX ?_ | exact wZ)
 refine brd_ne (fun h0 => ?_) (fun h0 => ?_)
 ·(first | refine wX ?_ | exact wZ)
  exact out_bool (bool_no hr fun e => h0 (by rw [e]))
 have hlen : l.length = m.length := by omega
 (first | refine wX ?_ | exact wZ)
 refine loopS Nat (fun i => i ≤ l.length ∧ l.take i = m.take i) (fun i => mkS Tryz.f40.ntmps 0 [(0, .c (.v (.slice a l.length ca))), (1, .c (.v (.slice b m.length cb))), (5, .c (.v (.int .i64 (i : Int))))]) (fun i => l.length - i) rfl (fun _ => rfl) 0 ⟨Nat.zero_le _, rfl⟩ ?_ ?_
 ·exact wKK
 intro i ⟨hi, he⟩
 (first | refine wX ?_ | exact wZ)
 refine brd_dec (fun h1 => ?_) (fun h1 => ?_)
 ·obtain ⟨p, hp⟩ : ∃ p, l[i]? = some p := ⟨_, List.getElem?_eq_getElem (by omega)⟩
  obtain ⟨q, hq⟩ : ∃ q, m[i]? = some q := ⟨_, List.getElem?_eq_getElem (by omega)⟩
  have hsa : a.isSome = true := by
   cases a with
   | none => rw [ha rfl] at hp; cases hp
   | some b => rfl
  have hsb : b.isSome = true := by
   cases b with
   | none => rw [hb rfl] at hq; cases hq
   | some b => rfl
  (first | refine wX ?_ | exact wZ)
  refine Nd.mk ⟨hsa, by omega, by omega⟩ ?_
  (first | refine wX ?_ | exact wZ)
  refine LdN.one (.string (bs p)) rfl (fun w hw => hw.1.1) (by show (strC l)[Int.toNat _ * 1]? = _; rw [Int.toNat_natCast, Nat.mul_one]; exact strC_get hp) ?_
  (first | refine wX ?_ | exact wZ)
  refine Nd.mk ⟨hsb, by omega, by omega⟩ ?_
  (first | refine wX ?_ | exact wZ)
  refine LdN.one (.string (bs q)) rfl (fun w hw => hw.1.2) (by show (strC m)[Int.toNat _ * 1]? = _; rw [Int.toNat_natCast, Nat.mul_one]; exact strC_get hq) ?_
  (first | refine wX ?_ | exact wZ)
  have hpq : ((bs p).data.toList == (bs q).data.toList) = (p == q) := by rw [bs_list, bs_list]
  rw [hpq]
  by_cases hc : p = q
  ·rw [show (p == q) = true by rw [hc]; simp]
   (first | refine wX ?_ | exact wZ)
   refine ⟨i + 1, ⟨by omega, ?_⟩, by omega, ?_, wHH⟩
   ·rw [List.take_add_one, List.take_add_one, he, hp, hq, hc]
   ·exact wKK
  ·rw [show (p == q) = false by simpa using hc]
   (first | refine wX ?_ | exact wZ)
   exact out_bool (bool_no hr fun e => hc (by rw [e, hq] at hp; exact (Option.some.inj hp).symm))
 ·have hie : i = l.length := by omega
  subst hie
  rw [List.take_length, hlen, List.take_length] at he
  (first | refine wX ?_ | exact wZ)
  exact out_bool (hr.2 he).symm
theorem loads_c (s : List UInt8) : ∀ H, SpecH Tryz.prog 15 (pvs [.string (bs s)]) H (Ret (.bool true) H) := by
 refine pureC hm Tryz.func15 (by kernel_rfl) rfl rfl ?_
 ((conv => whnf); (repeat ((first | refine VrN.keep ?_ | refine BoxN.own ?_ | refine RwN.own ?_); (conv => whnf))))
 refine SpecF.call (Load_c s) (fun _ _ => trivial) fun v1 G1 hR1 => ?_
 obtain ⟨a1, c1, m1, rfl, hm1, ha1, hk1, hG1⟩ := hR1.uni
 (first | refine wX ?_ | exact wZ)
 refine SpecF.call (RLoad_c s) (fun _ _ => trivial) fun v2 G2 hR2 => ?_
 obtain ⟨a2, c2, m2, rfl, hm2, ha2, hk2, hG2⟩ := hR2.uni
 (first | refine wX ?_ | exact wZ)
 refine SpecF.call (Symbols_c s) (fun _ _ => trivial) fun v3 G3 hR3 => ?_
 obtain ⟨a3, c3, rfl, ha3, hG3⟩ := hR3.uni
 (first | refine wX ?_ | exact wZ)
 refine SpecF.call (RSymbols_c s) (fun _ _ => trivial) fun v4 G4 hR4 => ?_
 obtain ⟨a4, c4, rfl, ha4, hG4⟩ := hR4.uni
 have hwide : m1.length ≤ 500 ∧ ∀ p ∈ m1, p.c.names.length ≤ 30001 ∧ p.c.items.length ≤ 30001 := by
  have h : (gR (loadS s)).length ≤ 500 ∧ ∀ c ∈ gR (loadS s), c.names.length ≤ 30001 ∧ c.items.length ≤ 30001 := by
   cases hl : loadS s with
   | error e => exact ⟨Nat.zero_le _, fun c hc => by cases hc⟩
   | ok p =>
    have h := load_wide (g := p.1) (ss := p.2) hl
    exact ⟨h.1, h.2.2⟩
  rw [← hm1, List.length_map] at h
  exact ⟨h.1, fun p hp => h.2 p.c (List.mem_map.2 ⟨p, hp, rfl⟩)⟩
 have hss : (sR (loadS s)).length ≤ 1000000 := by
  cases hl : loadS s with
  | error e => exact Nat.zero_le _
  | ok p =>
   have h := (load_wide (g := p.1) (ss := p.2) hl).2.1
   show p.2.length ≤ _
   omega
 (first | refine wX ?_ | exact wZ)
 rw [show (errS (loadS s) == errS (loadS s)) = true by simp]
 (first | refine wX ?_ | exact wZ)
 refine SpecF.call (as_m a1 c1 m1 ha1 ⟨by omega, fun p hp => by have := hwide.2 p hp; omega⟩ hk1) (fun w hw => hG1 w hw.1) fun v5 G5 hR5 => ?_
 obtain ⟨a5, c5, m5, rfl, ha5, hm5, hk5, hG5⟩ := hR5
 have hl5 : m5.length ≤ 500 := by
  have := congrArg List.length hm5
  simp only [List.length_map] at this
  omega
 (first | refine wX ?_ | exact wZ)
 refine call1 (Alike2_c a5 a2 c5 c2 m5 m2 ha5 ha2 (by omega) hk5 hk2 true ⟨fun _ => by rw [hm5, hm1, hm2], fun _ => rfl⟩ _ (fun w hw => ⟨hG5 w hw.2.2.2.2.1, hG2 w hw.2.1⟩)) ?_
 (first | refine wX ?_ | exact wZ)
 refine SpecF.call (MCheck_c s) (fun _ _ => trivial) fun v6 G6 hR6 => ?_
 obtain rfl := hR6
 (first | refine wX ?_ | exact wZ)
 rw [show (errS (loadS s) == errS (loadS s)) = true by simp]
 (first | refine wX ?_ | exact wZ)
 rw [show (errS (loadS s) == errS (loadS s)) = true by simp]
 (first | refine wX ?_ | exact wZ)
 rw [show (errS (loadS s) == errS (loadS s)) = true by simp]
 (first | refine wX ?_ | exact wZ)
 refine call1 (same_l a3 a4 c3 c4 (sR (loadS s)) (sR (loadS s)) ha3 ha4 hss true ⟨fun _ => rfl, fun _ => rfl⟩ _ (fun w hw => ⟨hG3 w hw.2.2.1, hG4 w hw.2.2.2.1⟩)) ?_
 (first | refine wX ?_ | exact wZ)
end Go.Proofs.YtgogonnnojcioaaGreatDoor

/-
 Contract: bytes are read as the document says, whatever they are (law).
-/
namespace Go.Proofs.YtgogonnnojcioaaGreatDoor
open Go.AX Go.RowKit Go.Core Go.Marshal
set_option maxRecDepth 20000

theorem MarshalLoads_c (s : List UInt8) : ∀ H, SpecH Tryz.prog 10 (pvs [.string (bs s)]) H (Ret (.bool true) H) := by
 refine pureC hm Tryz.func10 (by kernel_rfl) rfl rfl ?_
 (first | refine wX ?_ | exact wZ)
 refine brd_dec (fun h1 => ?_) (fun h1 => ?_)
 ·(first | refine wX ?_ | exact wZ)
  refine brd_dec (fun h2 => ?_) (fun h2 => ?_)
  ·(first | refine wX ?_ | exact wZ)
   refine call1 (sane_m _) ?_
   (first | refine wX ?_ | exact wZ)
  ·(first | refine wX ?_ | exact wZ)
   refine call1 (loads_c s _) ?_
   (first | refine wX ?_ | exact wZ)
   refine call1 (sane_m _) ?_
   (first | refine wX ?_ | exact wZ)
 ·(first | refine wX ?_ | exact wZ)
  refine call1 (loads_c s _) ?_
  (first | refine wX ?_ | exact wZ)
  refine call1 (sane_m _) ?_
  (first | refine wX ?_ | exact wZ)
end Go.Proofs.YtgogonnnojcioaaGreatDoor

/-
 MarshalLoadsCardSaid is proved: of every string MarshalLoads returns true; the listed tables are tied to the program's text.
-/
namespace Go.Proofs.YtgogonnnojcioaaGreatDoor
open Go.ChangeShapes Go.WideShapes Go.ChangeAt Go.RowKit Go.AX Go.Core
set_option maxRecDepth 100000

namespace MarshalLoads
theorem own : ownKnob Tryz.prog.godebug = none := own0
theorem walk {H : Type} {enc : TypeId × Value → H} (W : World) (base : Nat) (args : Array Value) (ds : List (DataW H)) (p : List MemPlace) (k : Known enc Tryz.prog Tryz.f10 W base args ds p) (_hL : laidMetH Tryz.prog laid3 W) : Walk Tryz.prog 10 args W := by
 obtain ⟨u, rfl⟩ := arr1 (trodAll_len k.trod).2
 obtain ⟨s, rfl, hs⟩ := k.low.string 0 rfl rfl (by kernel_rfl)
 exact walkH [] (fun _ he => by cases he) (MarshalLoads_c s.data.toList _)

theorem lifted (os : Os) (started : os.Started) (H : Type) (enc : TypeId × Value → H) :
  ReturnsInHanded {} Tryz.checked os 10 .any (fun w args => (Rows.marshalLoadsSpec.pre enc Tryz.prog Tryz.f10 [] false w args ∧ laidMetH Tryz.prog laid3 w) ∧ sizedMet enc Tryz.prog Tryz.f10 (OpenSpec.ofChange Rows.marshalLoadsSpec) false w args) (Rows.marshalLoadsSpec.post enc Tryz.prog Tryz.f10 false true false false) := by
 refine liftS (C := Tryz.checked) own started (by kernel_rfl) Tryz.func10
  (ChangeSpec.witness_shaped (enc := enc) (C := Tryz.checked) (os := os) (X := fun w _ => laidMetH Tryz.prog laid3 w) false (World.laidAll Tryz.prog os laid3) #[.string ⟨#[]⟩] 8 (World.laidAll_os _ _ _) (World.shaped_of_ZipB (by kernel_rfl) (by kernel_rfl)) (by kernel_rfl) (by kernel_rfl) (by kernel_rfl) (door_met os _))
  laidOut rfl (t := _) rfl (by kernel_rfl) (by kernel_rfl) ?_ walk
 intro ds hd
 match ds, hd with
 | [d0], _ => rfl

theorem over : Rows.marshalLoadsRow.holds Tryz.pinned (OpenSpec.ofChange Rows.marshalLoadsSpec) :=
 OpenClaim.holds_of_wide 10 Tryz.f10 rfl rfl rfl rfl rfl rfl rfl ⟨rfl, rfl, rfl, rfl, rfl⟩ rfl rfl rfl rfl rfl (by kernel_rfl) Tryz.func10 (by kernel_rfl)
  (of_decide_eq_true (by kernel_rfl)) (by unfold Func.isWrapper; first | (rw [if_pos (by decide +kernel)]; kernel_rfl) | (rw [if_neg (by decide +kernel)]; exact ⟨rfl, rfl⟩))
  (fun os started H enc _ => lifted os started H enc)

theorem proved : Rows.MarshalLoadsCardSaid :=
 Claim7.holds_tied_plain_at .later [] [.data, .pinned] true (true, "92e2ed60dd5b2613fe6e0d172a7e2bd0782f276a49ab098c444f4227433a6c5a") false
  over (fun _ h => by cases h) (by kernel_rfl) (fun _ h => by cases h) marshalLoads_row_tie rfl ⟨rfl, rfl⟩ (by kernel_rfl) rfl
  (fun f fn hf hfn => by
   obtain rfl : f = 10 := Option.some.inj ((show Tryz.prog.funcNamed "cabochon/cabochonlaw29.MarshalLoads" = some 10 by kernel_rfl).symm.trans hf) |>.symm
   obtain rfl : fn = Tryz.f10 := (Option.some.inj (Tryz.func10.symm.trans hfn)).symm
   exact ⟨by kernel_rfl, fun j t ht => by
    have hm : t ∈ Tryz.f10.params.toList := by simpa using Array.mem_of_getElem? ht
    have hall : (Tryz.f10.params.toList.all fun u => !Tryz.prog.wantsStandIn u) = true := by kernel_rfl
    exact (show Tryz.prog.wantsStandIn t = false by simpa using List.all_eq_true.1 hall t hm)⟩)
  (by kernel_rfl)
#print axioms proved
end MarshalLoads
end Go.Proofs.YtgogonnnojcioaaGreatDoor
