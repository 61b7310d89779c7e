/-
  MarshalDeepCardSaid is proved: of every numbers MarshalDeep returns true; the listed tables are tied to the program's text.
-/
import Derived.Lib.SlBytesConst
import Derived.Test.YtgogonnnojcioaaGreatDoorCards
import Derived.Test.YtgogonnnojcioaaGreatDoorTie
import Derived.Test.YtgogonnnojcioaaGreatDoorMde10
set_option linter.unusedVariables false
set_option linter.unusedSimpArgs false
namespace Go.Marshal
open Go.Core
theorem Tel.addS {st : PS} (h : st.e = 0) (c : Cell) : Tel (.ok ((), addS c (toS st))) () { st with g := st.g ++ [c] } := by
 obtain ⟨s, g, cs, ss, e⟩ := st
 simp only at h
 subst h
 exact ⟨rfl, rfl⟩
end Go.Marshal
namespace Go.Proofs.YtgogonnnojcioaaGreatDoor
open Go.AX Go.RowKit Go.Core Go.Marshal
set_option maxRecDepth 20000
theorem Qeg {H : List Ent} {rb : Nat} {S : List UInt8} {st : PS} {p : RdP} {nm : List Qaj} (hl : 5 <= H.length) (h0 : H[0]? = some (.app 109 6 (ddC S st p) (some ⟨rb, 0, none⟩) 1 1)) (h1 : H[1]? = some (.app 87 5 (grC p.m) p.ga p.m.length p.gc)) (h3 : H[3]? = some (.app 3 1 (iC st.cells) p.ca st.cells.length p.cc)) (h4 : H[4]? = some (.app 9 1 (strC st.ss) p.sa st.ss.length p.sc)) (hΓ : ∀ w, Qax (Qh3 H (dE rb S st p nm)) w -> ∀ q ∈ nm, Qbn q w) : Qsj H (dE rb S st p nm) := by
 refine ⟨hl, fun i e he => ?_⟩
 rcases i with _ | _ | _ | _ | _ | i
 ·obtain rfl := Zzz he
  exact .inr (.inl ⟨_, _, _, _, _, _, rfl, h0⟩)
 ·obtain rfl := Zzz he
  exact .inr (.inl ⟨_, _, _, _, _, _, rfl, h1⟩)
 ·exact .inr (.inr ⟨_, (Zzz he).symm, hΓ⟩)
 ·obtain rfl := Zzz he
  exact .inr (.inl ⟨_, _, _, _, _, _, rfl, h3⟩)
 ·obtain rfl := Zzz he
  exact .inr (.inl ⟨_, _, _, _, _, _, rfl, h4⟩)
 ·cases he
theorem Qdp {c : Cell} (hn : c.names = []) (hi : c.items = []) (w : World) : Qbn (plP c) w := by
 obtain ⟨k, n, t, ns, its⟩ := c
 simp only at hn hi
 subst hn
 subst hi
 exact ⟨Qet w, Qet w⟩
theorem Qcu {n : Nat} {st s1 : PS} {x : UInt8} (tel : Tel (Qc2 (toS st)) x s1) (h1 : s1.e = 0) (h64 : x ≠ 64) (h5 : ¬ 500 <= s1.g.length) (hx : x ∈ Qbl) {st' : PS} (hi : Tel (Qx6 (Qc8 n) x (toS s1)) () st') : Tel (Qc8 (n + 1) (toS st)) (s1.g.length : Int) st' := by
 unfold Qc8
 rw [tel.live h1]
 show Tel (if x = 64 then _ else if 500 <= s1.g.length \/ x ∉ Qbl then _ else _) _ _
 rw [if_neg h64, if_neg (fun h => h.elim h5 (fun h => h hx))]
 exact hi.bnd (fun h => Tel.ok h) (fun _ => rfl)
theorem Qr8 {n : Nat} {st s1 : PS} {x : UInt8} (tel : Tel (Qc2 (toS st)) x s1) (h1 : s1.e = 0) (h64 : x ≠ 64) (h : 500 <= s1.g.length \/ x ∉ Qbl) : Tel (Qc8 (n + 1) (toS st)) 0 (Qam s1 4) := by
 unfold Qc8
 rw [tel.live h1]
 show Tel (if x = 64 then _ else if 500 <= s1.g.length \/ x ∉ Qbl then _ else _) _ _
 rw [if_neg h64, if_pos h]
 exact ⟨Qcq h1 4, by decide⟩
theorem Qw6 {n : Nat} {st s1 s2 : PS} {k : Nat} (tel : Tel (Qc2 (toS st)) 64 s1) (h1 : s1.e = 0) (tk : Tel (numS maxN (toS s1)) k s2) : (s2.e ≠ 0 -> Tel (Qc8 (n + 1) (toS st)) 0 s2) /\ (s2.e = 0 -> s2.cells.length <= k -> Tel (Qc8 (n + 1) (toS st)) 0 (Qam s2 4)) /\ (s2.e = 0 -> k < s2.cells.length -> Tel (Qc8 (n + 1) (toS st)) (s2.cells.getD k 0) s2) := by
 unfold Qc8
 rw [tel.live h1]
 refine ⟨fun h => ?_, fun h h2 => ?_, fun h h2 => ?_⟩
 ·show Tel (bnd (numS maxN (toS s1)) _) _ _
  rw [tk.dead h]
  exact ⟨rfl, h⟩
 ·show Tel (bnd (numS maxN (toS s1)) _) _ _
  rw [tk.live h]
  show Tel (match s2.cells[k]? with
   | some c => .ok (c, toS s2)
   | none => .error 4) _ _
  rw [List.getElem?_eq_none h2]
  exact ⟨Qcq h 4, by decide⟩
 ·show Tel (bnd (numS maxN (toS s1)) _) _ _
  rw [tk.live h]
  show Tel (match s2.cells[k]? with
   | some c => .ok (c, toS s2)
   | none => .error 4) _ _
  rw [Zlz, Zbz h2]
  exact Tel.ok h
theorem Qls {st s2 : PS} (le : Le 0 st s2) (h5 : s2.g.length < 500) (c : Cell) : Le 0 st (addP s2 c) := by
 have h1 := le.g
 have h2 := le.cl
 exact ⟨le.pot, le.s, by show _ <= (s2.g ++ [c]).length; simp; omega, fun _ => by show (s2.g ++ [c]).length <= 500; simp; omega, by show s2.cells.length + st.g.length <= st.cells.length + (s2.g ++ [c]).length; simp; omega⟩
theorem Qjz {s1 : PS} (b : Bd s1) (h5 : s1.g.length < 500) (c : Cell) (x : Int) : Bd (Qaz (addP s1 c) x) :=
 ⟨by show (s1.g ++ [c]).length <= 500; simp; omega, by show (s1.cells ++ [x]).length <= (s1.g ++ [c]).length; have := b.cl; simp; omega, b.pot⟩
theorem Qjy {st s1 : PS} (le : Le 0 st s1) (h5 : s1.g.length < 500) (c : Cell) (x : Int) : Le 0 st (Qaz (addP s1 c) x) := by
 have h1 := le.g
 have h2 := le.cl
 exact ⟨le.pot, le.s, by show _ <= (s1.g ++ [c]).length; simp; omega, fun _ => by show (s1.g ++ [c]).length <= 500; simp; omega, by show (s1.cells ++ [x]).length + st.g.length <= st.cells.length + (s1.g ++ [c]).length; simp; omega⟩
set_option maxHeartbeats 4000000 in
theorem Qvk (n : Nat) (hc : Qwd n) : Qwd (n + 1) := by
  intro rb S st p nm hS ok bd hl h0 hn
  have htel := Ref.next.tel h0
  have hne := Qr0 rb S (by omega) st p nm hl
  have b1 := bd.le (Qdd st)
  have le1 := Qdd st
  have les := Qho st
  have ok1 := ok.same (Qc6 st)
  have hl1 := hl.next
  have hlt := Qk2 (st := st)
  have hR : ∃ R, Qc8 (n + 1) (toS st) = R := ⟨_, rfl⟩
  refine SpecH.sealP ?_
  refine SpecH.pad [.app 9 1 [] none 0 0, .app 3 1 [] none 0 0] rfl ?_
  refine Qas hm Tryz.func86 (by kernel_rfl) rfl rfl ?_
  generalize Qad st = q at htel hne b1 le1 ok1 hl1 hlt les
  obtain ⟨x, s1⟩ := q
  simp only at htel hne b1 le1 ok1 hl1 hlt les
  refine wX ?_
  refine Qai (hne) [0, 1, 2, 3, 4] rfl ⟨rfl, rfl, rfl, rfl, rfl, trivial⟩ rfl fun _ _ => ?_
  refine wX ?_
  refine LdN.one (a := some ⟨rb, 0, none⟩) (q := 5) (.int .i64 s1.e) rfl (fun w hw => hw.1) rfl ?_
  refine wX ?_
  refine Qbb (fun he => ?_) (fun he => ?_)
  · refine wX ?_
    refine ⟨dE rb S (s1) (p) (nm ++ []), Zaz rfl, Qeg (Zaz rfl) rfl rfl rfl rfl (fun w hw => by rw [List.append_nil]; exact hw.1), ⟨_, rfl⟩, ⟨⟨_, s1, p, []⟩, ⟨?_, ?_, ?_, ?_, ?_, ?_, ?_⟩, rfl, rfl⟩⟩
    · exact ok1
    · exact (List.append_nil _).symm
    · intro q hq; cases hq
    · exact hl1
    · exact le1
    · exact fun h => absurd h he
    · exact htel.bnd (fun h => absurd h he) (fun _ => rfl)
  obtain ⟨hs1, _⟩ := hlt (.inl he)
  have hgl := b1.g
  have hml : p.m.length = s1.g.length := by rw [<- ok1.g, List.length_map]
  have hp1 := b1.pot
  by_cases h64 : x = 64
  · subst h64
    have htk := (Ref.num maxN).tel he
    have hnum := Qh9 rb S (by omega) s1 p nm hl1 maxN
    have ok2 := ok1.same (Qb7 maxN s1)
    have le2 := Qc4 maxN s1
    have hl2 := hl1.num maxN
    have hmo := Qea maxN s1
    generalize numM maxN s1 = q at htk hnum ok2 le2 hl2 hmo
    obtain ⟨k, s2⟩ := q
    simp only at htk hnum ok2 le2 hl2 hmo
    have hmo : k <= 1000000000000000 := hmo
    obtain ⟨f1, f2, f3⟩ := Qw6 (n := n) htel he htk
    have hls := le2.s
    refine wX ?_
    refine Qai (hnum) [0, 1, 2, 3, 4] rfl ⟨rfl, rfl, rfl, rfl, rfl, trivial⟩ rfl fun _ _ => ?_
    refine wX ?_
    refine LdN.one (a := some ⟨rb, 0, none⟩) (q := 5) (.int .i64 s2.e) rfl (fun w hw => hw.1) rfl ?_
    refine wX ?_
    by_cases he2 : s2.e = 0
    · rw [show (s2.e == 0) = true by rw [he2]; rfl]
      refine wX ?_
      refine LdN.one (a := some ⟨rb, 0, none⟩) (q := 3) (.slice p.ca s2.cells.length p.cc) rfl (fun w hw => hw.1) rfl ?_
      refine wX ?_
      refine Qab (fun hk => ?_) (fun hk => ?_)
      · refine wX ?_
        refine Qai (Qga rb S s2 p nm 4) [0, 1, 2, 3, 4] rfl ⟨rfl, rfl, rfl, rfl, rfl, trivial⟩ rfl fun _ _ => ?_
        have he4 : (Qam s2 4).e = 4 := Qcq he2 4
        refine wX ?_
        refine LdN.one (a := some ⟨rb, 0, none⟩) (q := 5) (.int .i64 (Qam s2 4).e) rfl (fun w hw => hw.1) rfl ?_
        refine wX ?_
        rw [show ((Qam s2 4).e != 0) = true by rw [he4]; rfl]
        refine wX ?_
        refine ⟨dE rb S (Qam s2 4) (p) (nm ++ []), Zaz rfl, Qeg (Zaz rfl) rfl rfl rfl rfl (fun w hw => by rw [List.append_nil]; exact hw.1), ⟨_, rfl⟩, ⟨⟨_, Qam s2 4, p, []⟩, ⟨?_, ?_, ?_, ?_, ?_, ?_, ?_⟩, rfl, rfl⟩⟩
        · exact ok2.same (Qbj s2 4)
        · exact (List.append_nil _).symm
        · intro q hq; cases hq
        · exact hl2.fail 4
        · exact (le1.trans le2).trans (Qcj s2 4)
        · exact fun h => by rw [he4] at h; exact absurd h (by decide)
        · exact f2 he2 (by omega)
      · have hkl : k < s2.cells.length := by omega
        have hsa : p.ca.isSome = true := by
          cases h : p.ca with
          | none =>
            rw [ok2.ca h] at hkl
            exact absurd hkl (Nat.not_lt_zero _)
          | some b => rfl
        have hget : s2.cells[k]? = some (s2.cells.getD k 0) := by rw [Zlz, Zbz hkl]; rfl
        refine wX ?_
        refine LdN.one (a := some ⟨rb, 0, none⟩) (q := 5) (.int .i64 s2.e) rfl (fun w hw => hw.1) rfl ?_
        refine wX ?_
        rw [show (s2.e != 0) = false by rw [he2]; rfl]
        refine wX ?_
        refine LdN.one (a := some ⟨rb, 0, none⟩) (q := 3) (.slice p.ca s2.cells.length p.cc) rfl (fun w hw => hw.1) rfl ?_
        refine wX ?_
        refine Nd.mk ⟨hsa, by omega, by omega⟩ ?_
        refine wX ?_
        refine LdN.one (.int .i64 (s2.cells.getD k 0)) rfl (fun w hw => hw.2.2.2.1) (by show (iC s2.cells)[Int.toNat _ * 1]? = _; rw [Zdz, Nat.mul_one]; exact Qcb hget) ?_
        refine wX ?_
        refine ⟨dE rb S (s2) (p) (nm ++ []), Zaz rfl, Qeg (Zaz rfl) rfl rfl rfl rfl (fun w hw => by rw [List.append_nil]; exact hw.1), ⟨_, rfl⟩, ⟨⟨_, s2, p, []⟩, ⟨?_, ?_, ?_, ?_, ?_, ?_, ?_⟩, rfl, rfl⟩⟩
        · exact ok2
        · exact (List.append_nil _).symm
        · intro q hq; cases hq
        · exact hl2
        · exact le1.trans le2
        · exact fun _ => by show s2.s.length < _; omega
        · exact f3 he2 hkl
    · rw [show (s2.e == 0) = false by simpa using he2]
      refine wX ?_
      refine LdN.one (a := some ⟨rb, 0, none⟩) (q := 5) (.int .i64 s2.e) rfl (fun w hw => hw.1) rfl ?_
      refine wX ?_
      refine Qbb (fun _ => ?_) (fun h => absurd h he2)
      refine wX ?_
      refine ⟨dE rb S (s2) (p) (nm ++ []), Zaz rfl, Qeg (Zaz rfl) rfl rfl rfl rfl (fun w hw => by rw [List.append_nil]; exact hw.1), ⟨_, rfl⟩, ⟨⟨_, s2, p, []⟩, ⟨?_, ?_, ?_, ?_, ?_, ?_, ?_⟩, rfl, rfl⟩⟩
      · exact ok2
      · exact (List.append_nil _).symm
      · intro q hq; cases hq
      · exact hl2
      · exact le1.trans le2
      · exact fun h => absurd h he2
      · exact f1 he2
  have e64 : ((x.toNat : Int) == 64) = false := by
    rw [beq_eq_false_iff_ne]
    intro h5
    exact h64 (UInt8.toNat_inj.1 (by have : x.toNat = 64 := by omega
                                     rw [this]; rfl))
  by_cases h5 : 500 <= s1.g.length
  · refine wX ?_
    rw [show ((x.toNat : Int) != 64) = true by rw [bne, e64]; rfl]
    refine wX ?_
    refine LdN.one (a := some ⟨rb, 0, none⟩) (q := 2) (.slice p.ga p.m.length p.gc) rfl (fun w hw => hw.1) rfl ?_
    refine wX ?_
    rw [show decide ((p.m.length : Int) ≥ 500) = true by simp; omega]
    refine wX ?_
    refine Qai (Qga rb S s1 p nm 4) [0, 1, 2, 3, 4] rfl ⟨rfl, rfl, rfl, rfl, rfl, trivial⟩ rfl fun _ _ => ?_
    refine wX ?_
    refine ⟨dE rb S (Qam s1 4) (p) (nm ++ []), Zaz rfl, Qeg (Zaz rfl) rfl rfl rfl rfl (fun w hw => by rw [List.append_nil]; exact hw.1), ⟨_, rfl⟩, ⟨⟨_, Qam s1 4, p, []⟩, ⟨?_, ?_, ?_, ?_, ?_, ?_, ?_⟩, rfl, rfl⟩⟩
    · exact ok1.same (Qbj s1 4)
    · exact (List.append_nil _).symm
    · intro q hq; cases hq
    · exact hl1.fail 4
    · exact le1.trans (Qcj s1 4)
    · exact fun h => by rw [Qcq he 4] at h; exact absurd h (by decide)
    · exact Qr8 htel he h64 (.inl h5)
  by_cases hx : x ∈ Qbl
  · have hx2 := hx
    unfold Qbl at hx2
    simp only [List.mem_cons, List.not_mem_nil, or_false] at hx2
    have hp2 : ∃ p2 : RdP, p2 = p := ⟨p, rfl⟩
    obtain ⟨p2, rfl⟩ := hp2
    have hm3 := hml
    have hp3 : p2 = p2 := rfl
    rcases hx2 with rfl | rfl | rfl | rfl | rfl | rfl | rfl | rfl | rfl | rfl
    · have ok2 := ok1
      have hl2 := hl1
      have le2 := le1
      refine wX ?_
      refine LdN.one (a := some ⟨rb, 0, none⟩) (q := 2) (.slice p2.ga p2.m.length p2.gc) rfl (fun w hw => hw.1) rfl ?_
      refine wX ?_
      rw [show decide ((p2.m.length : Int) ≥ 500) = false by simp; omega]
      refine wX ?_
      refine Qai (Qlt rb S s1 p2 nm ⟨0, 0, [], [], []⟩ ⟨rfl, rfl⟩ (by omega)) [0, 1, 2, 3, 4] rfl ⟨rfl, rfl, rfl, rfl, rfl, trivial⟩ rfl fun i _ => ?_
      refine wX ?_
      refine ⟨dE rb S (addP s1 ⟨0, 0, [], [], []⟩) ({ p2 with m := p2.m ++ [plP ⟨0, 0, [], [], []⟩], ga := some ⟨i.1, 0, none⟩, gc := i.2 }) (nm ++ [plP ⟨0, 0, [], [], []⟩]), Zaz rfl, Qeg (Zaz rfl) rfl rfl rfl rfl (fun w hw => fun q hq => (Zmz.1 hq).elim (hw.1 q) (fun h => by rw [Zgz.1 h]; exact Qdp rfl rfl w)), ⟨_, rfl⟩, ⟨⟨_, addP s1 ⟨0, 0, [], [], []⟩, { p2 with m := p2.m ++ [plP ⟨0, 0, [], [], []⟩], ga := some ⟨i.1, 0, none⟩, gc := i.2 }, [plP ⟨0, 0, [], [], []⟩]⟩, ⟨?_, ?_, ?_, ?_, ?_, ?_, ?_⟩, rfl, rfl⟩⟩
      · exact ok2.add ⟨0, 0, [], [], []⟩ _ _
      · exact by first | rfl | (show _ = _; rw [hp3])
      · intro q hq
        rw [Zgz.1 hq]
        exact Qcn rfl rfl (Zkz _)
      · exact hl2
      · exact Qls le2 (by omega) _
      · exact fun _ => by show s1.s.length < _; omega
      · show Tel _ (p2.m.length : Int) _
        rw [hm3]
        exact Qcu htel he h64 h5 hx (Tel.addS he _)
    · have ok2 := ok1
      have hl2 := hl1
      have le2 := le1
      refine wX ?_
      refine LdN.one (a := some ⟨rb, 0, none⟩) (q := 2) (.slice p2.ga p2.m.length p2.gc) rfl (fun w hw => hw.1) rfl ?_
      refine wX ?_
      rw [show decide ((p2.m.length : Int) ≥ 500) = false by simp; omega]
      refine wX ?_
      refine Qai (Qlt rb S s1 p2 nm ⟨1, 0, [], [], []⟩ ⟨rfl, rfl⟩ (by omega)) [0, 1, 2, 3, 4] rfl ⟨rfl, rfl, rfl, rfl, rfl, trivial⟩ rfl fun i _ => ?_
      refine wX ?_
      refine ⟨dE rb S (addP s1 ⟨1, 0, [], [], []⟩) ({ p2 with m := p2.m ++ [plP ⟨1, 0, [], [], []⟩], ga := some ⟨i.1, 0, none⟩, gc := i.2 }) (nm ++ [plP ⟨1, 0, [], [], []⟩]), Zaz rfl, Qeg (Zaz rfl) rfl rfl rfl rfl (fun w hw => fun q hq => (Zmz.1 hq).elim (hw.1 q) (fun h => by rw [Zgz.1 h]; exact Qdp rfl rfl w)), ⟨_, rfl⟩, ⟨⟨_, addP s1 ⟨1, 0, [], [], []⟩, { p2 with m := p2.m ++ [plP ⟨1, 0, [], [], []⟩], ga := some ⟨i.1, 0, none⟩, gc := i.2 }, [plP ⟨1, 0, [], [], []⟩]⟩, ⟨?_, ?_, ?_, ?_, ?_, ?_, ?_⟩, rfl, rfl⟩⟩
      · exact ok2.add ⟨1, 0, [], [], []⟩ _ _
      · exact by first | rfl | (show _ = _; rw [hp3])
      · intro q hq
        rw [Zgz.1 hq]
        exact Qcn rfl rfl (Zkz _)
      · exact hl2
      · exact Qls le2 (by omega) _
      · exact fun _ => by show s1.s.length < _; omega
      · show Tel _ (p2.m.length : Int) _
        rw [hm3]
        exact Qcu htel he h64 h5 hx (Tel.addS he _)
    · have ok2 := ok1
      have hl2 := hl1
      have le2 := le1
      refine wX ?_
      refine LdN.one (a := some ⟨rb, 0, none⟩) (q := 2) (.slice p2.ga p2.m.length p2.gc) rfl (fun w hw => hw.1) rfl ?_
      refine wX ?_
      rw [show decide ((p2.m.length : Int) ≥ 500) = false by simp; omega]
      refine wX ?_
      refine Qai (Qlt rb S s1 p2 nm ⟨2, 0, [], [], []⟩ ⟨rfl, rfl⟩ (by omega)) [0, 1, 2, 3, 4] rfl ⟨rfl, rfl, rfl, rfl, rfl, trivial⟩ rfl fun i _ => ?_
      refine wX ?_
      refine ⟨dE rb S (addP s1 ⟨2, 0, [], [], []⟩) ({ p2 with m := p2.m ++ [plP ⟨2, 0, [], [], []⟩], ga := some ⟨i.1, 0, none⟩, gc := i.2 }) (nm ++ [plP ⟨2, 0, [], [], []⟩]), Zaz rfl, Qeg (Zaz rfl) rfl rfl rfl rfl (fun w hw => fun q hq => (Zmz.1 hq).elim (hw.1 q) (fun h => by rw [Zgz.1 h]; exact Qdp rfl rfl w)), ⟨_, rfl⟩, ⟨⟨_, addP s1 ⟨2, 0, [], [], []⟩, { p2 with m := p2.m ++ [plP ⟨2, 0, [], [], []⟩], ga := some ⟨i.1, 0, none⟩, gc := i.2 }, [plP ⟨2, 0, [], [], []⟩]⟩, ⟨?_, ?_, ?_, ?_, ?_, ?_, ?_⟩, rfl, rfl⟩⟩
      · exact ok2.add ⟨2, 0, [], [], []⟩ _ _
      · exact by first | rfl | (show _ = _; rw [hp3])
      · intro q hq
        rw [Zgz.1 hq]
        exact Qcn rfl rfl (Zkz _)
      · exact hl2
      · exact Qls le2 (by omega) _
      · exact fun _ => by show s1.s.length < _; omega
      · show Tel _ (p2.m.length : Int) _
        rw [hm3]
        exact Qcu htel he h64 h5 hx (Tel.addS he _)
    · have htk := (Ref.num (2 * maxN)).tel he
      have hnum := Qh9 rb S (by omega) s1 p2 nm hl1 (2 * maxN)
      have ok2 := ok1.same (Qb7 (2 * maxN) s1)
      have le2 := le1.trans (Qc4 (2 * maxN) s1)
      have hl2 := hl1.num (2 * maxN)
      have hkp := Qb7 (2 * maxN) s1
      have hmo := Qea (2 * maxN) s1
      have hls2 := (Qc4 (2 * maxN) s1).s
      generalize numM (2 * maxN) s1 = q at htk hnum ok2 le2 hl2 hkp hmo hls2
      obtain ⟨m, s2⟩ := q
      simp only at htk hnum ok2 le2 hl2 hkp hmo hls2
      have hmo : m <= 2000000000000000 := hmo
      have hg2 : s2.g.length = s1.g.length := by rw [hkp.2.1]
      refine wX ?_
      refine LdN.one (a := some ⟨rb, 0, none⟩) (q := 2) (.slice p2.ga p2.m.length p2.gc) rfl (fun w hw => hw.1) rfl ?_
      refine wX ?_
      rw [show decide ((p2.m.length : Int) ≥ 500) = false by simp; omega]
      refine wX ?_
      refine Qai (hnum) [0, 1, 2, 3, 4] rfl ⟨rfl, rfl, rfl, rfl, rfl, trivial⟩ rfl fun _ _ => ?_
      refine wX ?_
      have em : (m : Int).tmod 2 = ((m % 2 : Nat) : Int) := (Int.ofNat_tmod m 2).symm
      have ed : (m : Int).tdiv 2 = ((m / 2 : Nat) : Int) := (Int.ofNat_tdiv m 2).symm
      refine Qa0 (fun h => ?_) (fun h => ?_)
      · have hu : Qcr m = -(((m + 1) / 2 : Nat) : Int) := by unfold Qcr; rw [if_pos (by omega)]
        refine wX ?_
        rw [show IntKind.i64.wrap ((IntKind.i64.wrap (0 - IntKind.i64.wrap ((m : Int) + 1))).tdiv 2) = Qcr m by
          rw [Qaf (x := (m : Int) + 1) (by omega), Qaf (x := 0 - ((m : Int) + 1)) (by omega), show (0 : Int) - ((m : Int) + 1) = -(((m + 1 : Nat)) : Int) by omega, Int.neg_tdiv, show ((m + 1 : Nat) : Int).tdiv 2 = (((m + 1) / 2 : Nat) : Int) from (Int.ofNat_tdiv (m + 1) 2).symm, Qaf (by omega), hu]]
        refine Qai (Qlt rb S s2 p2 nm ⟨3, Qcr m, [], [], []⟩ ⟨rfl, rfl⟩ (by omega)) [0, 1, 2, 3, 4] rfl ⟨rfl, rfl, rfl, rfl, rfl, trivial⟩ rfl fun i _ => ?_
        refine wX ?_
        refine ⟨dE rb S (addP s2 ⟨3, Qcr m, [], [], []⟩) ({ p2 with m := p2.m ++ [plP ⟨3, Qcr m, [], [], []⟩], ga := some ⟨i.1, 0, none⟩, gc := i.2 }) (nm ++ [plP ⟨3, Qcr m, [], [], []⟩]), Zaz rfl, Qeg (Zaz rfl) rfl rfl rfl rfl (fun w hw => fun q hq => (Zmz.1 hq).elim (hw.1 q) (fun h => by rw [Zgz.1 h]; exact Qdp rfl rfl w)), ⟨_, rfl⟩, ⟨⟨_, addP s2 ⟨3, Qcr m, [], [], []⟩, { p2 with m := p2.m ++ [plP ⟨3, Qcr m, [], [], []⟩], ga := some ⟨i.1, 0, none⟩, gc := i.2 }, [plP ⟨3, Qcr m, [], [], []⟩]⟩, ⟨?_, ?_, ?_, ?_, ?_, ?_, ?_⟩, rfl, rfl⟩⟩
        · exact ok2.add ⟨3, Qcr m, [], [], []⟩ _ _
        · exact by first | rfl | (show _ = _; rw [hp3])
        · intro q hq
          rw [Zgz.1 hq]
          exact Qcn rfl rfl (Zkz _)
        · exact hl2
        · exact Qls le2 (by omega) _
        · exact fun _ => by show s2.s.length < _; omega
        · show Tel _ (p2.m.length : Int) _
          rw [hm3]
          exact Qcu htel he h64 h5 hx (htk.bnd (fun h => Tel.addS h _) (fun _ => rfl))
      · have hu : Qcr m = ((m / 2 : Nat) : Int) := by unfold Qcr; rw [if_neg (by omega)]
        refine wX ?_
        rw [show (m : Int).tdiv 2 = Qcr m by rw [ed, hu]]
        refine Qai (Qlt rb S s2 p2 nm ⟨3, Qcr m, [], [], []⟩ ⟨rfl, rfl⟩ (by omega)) [0, 1, 2, 3, 4] rfl ⟨rfl, rfl, rfl, rfl, rfl, trivial⟩ rfl fun i _ => ?_
        refine wX ?_
        refine ⟨dE rb S (addP s2 ⟨3, Qcr m, [], [], []⟩) ({ p2 with m := p2.m ++ [plP ⟨3, Qcr m, [], [], []⟩], ga := some ⟨i.1, 0, none⟩, gc := i.2 }) (nm ++ [plP ⟨3, Qcr m, [], [], []⟩]), Zaz rfl, Qeg (Zaz rfl) rfl rfl rfl rfl (fun w hw => fun q hq => (Zmz.1 hq).elim (hw.1 q) (fun h => by rw [Zgz.1 h]; exact Qdp rfl rfl w)), ⟨_, rfl⟩, ⟨⟨_, addP s2 ⟨3, Qcr m, [], [], []⟩, { p2 with m := p2.m ++ [plP ⟨3, Qcr m, [], [], []⟩], ga := some ⟨i.1, 0, none⟩, gc := i.2 }, [plP ⟨3, Qcr m, [], [], []⟩]⟩, ⟨?_, ?_, ?_, ?_, ?_, ?_, ?_⟩, rfl, rfl⟩⟩
        · exact ok2.add ⟨3, Qcr m, [], [], []⟩ _ _
        · exact by first | rfl | (show _ = _; rw [hp3])
        · intro q hq
          rw [Zgz.1 hq]
          exact Qcn rfl rfl (Zkz _)
        · exact hl2
        · exact Qls le2 (by omega) _
        · exact fun _ => by show s2.s.length < _; omega
        · show Tel _ (p2.m.length : Int) _
          rw [hm3]
          exact Qcu htel he h64 h5 hx (htk.bnd (fun h => Tel.addS h _) (fun _ => rfl))
    · -- there is room for a cell
      refine wX ?_
      refine LdN.one (a := some ⟨rb, 0, none⟩) (q := 2) (.slice p2.ga p2.m.length p2.gc) rfl (fun w hw => hw.1) rfl ?_
      refine wX ?_
      rw [show decide ((p2.m.length : Int) ≥ 500) = false by simp; omega]
      refine wX ?_
      refine Qai (Qlt rb S s1 p2 nm ⟨4, 0, [], [], []⟩ ⟨rfl, rfl⟩ (by omega)) [0, 1, 2, 3, 4] rfl ⟨rfl, rfl, rfl, rfl, rfl, trivial⟩ rfl fun i _ => ?_
      have ok2 := ok1.add ⟨4, 0, [], [], []⟩ i.1 i.2
      have hbo := Qjz b1 (by omega) ⟨4, 0, [], [], []⟩ (p2.m.length : Int)
      have hlo := Qjy le1 (by omega) ⟨4, 0, [], [], []⟩ (p2.m.length : Int)
      have hbc := b1.cl
      refine wX ?_
      refine LdN.one (a := some ⟨rb, 0, none⟩) (q := 3) (.slice p2.ca s1.cells.length p2.cc) rfl (fun w hw => hw.1) rfl ?_
      refine wX ?_
      refine Nd.mk ⟨Zcz 1, rfl, rfl⟩ ?_
      (conv => whnf)
      refine AppN.grow 3 (iC s1.cells) [.int .i64 (p2.m.length : Int)] rfl rfl ⟨Zcz 1, ⟨by show (s1.cells.length + 1) * 8 <= _; omega, by omega⟩, by decide⟩ fun cb cc' g1 g2 => ?_
      refine wX ?_
      have e1 : iC s1.cells ++ [.int .i64 (p2.m.length : Int)] = iC (s1.cells ++ [(p2.m.length : Int)]) := by simp [iC]
      have e2 : s1.cells.length + 1 = (s1.cells ++ [(p2.m.length : Int)]).length := by simp
      rw [e1, e2]
      refine EffW.appTo (i := 0) (q := 3) (ys := [_]) (ddC S (Qaz (addP s1 ⟨4, 0, [], [], []⟩) (p2.m.length : Int)) ({ p2 with m := p2.m ++ [plP ⟨4, 0, [], [], []⟩], ga := some ⟨i.1, 0, none⟩, gc := i.2, ca := some ⟨cb, 0, none⟩, cc := cc' } : RdP)) 6 rfl rfl rfl rfl rfl rfl rfl (Zaz rfl) rfl rfl ?_
      have ok3 : OkD (Qaz (addP s1 ⟨4, 0, [], [], []⟩) (p2.m.length : Int)) ({ p2 with m := p2.m ++ [plP ⟨4, 0, [], [], []⟩], ga := some ⟨i.1, 0, none⟩, gc := i.2, ca := some ⟨cb, 0, none⟩, cc := cc' } : RdP) := ⟨ok2.g, ok2.ga, (fun h => by cases h), ok2.sa, ok2.sw, ok2.gx⟩
      have h03 : ((Qaz (addP s1 ⟨4, 0, [], [], []⟩) (p2.m.length : Int))).e = 0 := he
      have hl3 : Left S (Qaz (addP s1 ⟨4, 0, [], [], []⟩) (p2.m.length : Int)) := hl1
      have htk := (Ref.text maxN).tel h03
      have htx := Qxv rb S (by omega) (Qaz (addP s1 ⟨4, 0, [], [], []⟩) (p2.m.length : Int)) ({ p2 with m := p2.m ++ [plP ⟨4, 0, [], [], []⟩], ga := some ⟨i.1, 0, none⟩, gc := i.2, ca := some ⟨cb, 0, none⟩, cc := cc' } : RdP) nm hl3 maxN
      have htl := Qhx maxN (Qaz (addP s1 ⟨4, 0, [], [], []⟩) (p2.m.length : Int))
      have ok4 := ok3.same (Qey maxN (Qaz (addP s1 ⟨4, 0, [], [], []⟩) (p2.m.length : Int)))
      have hl4 := hl3.text maxN
      have le4 := hlo.trans (Qkh maxN (Qaz (addP s1 ⟨4, 0, [], [], []⟩) (p2.m.length : Int)))
      have hls4 := (Qkh maxN (Qaz (addP s1 ⟨4, 0, [], [], []⟩) (p2.m.length : Int))).s
      generalize Qa7 maxN (Qaz (addP s1 ⟨4, 0, [], [], []⟩) (p2.m.length : Int)) = q at htk htx htl ok4 hl4 le4 hls4
      obtain ⟨t, s4⟩ := q
      simp only at htk htx htl ok4 hl4 le4 hls4
      have hls4 : s4.s.length <= s1.s.length := hls4
      have htl : t.length <= s1.s.length := htl
      refine wX ?_
      refine DrawN.planC (fun w => w.cell? ((⟨rb, 0, none⟩ : Addr).add 2) = some (.slice (some ⟨i.1, 0, none⟩) (p2.m ++ [plP ⟨4, 0, [], [], []⟩]).length i.2)) [0, 4, 5] [(1, 1), (2, 2), (3, 1), (6, 0)] [(7, 0), (8, 0), (9, 0)] (by decide +kernel) (fun w hw => hw.1.cell rfl) ?_
      refine wXO ?_
      refine ReadC.load _ rfl rfl (fun w hw => Qe7 rfl hw) ?_
      refine wXO ?_
      refine Qai (htx) [0, 1, 2, 3, 4] rfl ⟨rfl, rfl, rfl, rfl, rfl, trivial⟩ rfl fun _ _ => ?_
      refine wXO ?_
      have hml4 : (p2.m ++ [plP ⟨4, 0, [], [], []⟩]).length = p2.m.length + 1 := by simp
      refine Nd.mk ⟨rfl, by omega, by omega⟩ ?_
      (conv => whnf)
      have hgk : (p2.m ++ [plP ⟨4, 0, [], [], []⟩])[p2.m.length]? = some (plP ⟨4, 0, [], [], []⟩) := Qfy _ _ _
      have hset : (p2.m ++ [plP ⟨4, 0, [], [], []⟩]).set p2.m.length (plP ⟨4, 0, t, [], []⟩) = p2.m ++ [plP ⟨4, 0, t, [], []⟩] := Qm9 _ _ _ _
      have hq2 : p2.m.length * 5 + 2 < (grC (p2.m ++ [plP ⟨4, 0, [], [], []⟩])).length := by rw [Qgr]; omega
      refine EffW.appTo (i := 1) (q := p2.m.length * 5 + 2) (ys := [.string (bs t)]) (grC (p2.m ++ [plP ⟨4, 0, t, [], []⟩])) 5 rfl (by rw [Zdz]; show AV.c (CV.v (Value.pointer (some (((⟨i.1, 0, none⟩ : Addr).add (p2.m.length * 5)).add 2)))) = _; rw [Qck, add_lit]) rfl rfl rfl rfl rfl (by show p2.m.length * 5 + 2 + 1 <= (p2.m ++ [plP ⟨4, 0, [], [], []⟩]).length * 5; omega) ((Qfw _ hq2).trans ((Qk9 (by omega) hgk rfl).trans (by rw [hset]))) rfl ?_
      refine wX ?_
      have hml5 : (p2.m ++ [plP ⟨4, 0, t, [], []⟩]).length = (p2.m ++ [plP ⟨4, 0, [], [], []⟩]).length := by simp
      have hrc : ddC S (putG p2.m.length ⟨4, 0, t, [], []⟩ s4) { ({ p2 with m := p2.m ++ [plP ⟨4, 0, [], [], []⟩], ga := some ⟨i.1, 0, none⟩, gc := i.2, ca := some ⟨cb, 0, none⟩, cc := cc' } : RdP) with m := p2.m ++ [plP ⟨4, 0, t, [], []⟩] } = ddC S s4 ({ p2 with m := p2.m ++ [plP ⟨4, 0, [], [], []⟩], ga := some ⟨i.1, 0, none⟩, gc := i.2, ca := some ⟨cb, 0, none⟩, cc := cc' } : RdP) := by simp [ddC, putG]
      have hgd : s4.g.getD p2.m.length nilC = ⟨4, 0, [], [], []⟩ := Qk4 ok4.g (q := plP ⟨4, 0, [], [], []⟩) hgk
      refine ⟨dE rb S (putG p2.m.length ⟨4, 0, t, [], []⟩ s4) { ({ p2 with m := p2.m ++ [plP ⟨4, 0, [], [], []⟩], ga := some ⟨i.1, 0, none⟩, gc := i.2, ca := some ⟨cb, 0, none⟩, cc := cc' } : RdP) with m := p2.m ++ [plP ⟨4, 0, t, [], []⟩] } (nm ++ [plP ⟨4, 0, t, [], []⟩]), Zaz rfl, Qeg (Zaz rfl) (by rw [hrc]; rfl) (by rw [hml5]; rfl) rfl rfl (fun w hw => fun q hq => (Zmz.1 hq).elim (hw.1 q) (fun h => by rw [Zgz.1 h]; exact Qdp rfl rfl w)), ⟨_, rfl⟩, ⟨⟨_, putG p2.m.length ⟨4, 0, t, [], []⟩ s4, { ({ p2 with m := p2.m ++ [plP ⟨4, 0, [], [], []⟩], ga := some ⟨i.1, 0, none⟩, gc := i.2, ca := some ⟨cb, 0, none⟩, cc := cc' } : RdP) with m := p2.m ++ [plP ⟨4, 0, t, [], []⟩] }, [plP ⟨4, 0, t, [], []⟩]⟩, ⟨?_, ?_, ?_, ?_, ?_, ?_, ?_⟩, rfl, rfl⟩⟩
      · have h9 := ok4.put p2.m.length (plP ⟨4, 0, t, [], []⟩) (by show p2.m.length < (p2.m ++ [plP ⟨4, 0, [], [], []⟩]).length; omega)
        rw [show (({ p2 with m := p2.m ++ [plP ⟨4, 0, [], [], []⟩], ga := some ⟨i.1, 0, none⟩, gc := i.2, ca := some ⟨cb, 0, none⟩, cc := cc' } : RdP)).m.set p2.m.length (plP ⟨4, 0, t, [], []⟩) = p2.m ++ [plP ⟨4, 0, t, [], []⟩] from hset] at h9
        exact h9
      · rfl
      · intro q hq
        rw [Zgz.1 hq]
        exact Qcn rfl rfl (by show t.length <= _; omega)
      · exact hl4
      · exact le4.trans (Qrs _ _ _)
      · exact fun _ => by show s4.s.length < _; omega
      · show Tel _ (p2.m.length : Int) _
        rw [hml]
        refine Qcu htel he h64 h5 hx ?_
        have h9 : Qgm 4 (toS s1) = toS (Qaz (addP s1 ⟨4, 0, [], [], []⟩) (p2.m.length : Int)) := by rw [hml]; rfl
        show Tel (Marshal.bnd (Qe4 maxN (Qgm 4 (toS s1))) fun t st' => .ok ((), setT s1.g.length t st')) () _
        rw [h9]
        refine htk.bnd (fun h => ?_) (fun _ => rfl)
        rw [hml] at hgd
        have h8 : setT s1.g.length t (toS s4) = toS (putG s1.g.length ⟨4, 0, t, [], []⟩ s4) := by
          unfold setT toS putG
          simp only [hgd]
        show Tel (.ok ((), setT s1.g.length t (toS s4))) () (putG s1.g.length ⟨4, 0, t, [], []⟩ s4)
        rw [h8]
        exact Tel.ok h
    · have hls2 : (symD 58 s1).2.s.length <= s1.s.length := (Qqc 58 s1).s
      have htk := (Ref.symD 58).tel he
      have hsym := Qjt rb S (by omega) 58 s1 p2 nm hl1 ok1.sa (by omega)
      have oks := fun i hi => ok1.sym (by omega) 58 (i := i) hi
      have hl2 := Qh0 hl1 58
      have hlen := (Qhz 58 s1 (by omega) ok1.sw).1
      have hkp := Qfe 58 s1
      have le2 := les
      generalize symD 58 s1 = q at htk hsym oks hl2 hlen hkp le2 hls2
      obtain ⟨t, s2⟩ := q
      simp only at htk hsym oks hl2 hlen hkp le2 hls2
      have hg2 : s2.g.length = s1.g.length := by rw [hkp.1]
      have hs2 : s2.s.length < st.s.length := Nat.lt_of_le_of_lt hls2 hs1
      refine wX ?_
      refine LdN.one (a := some ⟨rb, 0, none⟩) (q := 2) (.slice p2.ga p2.m.length p2.gc) rfl (fun w hw => hw.1) rfl ?_
      refine wX ?_
      rw [show decide ((p2.m.length : Int) ≥ 500) = false by simp; omega]
      refine wX ?_
      refine Qai hsym [0, 1, 2, 3, 4] rfl ⟨rfl, rfl, rfl, rfl, rfl, trivial⟩ rfl fun j hj => ?_
      have ok2 := oks j hj
      obtain ⟨p3, hp3⟩ : ∃ p3 : RdP, p3 = { p2 with sa := j.1, sc := j.2 } := ⟨_, rfl⟩
      have hm3 : p3.m.length = s1.g.length := by rw [hp3]; exact hml
      rw [<- hp3] at ok2 ⊢
      refine wX ?_
      refine Qai (Qlt rb S s2 p3 nm ⟨5, 0, t, [], []⟩ ⟨rfl, rfl⟩ (by omega)) [0, 1, 2, 3, 4] rfl ⟨rfl, rfl, rfl, rfl, rfl, trivial⟩ rfl fun i _ => ?_
      refine wX ?_
      refine ⟨dE rb S (addP s2 ⟨5, 0, t, [], []⟩) ({ p3 with m := p3.m ++ [plP ⟨5, 0, t, [], []⟩], ga := some ⟨i.1, 0, none⟩, gc := i.2 }) (nm ++ [plP ⟨5, 0, t, [], []⟩]), Zaz rfl, Qeg (Zaz rfl) rfl rfl rfl rfl (fun w hw => fun q hq => (Zmz.1 hq).elim (hw.1 q) (fun h => by rw [Zgz.1 h]; exact Qdp rfl rfl w)), ⟨_, rfl⟩, ⟨⟨_, addP s2 ⟨5, 0, t, [], []⟩, { p3 with m := p3.m ++ [plP ⟨5, 0, t, [], []⟩], ga := some ⟨i.1, 0, none⟩, gc := i.2 }, [plP ⟨5, 0, t, [], []⟩]⟩, ⟨?_, ?_, ?_, ?_, ?_, ?_, ?_⟩, rfl, rfl⟩⟩
      · exact ok2.add ⟨5, 0, t, [], []⟩ _ _
      · exact by first | rfl | (show _ = _; rw [hp3])
      · intro q hq
        rw [Zgz.1 hq]
        exact Qcn rfl rfl (hlen)
      · exact hl2
      · exact Qls le2 (by omega) _
      · exact fun _ => by show s2.s.length < _; omega
      · show Tel _ (p3.m.length : Int) _
        rw [hm3]
        exact Qcu htel he h64 h5 hx (htk.bnd (fun h => Tel.addS h _) (fun _ => rfl))
    · have hls2 : (symD 59 s1).2.s.length <= s1.s.length := (Qqc 59 s1).s
      have htk := (Ref.symD 59).tel he
      have hsym := Qjt rb S (by omega) 59 s1 p2 nm hl1 ok1.sa (by omega)
      have oks := fun i hi => ok1.sym (by omega) 59 (i := i) hi
      have hl2 := Qh0 hl1 59
      have hlen := (Qhz 59 s1 (by omega) ok1.sw).1
      have hkp := Qfe 59 s1
      have le2 := les
      generalize symD 59 s1 = q at htk hsym oks hl2 hlen hkp le2 hls2
      obtain ⟨t, s2⟩ := q
      simp only at htk hsym oks hl2 hlen hkp le2 hls2
      have hg2 : s2.g.length = s1.g.length := by rw [hkp.1]
      have hs2 : s2.s.length < st.s.length := Nat.lt_of_le_of_lt hls2 hs1
      refine wX ?_
      refine LdN.one (a := some ⟨rb, 0, none⟩) (q := 2) (.slice p2.ga p2.m.length p2.gc) rfl (fun w hw => hw.1) rfl ?_
      refine wX ?_
      rw [show decide ((p2.m.length : Int) ≥ 500) = false by simp; omega]
      refine wX ?_
      refine Qai hsym [0, 1, 2, 3, 4] rfl ⟨rfl, rfl, rfl, rfl, rfl, trivial⟩ rfl fun j hj => ?_
      have ok2 := oks j hj
      obtain ⟨p3, hp3⟩ : ∃ p3 : RdP, p3 = { p2 with sa := j.1, sc := j.2 } := ⟨_, rfl⟩
      have hm3 : p3.m.length = s1.g.length := by rw [hp3]; exact hml
      rw [<- hp3] at ok2 ⊢
      refine wX ?_
      refine Qai (Qlt rb S s2 p3 nm ⟨5, 0, t, [], []⟩ ⟨rfl, rfl⟩ (by omega)) [0, 1, 2, 3, 4] rfl ⟨rfl, rfl, rfl, rfl, rfl, trivial⟩ rfl fun i _ => ?_
      refine wX ?_
      refine ⟨dE rb S (addP s2 ⟨5, 0, t, [], []⟩) ({ p3 with m := p3.m ++ [plP ⟨5, 0, t, [], []⟩], ga := some ⟨i.1, 0, none⟩, gc := i.2 }) (nm ++ [plP ⟨5, 0, t, [], []⟩]), Zaz rfl, Qeg (Zaz rfl) rfl rfl rfl rfl (fun w hw => fun q hq => (Zmz.1 hq).elim (hw.1 q) (fun h => by rw [Zgz.1 h]; exact Qdp rfl rfl w)), ⟨_, rfl⟩, ⟨⟨_, addP s2 ⟨5, 0, t, [], []⟩, { p3 with m := p3.m ++ [plP ⟨5, 0, t, [], []⟩], ga := some ⟨i.1, 0, none⟩, gc := i.2 }, [plP ⟨5, 0, t, [], []⟩]⟩, ⟨?_, ?_, ?_, ?_, ?_, ?_, ?_⟩, rfl, rfl⟩⟩
      · exact ok2.add ⟨5, 0, t, [], []⟩ _ _
      · exact by first | rfl | (show _ = _; rw [hp3])
      · intro q hq
        rw [Zgz.1 hq]
        exact Qcn rfl rfl (hlen)
      · exact hl2
      · exact Qls le2 (by omega) _
      · exact fun _ => by show s2.s.length < _; omega
      · show Tel _ (p3.m.length : Int) _
        rw [hm3]
        exact Qcu htel he h64 h5 hx (htk.bnd (fun h => Tel.addS h _) (fun _ => rfl))
    · -- a list of kind 6, so many items for each of its number; rw [Nat.mul_one]: so many are read
      refine wX ?_
      refine LdN.one (a := some ⟨rb, 0, none⟩) (q := 2) (.slice p2.ga p2.m.length p2.gc) rfl (fun w hw => hw.1) rfl ?_
      refine wX ?_
      rw [show decide ((p2.m.length : Int) ≥ 500) = false by simp; omega]
      refine wX ?_
      refine Qai (Qlt rb S s1 p2 nm ⟨6, 0, [], [], []⟩ ⟨rfl, rfl⟩ (by omega)) [0, 1, 2, 3, 4] rfl ⟨rfl, rfl, rfl, rfl, rfl, trivial⟩ rfl fun i _ => ?_
      have ok3 := ok1.add ⟨6, 0, [], [], []⟩ i.1 i.2
      have hbo := Qjz b1 (by omega) ⟨6, 0, [], [], []⟩ (p2.m.length : Int)
      have hit := Qvd n hc rb S hS (addP s1 ⟨6, 0, [], [], []⟩) { p2 with m := p2.m ++ [plP ⟨6, 0, [], [], []⟩], ga := some ⟨i.1, 0, none⟩, gc := i.2 } p2.m 6 1 (by omega) (by omega) ok3 rfl hbo hl1 he (by show s1.s.length < n; omega) nm
      refine wX ?_
      refine Qai hit [0, 1, 2, 3, 4, 6] rfl ⟨rfl, rfl, rfl, rfl, rfl, rfl, trivial⟩ rfl fun it hit2 => ?_
      obtain ⟨hi, htl⟩ := hit2
      refine wX ?_
      have hls2 : it.st.s.length <= s1.s.length := hi.le.s
      have hlo := Qjy le1 (by omega) ⟨6, 0, [], [], []⟩ (p2.m.length : Int)
      refine ⟨dE rb S (it.st) (it.p) (nm ++ itP 6 it.l it.a it.cap :: it.nm), Zaz rfl, Qeg (Zaz rfl) rfl rfl rfl rfl (fun w hw => fun q hq => (Zmz.1 hq).elim (fun h => hw.1 q (List.mem_append_left _ h)) (fun h => (List.mem_cons.1 h).elim (fun h => by rw [h]; exact ⟨Qet w, hw.2.2.1⟩) (fun h => hw.1 q (List.mem_append_right _ h)))), ⟨_, rfl⟩, ⟨⟨_, it.st, it.p, itP 6 it.l it.a it.cap :: it.nm⟩, ⟨?_, ?_, ?_, ?_, ?_, ?_, ?_⟩, rfl, rfl⟩⟩
      · exact hi.ok
      · exact hi.m
      · intro q hq
        rcases List.mem_cons.1 hq with h | h
        · rw [h]
          have h8 := hi.ll
          exact ⟨fun _ => rfl, hi.la, Zkz _, by show it.l.length <= _; omega, (fun s hs => by cases hs), Zkz _, Zcz _, hi.lc⟩
        · exact hi.cell q h
      · exact hi.left
      · exact hlo.trans hi.le
      · exact fun _ => by show it.st.s.length < _; omega
      · show Tel _ (p2.m.length : Int) _
        rw [hml]
        refine Qcu htel he h64 h5 hx ?_
        have h9 : (Marshal.bnd (numS maxN (Qgm 6 (toS s1))) fun n' st' => Qdv (Qc8 n) s1.g.length (n') st') = Marshal.bnd (numS maxN (toS (Qaz (addP s1 ⟨6, 0, [], [], []⟩) (p2.m.length : Int)))) fun m s => Qdv (Qc8 n) p2.m.length (m * 1) s := by
          rw [hml]
          congr 1
          funext m s
          rw [Nat.mul_one]
        show Tel (Marshal.bnd (numS maxN (Qgm 6 (toS s1))) fun n' st' => Qdv (Qc8 n) s1.g.length (n') st') () it.st
        rw [h9]
        exact htl
    · -- a list of kind 7, so many items for each of its number; rw [Nat.mul_comm]: so many are read
      refine wX ?_
      refine LdN.one (a := some ⟨rb, 0, none⟩) (q := 2) (.slice p2.ga p2.m.length p2.gc) rfl (fun w hw => hw.1) rfl ?_
      refine wX ?_
      rw [show decide ((p2.m.length : Int) ≥ 500) = false by simp; omega]
      refine wX ?_
      refine Qai (Qlt rb S s1 p2 nm ⟨7, 0, [], [], []⟩ ⟨rfl, rfl⟩ (by omega)) [0, 1, 2, 3, 4] rfl ⟨rfl, rfl, rfl, rfl, rfl, trivial⟩ rfl fun i _ => ?_
      have ok3 := ok1.add ⟨7, 0, [], [], []⟩ i.1 i.2
      have hbo := Qjz b1 (by omega) ⟨7, 0, [], [], []⟩ (p2.m.length : Int)
      have hit := Qvd n hc rb S hS (addP s1 ⟨7, 0, [], [], []⟩) { p2 with m := p2.m ++ [plP ⟨7, 0, [], [], []⟩], ga := some ⟨i.1, 0, none⟩, gc := i.2 } p2.m 7 2 (by omega) (by omega) ok3 rfl hbo hl1 he (by show s1.s.length < n; omega) nm
      refine wX ?_
      refine Qai hit [0, 1, 2, 3, 4, 6] rfl ⟨rfl, rfl, rfl, rfl, rfl, rfl, trivial⟩ rfl fun it hit2 => ?_
      obtain ⟨hi, htl⟩ := hit2
      refine wX ?_
      have hls2 : it.st.s.length <= s1.s.length := hi.le.s
      have hlo := Qjy le1 (by omega) ⟨7, 0, [], [], []⟩ (p2.m.length : Int)
      refine ⟨dE rb S (it.st) (it.p) (nm ++ itP 7 it.l it.a it.cap :: it.nm), Zaz rfl, Qeg (Zaz rfl) rfl rfl rfl rfl (fun w hw => fun q hq => (Zmz.1 hq).elim (fun h => hw.1 q (List.mem_append_left _ h)) (fun h => (List.mem_cons.1 h).elim (fun h => by rw [h]; exact ⟨Qet w, hw.2.2.1⟩) (fun h => hw.1 q (List.mem_append_right _ h)))), ⟨_, rfl⟩, ⟨⟨_, it.st, it.p, itP 7 it.l it.a it.cap :: it.nm⟩, ⟨?_, ?_, ?_, ?_, ?_, ?_, ?_⟩, rfl, rfl⟩⟩
      · exact hi.ok
      · exact hi.m
      · intro q hq
        rcases List.mem_cons.1 hq with h | h
        · rw [h]
          have h8 := hi.ll
          exact ⟨fun _ => rfl, hi.la, Zkz _, by show it.l.length <= _; omega, (fun s hs => by cases hs), Zkz _, Zcz _, hi.lc⟩
        · exact hi.cell q h
      · exact hi.left
      · exact hlo.trans hi.le
      · exact fun _ => by show it.st.s.length < _; omega
      · show Tel _ (p2.m.length : Int) _
        rw [hml]
        refine Qcu htel he h64 h5 hx ?_
        have h9 : (Marshal.bnd (numS maxN (Qgm 7 (toS s1))) fun n' st' => Qdv (Qc8 n) s1.g.length (2 * n') st') = Marshal.bnd (numS maxN (toS (Qaz (addP s1 ⟨7, 0, [], [], []⟩) (p2.m.length : Int)))) fun m s => Qdv (Qc8 n) p2.m.length (m * 2) s := by
          rw [hml]
          congr 1
          funext m s
          rw [Nat.mul_comm]
        show Tel (Marshal.bnd (numS maxN (Qgm 7 (toS s1))) fun n' st' => Qdv (Qc8 n) s1.g.length (2 * n') st') () it.st
        rw [h9]
        exact htl
    · -- there is room for a cell
      refine wX ?_
      refine LdN.one (a := some ⟨rb, 0, none⟩) (q := 2) (.slice p2.ga p2.m.length p2.gc) rfl (fun w hw => hw.1) rfl ?_
      refine wX ?_
      rw [show decide ((p2.m.length : Int) ≥ 500) = false by simp; omega]
      refine wX ?_
      refine Qai (Qlt rb S s1 p2 nm ⟨8, 0, [], [], []⟩ ⟨rfl, rfl⟩ (by omega)) [0, 1, 2, 3, 4] rfl ⟨rfl, rfl, rfl, rfl, rfl, trivial⟩ rfl fun i _ => ?_
      have ok3 := ok1.add ⟨8, 0, [], [], []⟩ i.1 i.2
      have hbo := Qjz b1 (by omega) ⟨8, 0, [], [], []⟩ (p2.m.length : Int)
      have hob := Qwv n hc rb S hS (addP s1 ⟨8, 0, [], [], []⟩) { p2 with m := p2.m ++ [plP ⟨8, 0, [], [], []⟩], ga := some ⟨i.1, 0, none⟩, gc := i.2 } p2.m ok3 rfl hbo hl1 he (by show s1.s.length < n; omega) nm
      refine wX ?_
      refine Qai hob [0, 1, 2, 3, 4, 5, 6] rfl ⟨rfl, rfl, rfl, rfl, rfl, rfl, rfl, trivial⟩ rfl fun ob hob2 => ?_
      obtain ⟨hi, htl⟩ := hob2
      refine wX ?_
      have hls2 : ob.st.s.length <= s1.s.length := hi.le.s
      have hlo := Qjy le1 (by omega) ⟨8, 0, [], [], []⟩ (p2.m.length : Int)
      refine ⟨dE rb S (ob.st) (ob.p) (nm ++ ob.c :: ob.nm), Zaz rfl, Qeg (Zaz rfl) rfl rfl rfl rfl (fun w hw => fun q hq => (Zmz.1 hq).elim (fun h => hw.1 q (List.mem_append_left _ h)) (fun h => (List.mem_cons.1 h).elim (fun h => by rw [h]; exact ⟨hw.2.1, hw.2.2.1⟩) (fun h => hw.1 q (List.mem_append_right _ h)))), ⟨_, rfl⟩, ⟨⟨_, ob.st, ob.p, ob.c :: ob.nm⟩, ⟨?_, ?_, ?_, ?_, ?_, ?_, ?_⟩, rfl, rfl⟩⟩
      · exact hi.ok
      · exact hi.m
      · intro q hq
        rcases List.mem_cons.1 hq with h | h
        · rw [h]
          have h8 := hi.ll
          have h9 := hi.nl
          have h7 := hi.tl
          exact ⟨hi.na, hi.ia, by show ob.ns.length <= _; omega, by show ob.l.length <= _; omega, fun s hs => Zwz (hi.nw s hs) (by omega), by show ob.t.length <= _; omega, hi.nb, hi.ib⟩
        · exact hi.cell q h
      · exact hi.left
      · exact hlo.trans hi.le
      · exact fun _ => by show ob.st.s.length < _; omega
      · show Tel _ (p2.m.length : Int) _
        rw [hml]
        refine Qcu htel he h64 h5 hx ?_
        have h9 : objD (Qc8 n) s1.g.length (Qgm 8 (toS s1)) = objD (Qc8 n) p2.m.length (toS (Qaz (addP s1 ⟨8, 0, [], [], []⟩) (p2.m.length : Int))) := by
          rw [hml]
          rfl
        show Tel (objD (Qc8 n) s1.g.length (Qgm 8 (toS s1))) () ob.st
        rw [h9]
        exact htl
  · have hne2 : ∀ c : UInt8, c ∈ Qbl -> ((x.toNat : Int) == (c.toNat : Int)) = false := fun c hcb => by
      rw [beq_eq_false_iff_ne]
      intro h5
      exact hx (by rw [UInt8.toNat_inj.1 (show x.toNat = c.toNat by omega)]; exact hcb)
    have hp2 : ∃ p2 : RdP, p2 = p := ⟨p, rfl⟩
    obtain ⟨p2, rfl⟩ := hp2
    refine wX ?_
    rw [show ((x.toNat : Int) != 64) = true by rw [bne, e64]; rfl]
    refine wX ?_
    refine LdN.one (a := some ⟨rb, 0, none⟩) (q := 2) (.slice p2.ga p2.m.length p2.gc) rfl (fun w hw => hw.1) rfl ?_
    refine wX ?_
    rw [show decide ((p2.m.length : Int) ≥ 500) = false by simp; omega]
    refine wX ?_
    rw [show ((x.toNat : Int) == 48) = false from hne2 48 (by decide)]
    refine wX ?_
    rw [show ((x.toNat : Int) == 84) = false from hne2 84 (by decide)]
    refine wX ?_
    rw [show ((x.toNat : Int) == 70) = false from hne2 70 (by decide)]
    refine wX ?_
    rw [show ((x.toNat : Int) == 105) = false from hne2 105 (by decide)]
    refine wX ?_
    rw [show ((x.toNat : Int) == 58) = false from hne2 58 (by decide)]
    refine wX ?_
    rw [show ((x.toNat : Int) == 59) = false from hne2 59 (by decide)]
    refine wX ?_
    rw [e64]
    refine wX ?_
    rw [show ((x.toNat : Int) == 34) = false from hne2 34 (by decide)]
    refine wX ?_
    rw [show ((x.toNat : Int) == 91) = false from hne2 91 (by decide)]
    refine wX ?_
    rw [show ((x.toNat : Int) == 123) = false from hne2 123 (by decide)]
    refine wX ?_
    rw [show ((x.toNat : Int) == 111) = false from hne2 111 (by decide)]
    refine wX ?_
    refine Qai (Qga rb S s1 p2 nm 4) [0, 1, 2, 3, 4] rfl ⟨rfl, rfl, rfl, rfl, rfl, trivial⟩ rfl fun _ _ => ?_
    refine wX ?_
    refine ⟨dE rb S (Qam s1 4) (p2) (nm ++ []), Zaz rfl, Qeg (Zaz rfl) rfl rfl rfl rfl (fun w hw => by rw [List.append_nil]; exact hw.1), ⟨_, rfl⟩, ⟨⟨_, Qam s1 4, p2, []⟩, ⟨?_, ?_, ?_, ?_, ?_, ?_, ?_⟩, rfl, rfl⟩⟩
    · exact ok1.same (Qbj s1 4)
    · exact (List.append_nil _).symm
    · intro q hq; cases hq
    · exact hl1.fail 4
    · exact le1.trans (Qcj s1 4)
    · exact fun h => by rw [Qcq he 4] at h; exact absurd h (by decide)
    · exact Qr8 htel he h64 (.inr hx)
theorem Qx9 : ∀ n : Nat, Qwd n
 | 0 => fun _ _ _ _ _ _ _ _ _ _ hn => absurd hn (Nat.not_lt_zero _)
 | n + 1 => Qvk n (Qx9 n)
end Go.Proofs.YtgogonnnojcioaaGreatDoor
namespace Go.Marshal
open Go.Core
def WdC (c : Cell) : Prop := c.names.length <= 30001 /\ c.items.length <= 30001
def Wd (st : PS) : Prop := ∀ c ∈ st.g, WdC c
theorem Qsv (most : Nat) (st : PS) : (numM most st).2.g = st.g := by
 unfold numM
 split
 ·rfl
 split <;> rfl
theorem Qha (st : PS) (e : Int) : (Qam st e).g = st.g := by unfold Qam; split <;> rfl
theorem Qk3 (st : PS) : (Qad st).2.g = st.g := by
 unfold Qad
 split
 ·rfl
 split <;> rfl
theorem Qxu (most : Nat) (st : PS) : (Qa7 most st).2.g = st.g := by
 have h := Qsv maxN st
 unfold Qa7
 split
 ·exact h
 split
 ·exact h
 split <;> exact h
theorem Qtz (x : UInt8) (st : PS) : (symM x st).2.g = st.g := by
 have h1 := Qxu 40 st
 have h2 := Qsv maxN st
 unfold symM
 split
 ·simp only
  split
  ·rw [Qha]; exact h1
  ·exact h1
 split
 ·split
  ·exact h2
  ·rw [Qha]; exact h2
 ·exact Qha _ _
theorem QAc (ns : List B) (st : PS) : (Qe5 ns st).2.g = st.g := by
 unfold Qe5
 simp only
 split
 ·rw [Qha, Qtz, Qk3]
 ·rw [Qtz, Qk3]
theorem Qze (st : PS) : (Qb6 st).2.g = st.g := by
 unfold Qb6
 simp only
 split
 ·rw [Qha, Qtz, Qk3]
 ·rw [Qtz, Qk3]
def WdF (f : PS -> Int × PS) : Prop := ∀ st, Bd st -> Wd st -> Wd (f st).2
theorem Qnp {f : PS -> Int × PS} (hf : Qp2 f) (hw : WdF f) : ∀ (n : Nat) (l : List Int) (st : PS), Bd st -> Wd st -> Wd (Qbh f n l st).2
 | 0, _, _, _, h => h
 | n + 1, l, st, b, h => by
  unfold Qbh
  split
  ·exact Qnp hf hw n _ _ (b.le (hf.le st)) (hw st b h)
  ·exact h
theorem Qse {f : PS -> Int × PS} (hf : Qp2 f) (hw : WdF f) : ∀ (n : Nat) (ns : List B) (l : List Int) (st : PS), Bd st -> Wd st -> Wd (Qbs f n ns l st).2
 | 0, _, _, _, _, h => h
 | n + 1, ns, l, st, b, h => by
  unfold Qbs
  split
  ·have b2 := b.le (Qqk ns st)
   have h2 : Wd (Qe5 ns st).2 := by unfold Wd; rw [QAc]; exact h
   exact Qse hf hw n _ _ _ (b2.le (hf.le _)) (hw _ b2 h2)
  ·exact h
theorem Qx5 (st : PS) : liv st <= 1 := by unfold liv; split <;> omega
theorem Qvc {f : PS -> Int × PS} (hf : Qp2 f) (n : Nat) (st : PS) (b : Bd st) : (Qbh f n [] st).1.length <= 30001 := by
 have h := (Qg1 hf n [] st).2
 have h1 := Qx5 st
 have h2 := b.pot
 have h3 : ([] : List Int).length = 0 := rfl
 omega
theorem Qwy {f : PS -> Int × PS} (hf : Qp2 f) (hw : WdF f) (x : UInt8) (st : PS) (b : Bd st) (h : Wd st) : WdC (Qbo f x st).1 /\ Wd (Qbo f x st).2 := by
 have z : ∀ {c : Cell}, c.names = [] -> c.items = [] -> WdC c := fun h1 h2 => ⟨by rw [h1]; exact Zkz _, by rw [h2]; exact Zkz _⟩
 have bn := b.le (Qc4 maxN st)
 have hn : Wd (numM maxN st).2 := by unfold Wd; rw [Qsv]; exact h
 unfold Qbo
 split
 ·exact ⟨z rfl rfl, h⟩
 split
 ·exact ⟨z rfl rfl, h⟩
 split
 ·exact ⟨z rfl rfl, by unfold Wd; rw [Qsv]; exact h⟩
 split
 ·exact ⟨z rfl rfl, by unfold Wd; rw [Qxu]; exact h⟩
 split
 ·exact ⟨z rfl rfl, by unfold Wd; rw [Qtz]; exact h⟩
 split
 ·exact ⟨⟨Zkz _, Qvc hf _ _ bn⟩, Qnp hf hw _ _ _ bn hn⟩
 split
 ·exact ⟨⟨Zkz _, Qvc hf _ _ bn⟩, Qnp hf hw _ _ _ bn hn⟩
 split
 ·have bc := b.le (Qj2 st)
  have b2 := bc.le (Qc4 maxN (Qb6 st).2)
  have h2 : Wd (numM maxN (Qb6 st).2).2 := by unfold Wd; rw [Qsv, Qze]; exact h
  obtain ⟨_, h4, h5⟩ := Qn0 hf (numM maxN (Qb6 st).2).1 [] [] (numM maxN (Qb6 st).2).2
  have h6 := Qx5 (numM maxN (Qb6 st).2).2
  have h7 := b2.pot
  have h8 : ([] : List Int).length = 0 := rfl
  have h9 : ([] : List B).length = 0 := rfl
  refine ⟨⟨?_, ?_⟩, Qse hf hw _ _ _ _ b2 h2⟩
  ·show (Qbs f (numM maxN (Qb6 st).2).1 [] [] (numM maxN (Qb6 st).2).2).1.1.length <= _
   omega
  ·show (Qbs f (numM maxN (Qb6 st).2).1 [] [] (numM maxN (Qb6 st).2).2).1.2.length <= _
   omega
 ·exact ⟨z rfl rfl, h⟩
theorem Qy1 {x : UInt8} {st : PS} (b : Bd st) (hg : ¬ 500 <= st.g.length) : Bd (Qcg x st) := by
 have b1 := b.cl
 refine ⟨?_, ?_, b.pot⟩
 ·show (st.g ++ [nilC]).length <= _
  simp
  omega
 ·show (if x ∈ Qi1 then st.cells ++ [(st.g.length : Int)] else st.cells).length <= (st.g ++ [nilC]).length
  split
  ·simp; omega
  ·simp; omega
theorem Qqz : ∀ n : Nat, WdF (Qav n)
 | 0 => fun st b h => by
  show ∀ c ∈ (Qam st 99).g, _
  rw [Qha]
  exact h
 | n + 1 => fun st b h => by
  have ih := Qqz n
  have b1 := b.le (Qdd st)
  have h1 : Wd (Qad st).2 := by unfold Wd; rw [Qk3]; exact h
  unfold Qav
  simp only
  split
  ·exact h1
  split
  ·unfold refM
   simp only
   have hn : Wd (numM maxN (Qad st).2).2 := by unfold Wd; rw [Qsv]; exact h1
   split
   ·exact hn
   split
   ·unfold Wd; rw [Qha]; exact hn
   ·exact hn
  split
  ·unfold Wd; rw [Qha]; exact h1
  ·rename_i h2 h3
   have hg : ¬ 500 <= (Qad st).2.g.length := fun h => h3 (.inl h)
   have bo := Qy1 (x := (Qad st).1) b1 hg
   have ho : Wd (Qcg (Qad st).1 (Qad st).2) := by
    intro c hc
    rcases Zmz.1 (show c ∈ (Qad st).2.g ++ [nilC] from hc) with hc | hc
    ·exact h1 c hc
    ·obtain rfl := Zgz.1 hc
     exact ⟨Zkz _, Zkz _⟩
   obtain ⟨w1, w2⟩ := Qwy (Qdo n) ih (Qad st).1 (Qcg (Qad st).1 (Qad st).2) bo ho
   intro c hc
   rcases List.mem_or_eq_of_mem_set (show c ∈ (Qbo (Qav n) (Qad st).1 (Qcg (Qad st).1 (Qad st).2)).2.g.set (Qad st).2.g.length (Qbo (Qav n) (Qad st).1 (Qcg (Qad st).1 (Qad st).2)).1 from hc) with hc | hc
   ·exact w2 c hc
   ·rw [hc]; exact w1
end Go.Marshal
namespace Go.AX
open Go.RowKit
theorem Qko {P : Program} (w : World) (t e : TypeId) (b : Nat) (arr : Array Value) (fr : Nat × Nat) (n c : Nat) (hb : w.heap[b]? = some (.cells arr e fr)) (ht : P.underlying t = some (.slice e)) (he : P.underlying e = some (.int .u8)) :
  (convert t t (.slice (some ⟨b, 0, none⟩) n c)).run P w = .ok (.slice (some ⟨b, 0, none⟩) n c) (w.freeze ⟨b, arr.size, none⟩ 1) := by
 have hsh : w.shape? b = some (e, arr.size) := by
  unfold World.shape?
  rw [hb]
 simp [convert, run_underlying ht, run_underlying he, markStringish, hsh]
theorem EffW.constB {P : Program} {o : Oper} {s : List AV} {H : List Ent} {K : AV -> List Ent -> Prop} {t e : TypeId} {x : Operand} {b n c : Nat} {xs : List Value} (i : Nat) (ho : o.op = .convert t t x) (ht : P.underlying t = some (.slice e)) (he : P.underlying e = some (.int .u8))
  (hx : opv s x = .c (.v (.slice (some ⟨b, 0, none⟩) n c))) (hi : nthE H i = some (.app e 1 xs (some ⟨b, 0, none⟩) n c)) (hk : K (.c (.v (.slice (some ⟨b, 0, none⟩) n c))) H) : EffW P o s H K := by
 intro ρ S w ac hsat hr
 have hxr := Qah hr x
 rw [hx] at hxr
 have hxe : ac.eval x = .slice (some ⟨b, 0, none⟩) n c := hxr
 rw [Qbp] at hi
 have hilt : i < H.length := (Zfz.1 hi).1
 have hset : H.set i (.app e 1 xs (some ⟨b, 0, none⟩) n c) = H := by
  apply List.ext_getElem?
  intro j
  by_cases hj : i = j
  ·subst hj
   rw [List.getElem?_set_self hilt, hi]
  ·rw [Zyz hj]
 rcases hsat.ent i _ hi with ⟨h0, _⟩ | ⟨b', hb', hrow⟩
 ·cases h0
 ·obtain rfl : b = b' := by
   injection hb' with h1
   injection h1
  obtain ⟨arr, fr, ⟨hb, hfr⟩, h1, h2, h3, h4, h5⟩ := hrow
  have hrun := Qko w t e b arr fr n c hb ht he
  have hbl : b < w.heap.size := (Zjz.1 hb).1
  have hb2 : (w.freeze ⟨b, arr.size, none⟩ 1).heap[b]? = some (.cells arr e (if fr.1 == fr.2 then (arr.size, arr.size + 1) else (min fr.1 arr.size, max fr.2 (arr.size + 1)))) := by
   simp [World.freeze, Array.getElem?_modify, hb]
  have hS := hsat.setG (e' := .app e 1 xs (some ⟨b, 0, none⟩) n c) (c := b) (w' := w.freeze ⟨b, arr.size, none⟩ 1) hi rfl (by simp [World.freeze]) (fun k _ hne => by simp [World.freeze, Array.getElem?_modify, Ne.symm hne]) rfl rfl rfl (fun c hc => .inl (Zzz hc).symm)
   (.inr ⟨b, rfl, arr, _, ⟨hb2, by
    split
    ·exact .inr (Zcz _)
    ·rename_i hne
     rcases hfr with h | h
     ·simp [h] at hne
     ·exact .inr (by show arr.size <= min fr.1 arr.size; omega)⟩, h1, h2, h3, h4, h5⟩)
  rw [hset] at hS
  refine ⟨_, _, hk, _, _, _, _, ?_, .inl rfl, hS.1, hS.2, rfl⟩
  unfold execOp
  simp only [ho, hxe, Sem.run_bind, hrun, ZCz, Sem.run_pure]
end Go.AX
namespace Go.Proofs.YtgogonnnojcioaaGreatDoor
open Go.AX Go.RowKit Go.Core Go.Marshal
set_option maxRecDepth 20000
theorem QA0 (a : Option Addr) (ca : Nat) (l : List Qaj) (ha : a = none -> l = []) (hs : l.length <= 2000 /\ ∀ p ∈ l, p.c.names.length <= 40000 /\ p.c.items.length <= 40000) (hok : ∀ p ∈ l, Qa5 p) (b : Bool) (hb : b = true ↔ Qbe (l.map (·.c))) :
  ∀ H, (∀ w, Qax H w -> GrF a l w) -> SpecH Tryz.prog 65 (pvs [.slice a l.length ca]) H (Ret (errI b) H) := by
 intro H hH
 obtain ⟨b2, hb2, h⟩ := Qwh a ca l ha hs hok H hH
 have e : b2 = b := by rw [Zsz, hb, hb2]
 rw [<- e]
 exact h
def P0 : RdP := ⟨[], none, 0, none, 0, none, 0⟩
def RdR (st : PS) (v : Value) (G : World -> Prop) : Prop := ∃ (rb : Nat) (p : RdP), v = .tuple #[.pointer (some ⟨rb, 0, none⟩), .int .i64 st.e] /\ RdOk st p /\ ∀ w, G w -> SlAt (some ⟨rb, 0, none⟩) 5 (rdC st p) w /\ SlAt p.ga (p.m.length * 5) (grC p.m) w /\ (∀ q ∈ p.m, Qbn q w) /\ SlAt p.sa (st.ss.length * 1) (strC st.ss) w
set_option maxHeartbeats 4000000 in
theorem Qz4 (s : List UInt8) (hs : s.length <= 20000) : SpecF Tryz.prog 41 [.string (bs s)] (fun w => ∀ q ∈ ([] : List Qaj), Qbn q w) (RdR (Qhl s)) := by
 refine Qfs ?_
 refine SpecH.pad [.app 57 5 [] none 0 0, .app 3 1 [] none 0 0, .app 9 1 [] none 0 0] rfl ?_
 refine Qas hm Tryz.func41 (by kernel_rfl) rfl rfl ?_
 have hsz := Qal s
 refine wXB ?_
 refine Qab (fun h => absurd h (by rw [hsz]; omega)) (fun _ => ?_)
 refine wXB ?_
 refine BoxN.known [.string (bs s), .slice none 0 0, .slice none 0 0, .slice none 0 0, .int .i64 0] rfl fun rb => ?_
 refine wXK ?_
 refine RwN.known [.int .u8 67, .int .u8 77, .int .u8 1] rfl fun hb => ?_
 refine wXK ?_
 refine EffW.constB 5 rfl Tryz.underlying29 Tryz.underlying5 rfl rfl ?_
 obtain ⟨S0, hS0⟩ : ∃ S0, Qej headB ⟨s, [], [], [], 0⟩ = S0 := ⟨_, rfl⟩
 have ok0 : RdOk ⟨s, [], [], [], 0⟩ P0 := ⟨rfl, (fun q hq => by cases hq), fun _ => rfl, fun _ => rfl, fun _ => rfl, (fun t ht => by cases ht), .inl rfl⟩
 have bd0 : Bd ⟨s, [], [], [], 0⟩ := ⟨Zkz _, Zcz _, by show 0 + s.length <= _; omega⟩
 refine wXK ?_
 refine LoopN.intro (Nat × PS) (fun ⟨i, st⟩ => i <= 3 /\ Qej (headB.drop i) st = S0 /\ RdOk st P0 /\ Le 0 ⟨s, [], [], [], 0⟩ st)
  (fun ⟨i, _⟩ => mkS Tryz.f41.ntmps 0 [(4, .c (.v (.pointer (some ⟨rb, 0, none⟩)))), (14, .c (.v (.slice (some ⟨hb, 0, none⟩) 3 3))), (15, .c (.v (.int .i64 3))), (16, .c (.v (.int .i64 (i : Int))))])
  (fun ⟨_, st⟩ => [.fact fun w => ∀ q ∈ ([] : List Qaj), Qbn q w, .app 57 5 [] none 0 0, .app 3 1 (iC st.cells) none st.cells.length 0, .app 9 1 (strC st.ss) none st.ss.length 0, .app 84 5 (rdC st P0) (some ⟨rb, 0, none⟩) 1 1, .app 5 1 [.int .u8 67, .int .u8 77, .int .u8 1] (some ⟨hb, 0, none⟩) 3 3]) (fun ⟨i, _⟩ => 3 - i) [] rfl
  (fun _ => rfl) (fun _ => rfl) (fun _ _ => Qan rfl) ⟨(0, ⟨s, [], [], [], 0⟩), ⟨by omega, hS0, ok0, Le.refl _⟩, ?_, ?_⟩ ?_
 ·exact wKK
 ·exact ⟨Qaa _, Qaa _, Qaa _, Qaa _, Qaa _, Qaa _, Qbu _⟩
 rintro ⟨i, st⟩ ⟨h1, h2, h3, h4⟩
 refine wXK ?_
 refine Qab (fun hi => ?_) (fun hi => ?_)
 ·obtain ⟨c, hc⟩ : ∃ c, headB[i]? = some c := ⟨_, Zbz (by show i < 3; omega)⟩
  have hd : headB.drop i = c :: headB.drop (i + 1) := by
   obtain ⟨h5, h6⟩ := Zfz.1 hc
   rw [<- h6, List.getElem_cons_drop]
  rw [hd] at h2
  have h2 : Qej (headB.drop (i + 1)) (if (Qad st).1 ≠ c then Qam (Qad st).2 4 else (Qad st).2) = S0 := h2
  have hcv : ([.int .u8 67, .int .u8 77, .int .u8 1] : List Value)[i]? = some (.int .u8 (c.toNat : Int)) := by
   rcases i with _ | _ | _ | i
   ·cases hc; rfl
   ·cases hc; rfl
   ·cases hc; rfl
   ·cases hc
  have hnx := Qjh rb st P0
  have hln := h4.trans (Qdd st)
  have okn := h3.same (Qc6 st)
  generalize Qad st = r at h2 hnx hln okn ⊢
  obtain ⟨x, st2⟩ := r
  simp only at h2 hnx hln okn
  refine wXK ?_
  refine Nd.mk ⟨rfl, by omega, by omega⟩ ?_
  refine wXK ?_
  refine LdN.one (.int .u8 (c.toNat : Int)) rfl (fun w hw => hw.2.2.2.2.2.1) (by show ([.int .u8 67, .int .u8 77, .int .u8 1] : List Value)[Int.toNat _ * 1]? = _; rw [Zdz, Nat.mul_one]; exact hcv) ?_
  refine wXK ?_
  refine Qai (hnx) [4, 1, 0, 2, 3] rfl ⟨rfl, rfl, rfl, rfl, rfl, trivial⟩ rfl fun _ _ => ?_
  refine wXK ?_
  refine Qbb (fun h7 => ?_) (fun h7 => ?_)
  ·have hxc : x ≠ c := fun h => h7 (by rw [h])
   rw [if_pos hxc] at h2
   refine wXK ?_
   refine Qai (Qdn rb st2 P0 4) [4, 1, 0, 2, 3] rfl ⟨rfl, rfl, rfl, rfl, rfl, trivial⟩ rfl fun _ _ => ?_
   refine wXK ?_
   refine ⟨(i + 1, Qam st2 4), ⟨by omega, h2, okn.same (Qbj st2 4), hln.trans (Qcj st2 4)⟩, by show 3 - (i + 1) < 3 - i; omega, ?_, Qaa _, Qaa _, Qaa _, Qaa _, Qaa _, Qaa _, Qbu _⟩
   exact wKK
  ·have hxc : x = c := UInt8.toNat_inj.1 (by omega)
   rw [if_neg (fun h => h hxc)] at h2
   refine wXK ?_
   refine ⟨(i + 1, st2), ⟨by omega, h2, okn, hln⟩, by show 3 - (i + 1) < 3 - i; omega, ?_, Qaa _, Qaa _, Qaa _, Qaa _, Qaa _, Qaa _, Qbu _⟩
   exact wKK
 ·obtain rfl : i = 3 := by omega
  have h2 : st = S0 := h2
  subst h2
  have hR : Qhl s = Qgu (endM (Qav (s.length + 1) st).2) := by unfold Qhl; rw [hS0]
  rw [hR]
  have hs4 : st.s.length <= s.length := h4.s
  have bd4 := bd0.le h4
  have hce := Qvu (s.length + 1) rb st P0 h3 bd4 (.inl (by omega))
  have hwd := Qqz (s.length + 1) st bd4 (by unfold Wd; rw [<- h3.g]; intro c hc; cases hc)
  have bd5 := bd4.le ((Qdo (s.length + 1)).le st)
  generalize Qav (s.length + 1) st = r at hce hwd bd5 ⊢
  obtain ⟨z, st1⟩ := r
  simp only at hce hwd bd5
  refine wXK ?_
  refine Qai hce [4, 1, 0, 2, 3] rfl ⟨rfl, rfl, rfl, rfl, rfl, trivial⟩ rfl fun p hp => ?_
  refine wXK ?_
  refine LdN.one (a := some ⟨rb, 0, none⟩) (q := 4) (.int .i64 st1.e) rfl (fun w hw => hw.2.2.2.2.1) rfl ?_
  refine wXK ?_
  by_cases he : st1.e = 0
  ·rw [show (st1.e == 0) = true by rw [he]; rfl]
   refine wXK ?_
   refine LdN.one (a := some ⟨rb, 0, none⟩) (q := 0) (.string (bs st1.s)) rfl (fun w hw => hw.2.2.2.2.1) rfl ?_
   refine wXK ?_
   have hsn : ((bs st1.s).data.toList == (⟨#[]⟩ : ByteArray).data.toList) = decide (st1.s = []) := by rw [Qbx]; cases st1.s <;> rfl
   rw [hsn]
   by_cases hs1 : st1.s = []
   ·rw [decide_eq_true hs1]
    have e1 : endM st1 = st1 := by
     unfold endM
     rw [if_neg (fun h => h.2 hs1)]
    have hml : p.m.length = st1.g.length := by rw [<- hp.g, List.length_map]
    have hgl := bd5.g
    obtain ⟨b, hb⟩ : ∃ b : Bool, b = true ↔ Qbe (p.m.map (·.c)) := by
     by_cases h : Qbe (p.m.map (·.c))
     ·exact ⟨true, fun _ => h, fun _ => rfl⟩
     ·exact ⟨false, (fun h => by cases h), fun h2 => absurd h2 h⟩
    have e2 : Qgu st1 = { st1 with e := if b then 0 else 1 } := by
     unfold Qgu
     rw [if_pos he]
     congr 1
     rw [<- hp.g]
     cases b with
     | true => rw [if_pos (hb.1 rfl)]; rfl
     | false => rw [if_neg (fun h => by have := hb.2 h; cases this)]; rfl
    have hwm : ∀ q ∈ p.m, q.c.names.length <= 40000 /\ q.c.items.length <= 40000 := fun q hq => by
     have := hwd q.c (by rw [<- hp.g]; exact Zoz.2 ⟨q, hq, rfl⟩)
     exact ⟨Zwz this.1 (by decide), Zwz this.2 (by decide)⟩
    rw [show (z, st1).2 = st1 from rfl, e1, e2]
    refine wXK ?_
    refine LdN.one (a := some ⟨rb, 0, none⟩) (q := 4) (.int .i64 st1.e) rfl (fun w hw => hw.2.2.2.2.1) rfl ?_
    rw [he]
    refine wXK ?_
    refine LdN.one (a := some ⟨rb, 0, none⟩) (q := 1) (.slice p.ga p.m.length p.gc) rfl (fun w hw => hw.2.2.2.2.1) rfl ?_
    refine wXK ?_
    refine Qao (QA0 p.ga p.gc p.m hp.ga ⟨by omega, hwm⟩ hp.cell b hb _ (fun w hw => ⟨hw.2.1, hw.1⟩)) ?_
    refine wXK ?_
    refine EffW.appTo (i := 4) (q := 4) (ys := [_]) (rdC ({ st1 with e := if b then 0 else 1 }) p) 5 rfl rfl rfl rfl rfl rfl rfl (Zaz rfl) rfl rfl ?_
    refine wXK ?_
    refine LdN.one (a := some ⟨rb, 0, none⟩) (q := 4) (.int .i64 (if b then 0 else 1)) rfl (fun w hw => hw.2.2.2.2.1) rfl ?_
    refine wXK ?_
    exact Qfc (fun w => SlAt (some ⟨rb, 0, none⟩) 5 (rdC ({ st1 with e := if b then 0 else 1 }) p) w /\ SlAt p.ga (p.m.length * 5) (grC p.m) w /\ (∀ q ∈ p.m, Qbn q w) /\ SlAt p.sa (({ st1 with e := if b then 0 else 1 }).ss.length * 1) (strC ({ st1 with e := if b then 0 else 1 }).ss) w) ⟨rb, p, rfl, hp.same (st' := { st1 with e := if b then 0 else 1 }) ⟨rfl, rfl, rfl⟩, fun w hw => hw⟩ (fun w hw => ⟨hw.2.2.2.2.1, hw.2.1, hw.1, hw.2.2.2.1⟩)
   ·rw [decide_eq_false hs1]
    have e1 : endM st1 = Qam st1 4 := by
     unfold endM
     rw [if_pos ⟨he, hs1⟩]
    have he4 : (Qam st1 4).e = 4 := Qcq he 4
    have e2 : Qgu (Qam st1 4) = Qam st1 4 := Qfn (by rw [he4]; decide)
    rw [show (z, st1).2 = st1 from rfl, e1, e2]
    have ok4 := hp.same (Qbj st1 4)
    refine wXK ?_
    refine Qai (Qdn rb st1 p 4) [4, 1, 0, 2, 3] rfl ⟨rfl, rfl, rfl, rfl, rfl, trivial⟩ rfl fun _ _ => ?_
    generalize Qam st1 4 = st4 at he4 ok4 ⊢
    refine wXK ?_
    refine LdN.one (a := some ⟨rb, 0, none⟩) (q := 4) (.int .i64 st4.e) rfl (fun w hw => hw.2.2.2.2.1) rfl ?_
    rw [he4]
    refine wXK ?_
    refine LdN.one (a := some ⟨rb, 0, none⟩) (q := 4) (.int .i64 st4.e) rfl (fun w hw => hw.2.2.2.2.1) rfl ?_
    refine wXK ?_
    exact Qfc (fun w => SlAt (some ⟨rb, 0, none⟩) 5 (rdC (st4) p) w /\ SlAt p.ga (p.m.length * 5) (grC p.m) w /\ (∀ q ∈ p.m, Qbn q w) /\ SlAt p.sa ((st4).ss.length * 1) (strC (st4).ss) w) ⟨rb, p, rfl, ok4, fun w hw => hw⟩ (fun w hw => ⟨hw.2.2.2.2.1, hw.2.1, hw.1, hw.2.2.2.1⟩)
  ·have e1 : Qgu (endM st1) = st1 := by rw [Qnx he, Qfn he]
   rw [e1]
   rw [show (st1.e == 0) = false by simpa using he]
   refine wXK ?_
   refine LdN.one (a := some ⟨rb, 0, none⟩) (q := 4) (.int .i64 st1.e) rfl (fun w hw => hw.2.2.2.2.1) rfl ?_
   refine wXK ?_
   refine Qa0 (fun h => absurd h he) (fun _ => ?_)
   refine wXK ?_
   refine LdN.one (a := some ⟨rb, 0, none⟩) (q := 4) (.int .i64 st1.e) rfl (fun w hw => hw.2.2.2.2.1) rfl ?_
   refine wXK ?_
   exact Qfc (fun w => SlAt (some ⟨rb, 0, none⟩) 5 (rdC (st1) p) w /\ SlAt p.ga (p.m.length * 5) (grC p.m) w /\ (∀ q ∈ p.m, Qbn q w) /\ SlAt p.sa ((st1).ss.length * 1) (strC (st1).ss) w) ⟨rb, p, rfl, hp, fun w hw => hw⟩ (fun w hw => ⟨hw.2.2.2.2.1, hw.2.1, hw.1, hw.2.2.2.1⟩)
theorem Quj (s : List UInt8) (hs : 20000 < s.length) : ∀ H, SpecH Tryz.prog 41 (pvs [.string (bs s)]) H (Ret (.tuple #[.pointer none, .int .i64 2]) H) := by
 refine Qd1 hm Tryz.func41 (by kernel_rfl) rfl rfl ?_
 have hsz := Qal s
 refine wX ?_
 refine Qab (fun h => ?_) (fun h => absurd (show (s.length : Int) > 20000 by omega) (by rw [hsz] at h; exact h))
 exact wZ
def Qwc (g : List Cell) (v : Value) (G : World -> Prop) : Prop := ∃ (a : Option Addr) (c : Nat) (m : List Qaj), v = .slice a m.length c /\ m.map (·.c) = g /\ (a = none -> m = []) /\ (∀ q ∈ m, Qa5 q) /\ ∀ w, G w -> GrF a m w
def LoadR (r : Except Int (List Cell × List B)) (v : Value) (G : World -> Prop) : Prop := match r with
 | .error e => v = .tuple #[.slice none 0 0, .int .i64 e]
 | .ok (g, _) => ∃ v1, v = .tuple #[v1, .int .i64 0] /\ Qwc g v1 G
theorem QBa (s : List UInt8) : SpecF Tryz.prog 16 [.string (bs s)] (fun _ => True) (LoadR (Qca s)) := by
 refine Qm2 hm Tryz.func16 (by kernel_rfl) rfl rfl ?_
 by_cases hs : 20000 < s.length
 ·have hl : Qca s = .error 2 := by unfold Qca; rw [if_pos hs]
  rw [hl]
  refine wX ?_
  refine Qao (Quj s hs _) ?_
  refine wX ?_
  exact Ql0 rfl
 ·have href := Qnm (s := s) (by omega)
  ((conv => whnf); (repeat ((first | refine VrN.keep ?_ | refine BoxN.own ?_ | refine RwN.own ?_); (conv => whnf))))
  refine SpecF.call (Qz4 s (by omega)) (fun w _ q hq => by cases hq) fun v G hR => ?_
  obtain ⟨rb, p, rfl, ok, hG⟩ := hR
  generalize Qhl s = st at href ok hG ⊢
  cases hl : Qca s with
  | error e =>
   obtain ⟨h1, h2⟩ := href.2 e hl
   refine wX ?_
   rw [h1]
   refine Qbb (fun _ => ?_) (fun h => absurd h h2)
   refine wX ?_
   exact Ql0 rfl
  | ok r =>
   obtain ⟨h1, h2, h3⟩ := href.1 r hl
   obtain ⟨g, ss⟩ := r
   refine wX ?_
   rw [h1]
   refine wX ?_
   refine LdN.one (a := some ⟨rb, 0, none⟩) (q := 1) (.slice p.ga p.m.length p.gc) rfl (fun w hw => (hG w hw.2.1).1) rfl ?_
   refine wX ?_
   exact Qfc (fun w => GrF p.ga p.m w) ⟨_, rfl, p.ga, p.gc, p.m, rfl, by rw [ok.g]; exact h2, ok.ga, ok.cell, fun w hw => hw⟩ (fun w hw => ⟨(hG w hw.2.1).2.1, (hG w hw.2.1).2.2.1⟩)
def errS (r : Except Int (List Cell × List B)) : Int := match r with
 | .error e => e
 | .ok _ => 0
end Go.Proofs.YtgogonnnojcioaaGreatDoor
namespace Go.Marshal
open Go.Core
theorem Qwx {s : B} (hs : s.length <= 20000) : ((Qej headB ⟨s, [], [], [], 0⟩).e ≠ 0 -> Qca s = .error (Qej headB ⟨s, [], [], [], 0⟩).e) /\
  ((Qej headB ⟨s, [], [], [], 0⟩).e = 0 -> ∀ (v : Int) (st : PS), Tel (Qc8 (s.length + 1) (toS (Qej headB ⟨s, [], [], [], 0⟩))) v st ->
   (st.e ≠ 0 -> Qca s = .error st.e) /\ (st.e = 0 -> st.s ≠ [] -> Qca s = .error 4) /\ (st.e = 0 -> st.s = [] -> (Qbe st.g -> Qca s = .ok (st.g, st.ss)) /\ (¬ Qbe st.g -> Qca s = .error 1))) := by
 have hh := Qnr headB ⟨s, [], [], [], 0⟩ rfl
 unfold Qca
 rw [if_neg (by omega)]
 cases hr : Qns headB s with
 | error e1 =>
  obtain ⟨h1, h2⟩ := hh.2 e1 hr
  exact ⟨fun _ => by rw [h1], fun h => absurd (h1.symm.trans h) h2⟩
 | ok r =>
  have h1 := hh.1 r hr
  rw [h1]
  have hl : r.length <= s.length := by rw [Qqp _ _ _ hr, Zhz]; omega
  refine ⟨fun h => absurd rfl h, fun _ v st tel => ?_⟩
  have hst : Qek (r.length + 1) ⟨r, [], [], []⟩ = Qek (s.length + 1) ⟨r, [], [], []⟩ := Qih _ _ _ (Nat.lt_succ_self _) (by show r.length < _; omega)
  have tel : Tel (Qek (s.length + 1) ⟨r, [], [], []⟩) v st := by rw [<- Qr9]; exact tel
  simp only
  rw [hst]
  refine ⟨fun h => ?_, fun h hn => ?_, fun h hn => ?_⟩
  ·rw [tel.dead h]
  ·rw [tel.live h]
   have : (toS st).s ≠ [] := hn
   simp only
   rw [if_pos this]
  ·rw [tel.live h]
   have : (toS st).s = [] := hn
   simp only
   rw [if_neg (fun h => h this)]
   refine ⟨fun hv => ?_, fun hv => ?_⟩
   ·rw [if_pos (show Qbe (toS st).g from hv)]
    rfl
   ·rw [if_neg (show ¬ Qbe (toS st).g from hv)]
theorem Qu7 {s : B} {e : Int} (h : Qca s = .error e) : e ≠ 0 := by
 by_cases hs : s.length <= 20000
 ·exact ((Qnm hs).2 e h).2
 ·unfold Qca at h
  rw [if_pos (by omega)] at h
  cases h
  decide
end Go.Marshal
namespace Go.Proofs.YtgogonnnojcioaaGreatDoor
open Go.AX Go.RowKit Go.Core Go.Marshal
set_option maxRecDepth 20000
def RdD (S : List UInt8) (v : Value) (G : World -> Prop) : Prop := ∃ (rb : Nat) (st : PS) (p : RdP), v = .tuple #[.pointer (some ⟨rb, 0, none⟩), .int .i64 (errS (Qca S))] /\ OkD st p /\ (∀ q ∈ p.m, Qa5 q) /\ (∀ r, Qca S = .ok r -> st.g = r.1 /\ st.ss = r.2) /\ ∀ w, G w -> SlAt (some ⟨rb, 0, none⟩) 6 (ddC S st p) w /\ SlAt p.ga (p.m.length * 5) (grC p.m) w /\ (∀ q ∈ p.m, Qbn q w) /\ SlAt p.sa (st.ss.length * 1) (strC st.ss) w
theorem okd0 (S : List UInt8) : OkD ⟨S, [], [], [], 0⟩ P0 := ⟨rfl, fun _ => rfl, fun _ => rfl, fun _ => rfl, (fun t ht => by cases ht), .inl rfl⟩
theorem ddC0 (S : List UInt8) : ddC S ⟨S, [], [], [], 0⟩ P0 = [.string (bs S), .int .i64 0, .slice none 0 0, .slice none 0 0, .slice none 0 0, .int .i64 0] := by
 unfold ddC
 simp only [Nat.sub_self]
 rfl
set_option maxHeartbeats 4000000 in
theorem Qz3 (S : List UInt8) : SpecF Tryz.prog 61 [.string (bs S)] (fun w => ∀ q ∈ ([] : List Qaj), Qbn q w) (RdD S) := by
 refine Qfs ?_
 refine SpecH.pad [.app 87 5 [] none 0 0, .app 3 1 [] none 0 0, .app 9 1 [] none 0 0] rfl ?_
 refine Qas hm Tryz.func61 (by kernel_rfl) rfl rfl ?_
 have hsz := Qal S
 refine wXB ?_
 refine BoxN.known [.string (bs S), .int .i64 0, .slice none 0 0, .slice none 0 0, .slice none 0 0, .int .i64 0] rfl fun rb => ?_
 rw [<- ddC0 S]
 refine wXK ?_
 refine Qab (fun hlong => ?_) (fun hS => ?_)
 ·have hl : Qca S = .error 2 := by unfold Qca; rw [if_pos (by rw [hsz] at hlong; omega)]
  refine wXK ?_
  refine Qfc (fun w => SlAt (some ⟨rb, 0, none⟩) 6 (ddC S ((⟨S, [], [], [], 0⟩ : PS)) (P0)) w /\ SlAt (P0).ga ((P0).m.length * 5) (grC (P0).m) w /\ (∀ q ∈ (P0).m, Qbn q w) /\ SlAt (P0).sa (((⟨S, [], [], [], 0⟩ : PS)).ss.length * 1) (strC ((⟨S, [], [], [], 0⟩ : PS)).ss) w) ⟨rb, (⟨S, [], [], [], 0⟩ : PS), P0, ?_, okd0 S, ?_, ?_, fun w hw => hw⟩ (fun w hw => ⟨hw.2.2.2.2.1, hw.2.1, hw.1, hw.2.2.2.1⟩)
  ·rw [hl]; rfl
  ·intro q hq; cases hq
  ·intro r h; rw [hl] at h; cases h
 have hS : S.length <= 20000 := by rw [hsz] at hS; omega
 obtain ⟨S0, hS0⟩ : ∃ S0, Qej headB ⟨S, [], [], [], 0⟩ = S0 := ⟨_, rfl⟩
 obtain ⟨t1, t2⟩ := Qwx hS
 rw [hS0] at t1 t2
 have bd0 : Bd ⟨S, [], [], [], 0⟩ := ⟨Zkz _, Zcz _, by show 0 + S.length <= _; omega⟩
 refine wXK ?_
 refine LoopN.intro (Nat × PS) (fun ⟨i, st⟩ => i <= 3 /\ Qej (headB.drop i) st = S0 /\ OkD st P0 /\ Left S st /\ Le 0 ⟨S, [], [], [], 0⟩ st)
  (fun ⟨i, _⟩ => mkS Tryz.f61.ntmps 0 [(0, .c (.v (.string (bs S)))), (4, .c (.v (.pointer (some ⟨rb, 0, none⟩)))), (5, .c (.v (.string ⟨#[67, 77, 1]⟩))), (6, .c (.v (.int .i64 (i : Int))))])
  (fun ⟨_, st⟩ => [.fact fun w => ∀ q ∈ ([] : List Qaj), Qbn q w, .app 87 5 [] none 0 0, .app 3 1 (iC st.cells) none st.cells.length 0, .app 9 1 (strC st.ss) none st.ss.length 0, .app 109 6 (ddC S st P0) (some ⟨rb, 0, none⟩) 1 1]) (fun ⟨i, _⟩ => 3 - i) [] rfl
  (fun _ => rfl) (fun _ => rfl) (fun _ _ => Qan rfl) ⟨(0, ⟨S, [], [], [], 0⟩), ⟨by omega, hS0, okd0 S, ⟨[], rfl⟩, Le.refl _⟩, ?_, ?_⟩ ?_
 ·exact wKK
 ·exact ⟨Qaa _, Qaa _, Qaa _, Qaa _, Qaa _, Qbu _⟩
 rintro ⟨i, st⟩ ⟨h1, h2, h3, hl, h4⟩
 have hd3 : ((⟨#[67, 77, 1]⟩ : ByteArray).size : Int) = 3 := rfl
 refine wXK ?_
 refine Qab (fun hi => ?_) (fun hi => ?_)
 ·obtain ⟨c, hc⟩ : ∃ c, headB[i]? = some c := ⟨_, Zbz (by show i < 3; omega)⟩
  have hd : headB.drop i = c :: headB.drop (i + 1) := by
   obtain ⟨h5, h6⟩ := Zfz.1 hc
   rw [<- h6, List.getElem_cons_drop]
  rw [hd] at h2
  have h2 : Qej (headB.drop (i + 1)) (if (Qad st).1 ≠ c then Qam (Qad st).2 4 else (Qad st).2) = S0 := h2
  have hcv : Qcx ⟨#[67, 77, 1]⟩ i = (c.toNat : Int) := by
   rcases i with _ | _ | _ | i
   ·cases hc; rfl
   ·cases hc; rfl
   ·cases hc; rfl
   ·cases hc
  have hnx := Qr0 rb S (by omega) st P0 [] hl
  have hln := h4.trans (Qdd st)
  have okn := h3.same (Qc6 st)
  have hll := hl.next
  generalize Qad st = r at h2 hnx hln okn hll
  obtain ⟨x, st2⟩ := r
  simp only at h2 hnx hln okn hll
  refine wXK ?_
  refine Qai (hnx) [4, 1, 0, 2, 3] rfl ⟨rfl, rfl, rfl, rfl, rfl, trivial⟩ rfl fun _ _ => ?_
  refine wXK ?_
  refine LdN.one (a := some ⟨rb, 0, none⟩) (q := 5) (.int .i64 st2.e) rfl (fun w hw => hw.2.2.2.2.1) rfl ?_
  refine wXK ?_
  by_cases he : st2.e = 0
  ·rw [show (st2.e == 0) = true by rw [he]; rfl]
   refine wXK ?_
   rw [Zdz, hcv]
   refine Qbb (fun h7 => ?_) (fun h7 => ?_)
   ·have hxc : x ≠ c := fun h => h7 (by rw [h])
    rw [if_pos hxc] at h2
    refine wXK ?_
    refine Qai (Qga rb S st2 P0 [] 4) [4, 1, 0, 2, 3] rfl ⟨rfl, rfl, rfl, rfl, rfl, trivial⟩ rfl fun _ _ => ?_
    refine wXK ?_
    refine ⟨(i + 1, Qam st2 4), ⟨by omega, h2, okn.same (Qbj st2 4), hll.fail 4, hln.trans (Qcj st2 4)⟩, by show 3 - (i + 1) < 3 - i; omega, ?_, Qaa _, Qaa _, Qaa _, Qaa _, Qaa _, Qbu _⟩
    exact wKK
   ·have hxc : x = c := UInt8.toNat_inj.1 (by omega)
    rw [if_neg (fun h => h hxc)] at h2
    refine wXK ?_
    refine ⟨(i + 1, st2), ⟨by omega, h2, okn, hll, hln⟩, by show 3 - (i + 1) < 3 - i; omega, ?_, Qaa _, Qaa _, Qaa _, Qaa _, Qaa _, Qbu _⟩
    exact wKK
  ·rw [show (st2.e == 0) = false by simpa using he]
   have h2 : Qej (headB.drop (i + 1)) st2 = S0 := by
    rw [<- h2]
    split
    ·rw [Qel he]
    ·rfl
   refine wXK ?_
   refine ⟨(i + 1, st2), ⟨by omega, h2, okn, hll, hln⟩, by show 3 - (i + 1) < 3 - i; omega, ?_, Qaa _, Qaa _, Qaa _, Qaa _, Qaa _, Qbu _⟩
   exact wKK
 ·obtain rfl : i = 3 := by rw [hd3] at hi; omega
  have h2 : st = S0 := h2
  subst h2
  have hs4 : st.s.length <= S.length := h4.s
  have bd4 := bd0.le h4
  refine wXK ?_
  refine LdN.one (a := some ⟨rb, 0, none⟩) (q := 5) (.int .i64 st.e) rfl (fun w hw => hw.2.2.2.2.1) rfl ?_
  refine wXK ?_
  by_cases he : st.e = 0
  ·rw [show (st.e == 0) = true by rw [he]; rfl]
   refine wXK ?_
   refine Qai (Qx9 (S.length + 1) rb S st P0 [] hS h3 bd4 hl he (by omega)) [4, 1, 0, 2, 3] rfl ⟨rfl, rfl, rfl, rfl, rfl, trivial⟩ rfl fun d hd => ?_
   obtain ⟨dv, ds, dp, dn⟩ := d
   obtain ⟨ok8, hm8, hc8, hl8, le8, lt8, tel8⟩ := hd
   simp only at ok8 hm8 hc8 hl8 le8 lt8 tel8
   obtain ⟨u1, u2, u3⟩ := t2 he dv ds tel8
   have hdn : dp.m = dn := by rw [hm8]; rfl
   subst hdn
   have hll8 := Qno hl8
   refine wXK ?_
   refine LdN.one (a := some ⟨rb, 0, none⟩) (q := 5) (.int .i64 ds.e) rfl (fun w hw => hw.2.2.2.2.1) rfl ?_
   refine wXK ?_
   by_cases he8 : ds.e = 0
   ·rw [show (ds.e == 0) = true by rw [he8]; rfl]
    refine wXK ?_
    refine LdN.one (a := some ⟨rb, 0, none⟩) (q := 1) (.int .i64 ((S.length - ds.s.length : Nat) : Int)) rfl (fun w hw => hw.2.2.2.2.1) rfl ?_
    refine wXK ?_
    refine Qab (fun hat => ?_) (fun hat => ?_)
    ·have hne : ds.s ≠ [] := fun h => by rw [hsz, h, List.length_nil, Nat.sub_zero] at hat; exact absurd hat (Int.lt_irrefl _)
     have hl0 := u2 he8 hne
     have he4 : (Qam ds 4).e = 4 := Qcq he8 4
     refine wXK ?_
     refine Qai (Qga rb S ds dp ([] ++ dp.m) 4) [4, 1, 0, 2, 3] rfl ⟨rfl, rfl, rfl, rfl, rfl, trivial⟩ rfl fun _ _ => ?_
     refine wXK ?_
     refine LdN.one (a := some ⟨rb, 0, none⟩) (q := 5) (.int .i64 (Qam ds 4).e) rfl (fun w hw => hw.2.2.2.2.1) rfl ?_
     refine wXK ?_
     rw [show ((Qam ds 4).e == 0) = false by rw [he4]; rfl]
     refine wXK ?_
     refine LdN.one (a := some ⟨rb, 0, none⟩) (q := 5) (.int .i64 (Qam ds 4).e) rfl (fun w hw => hw.2.2.2.2.1) rfl ?_
     refine wXK ?_
     refine Qfc (fun w => SlAt (some ⟨rb, 0, none⟩) 6 (ddC S (Qam ds 4) (dp)) w /\ SlAt (dp).ga ((dp).m.length * 5) (grC (dp).m) w /\ (∀ q ∈ (dp).m, Qbn q w) /\ SlAt (dp).sa ((Qam ds 4).ss.length * 1) (strC (Qam ds 4).ss) w) ⟨rb, Qam ds 4, dp, ?_, ok8.same (Qbj ds 4), ?_, ?_, fun w hw => hw⟩ (fun w hw => ⟨hw.2.2.2.2.1, hw.2.1, hw.1, hw.2.2.2.1⟩)
     ·rw [hl0, he4]; rfl
     ·exact hc8
     ·intro r h; rw [hl0] at h; cases h
    ·have hnil : ds.s = [] := Zez (by rw [hsz] at hat; omega)
     obtain ⟨v1, v2⟩ := u3 he8 hnil
     have hgb : dp.m.length <= 500 := by
      have := (bd4.le le8).g
      rw [<- ok8.g, List.length_map] at this
      exact this
     obtain ⟨b, hb, hvc⟩ := Qq8 dp.ga dp.gc dp.m ok8.ga (by omega) hc8
     rw [ok8.g] at hb
     refine wXK ?_
     refine LdN.one (a := some ⟨rb, 0, none⟩) (q := 5) (.int .i64 ds.e) rfl (fun w hw => hw.2.2.2.2.1) rfl ?_
     refine wXK ?_
     rw [show (ds.e == 0) = true by rw [he8]; rfl]
     refine wXK ?_
     refine LdN.one (a := some ⟨rb, 0, none⟩) (q := 2) (.slice dp.ga dp.m.length dp.gc) rfl (fun w hw => hw.2.2.2.2.1) rfl ?_
     refine wXK ?_
     refine Qao (hvc _ (fun w hw => ⟨hw.2.1, hw.1⟩)) ?_
     cases b with
     | true =>
      have hl0 := v1 (hb.1 rfl)
      refine wXK ?_
      refine LdN.one (a := some ⟨rb, 0, none⟩) (q := 5) (.int .i64 ds.e) rfl (fun w hw => hw.2.2.2.2.1) rfl ?_
      refine wXK ?_
      refine Qfc (fun w => SlAt (some ⟨rb, 0, none⟩) 6 (ddC S (ds) (dp)) w /\ SlAt (dp).ga ((dp).m.length * 5) (grC (dp).m) w /\ (∀ q ∈ (dp).m, Qbn q w) /\ SlAt (dp).sa ((ds).ss.length * 1) (strC (ds).ss) w) ⟨rb, ds, dp, ?_, ok8, ?_, ?_, fun w hw => hw⟩ (fun w hw => ⟨hw.2.2.2.2.1, hw.2.1, hw.1, hw.2.2.2.1⟩)
      ·rw [hl0, he8]; rfl
      ·exact hc8
      ·intro r h; rw [hl0] at h; cases h; exact ⟨rfl, rfl⟩
     | false =>
      have hl0 := v2 (fun h => by have := hb.2 h; cases this)
      have he1 : (Qam ds 1).e = 1 := Qcq he8 1
      refine wXK ?_
      refine Qai (Qga rb S ds dp ([] ++ dp.m) 1) [4, 1, 0, 2, 3] rfl ⟨rfl, rfl, rfl, rfl, rfl, trivial⟩ rfl fun _ _ => ?_
      refine wXK ?_
      refine LdN.one (a := some ⟨rb, 0, none⟩) (q := 5) (.int .i64 (Qam ds 1).e) rfl (fun w hw => hw.2.2.2.2.1) rfl ?_
      refine wXK ?_
      refine Qfc (fun w => SlAt (some ⟨rb, 0, none⟩) 6 (ddC S (Qam ds 1) (dp)) w /\ SlAt (dp).ga ((dp).m.length * 5) (grC (dp).m) w /\ (∀ q ∈ (dp).m, Qbn q w) /\ SlAt (dp).sa ((Qam ds 1).ss.length * 1) (strC (Qam ds 1).ss) w) ⟨rb, Qam ds 1, dp, ?_, ok8.same (Qbj ds 1), ?_, ?_, fun w hw => hw⟩ (fun w hw => ⟨hw.2.2.2.2.1, hw.2.1, hw.1, hw.2.2.2.1⟩)
      ·rw [hl0, he1]; rfl
      ·exact hc8
      ·intro r h; rw [hl0] at h; cases h
   ·rw [show (ds.e == 0) = false by simpa using he8]
    refine wXK ?_
    refine LdN.one (a := some ⟨rb, 0, none⟩) (q := 5) (.int .i64 ds.e) rfl (fun w hw => hw.2.2.2.2.1) rfl ?_
    refine wXK ?_
    rw [show (ds.e == 0) = false by simpa using he8]
    refine wXK ?_
    refine LdN.one (a := some ⟨rb, 0, none⟩) (q := 5) (.int .i64 ds.e) rfl (fun w hw => hw.2.2.2.2.1) rfl ?_
    refine wXK ?_
    have hl0 := u1 he8
    refine Qfc (fun w => SlAt (some ⟨rb, 0, none⟩) 6 (ddC S (ds) (dp)) w /\ SlAt (dp).ga ((dp).m.length * 5) (grC (dp).m) w /\ (∀ q ∈ (dp).m, Qbn q w) /\ SlAt (dp).sa ((ds).ss.length * 1) (strC (ds).ss) w) ⟨rb, ds, dp, ?_, ok8, ?_, ?_, fun w hw => hw⟩ (fun w hw => ⟨hw.2.2.2.2.1, hw.2.1, hw.1, hw.2.2.2.1⟩)
    ·rw [hl0]; rfl
    ·exact hc8
    ·intro r h; rw [hl0] at h; cases h
  ·rw [show (st.e == 0) = false by simpa using he]
   refine wXK ?_
   refine LdN.one (a := some ⟨rb, 0, none⟩) (q := 5) (.int .i64 st.e) rfl (fun w hw => hw.2.2.2.2.1) rfl ?_
   refine wXK ?_
   rw [show (st.e == 0) = false by simpa using he]
   refine wXK ?_
   refine LdN.one (a := some ⟨rb, 0, none⟩) (q := 5) (.int .i64 st.e) rfl (fun w hw => hw.2.2.2.2.1) rfl ?_
   refine wXK ?_
   rw [show (st.e == 0) = false by simpa using he]
   refine wXK ?_
   refine LdN.one (a := some ⟨rb, 0, none⟩) (q := 5) (.int .i64 st.e) rfl (fun w hw => hw.2.2.2.2.1) rfl ?_
   refine wXK ?_
   have hl0 := t1 he
   refine Qfc (fun w => SlAt (some ⟨rb, 0, none⟩) 6 (ddC S (st) (P0)) w /\ SlAt (P0).ga ((P0).m.length * 5) (grC (P0).m) w /\ (∀ q ∈ (P0).m, Qbn q w) /\ SlAt (P0).sa ((st).ss.length * 1) (strC (st).ss) w) ⟨rb, st, P0, ?_, h3, ?_, ?_, fun w hw => hw⟩ (fun w hw => ⟨hw.2.2.2.2.1, hw.2.1, hw.1, hw.2.2.2.1⟩)
   ·rw [hl0]; rfl
   ·intro q hq; cases hq
   ·intro r h; rw [hl0] at h; cases h
theorem Qzp (S : List UInt8) : SpecF Tryz.prog 37 [.string (bs S)] (fun _ => True) (LoadR (Qca S)) := by
 refine Qm2 hm Tryz.func37 (by kernel_rfl) rfl rfl ?_
 ((conv => whnf); (repeat ((first | refine VrN.keep ?_ | refine BoxN.own ?_ | refine RwN.own ?_); (conv => whnf))))
 refine SpecF.call (Qz3 S) (fun w _ q hq => by cases hq) fun v G hR => ?_
 obtain ⟨rb, st, p, rfl, ok, hcl, hok, hG⟩ := hR
 cases hl : Qca S with
 | error e =>
  have he : e ≠ 0 := Qu7 hl
  refine wX ?_
  refine Qbb (fun _ => ?_) (fun h => absurd h he)
  refine wX ?_
  exact Ql0 rfl
 | ok r =>
  obtain ⟨g, ss⟩ := r
  obtain ⟨h1, h2⟩ := hok _ hl
  refine wX ?_
  refine LdN.one (a := some ⟨rb, 0, none⟩) (q := 2) (.slice p.ga p.m.length p.gc) rfl (fun w hw => (hG w hw.2.1).1) rfl ?_
  refine wX ?_
  exact Qfc (fun w => GrF p.ga p.m w) ⟨_, rfl, p.ga, p.gc, p.m, rfl, ok.g.trans h1, ok.ga, hcl, fun w hw => hw⟩ (fun w hw => ⟨(hG w hw.2.1).2.1, (hG w hw.2.1).2.2.1⟩)
end Go.Proofs.YtgogonnnojcioaaGreatDoor
namespace Go.Core
theorem Qjv {α : Type} {l : List α} {k : Nat} {x : α} (h : l[k]? = some x) : l.set k x = l := by
 obtain ⟨hk, rfl⟩ := Zfz.1 h
 exact List.set_getElem_self hk
end Go.Core
namespace Go.Proofs.YtgogonnnojcioaaGreatDoor
open Go.AX Go.RowKit Go.Core
set_option maxRecDepth 20000
def rdH (F : World -> Prop) (L : List Int) (o : BSt) : List Ent := [.app 3 1 (iC L) (at0 o.ob) L.length o.cap, .fact F]
theorem Qz5 (F : World -> Prop) (L : List Int) (o : BSt) : okH (rdH F L o).length (rdH F L o) := Qan rfl
set_option maxHeartbeats 4000000 in
theorem Quk (a : Option Addr) (ca : Nat) (l : List Qaj) (ha : a = none -> l = []) (hs : Small l) (hok : ∀ p ∈ l, Qa5 p) (hg : InG (l.map (·.c))) : ∀ (n : Nat) (L : List Int) (o : BSt) (i : Int), InI (l.map (·.c)) i -> Qb3 (l.map (·.c)) L < n -> L.length + Qb3 (l.map (·.c)) L <= 3000 -> o.ok L.length ->
  SpecH Tryz.prog 50 (pvs [.slice a l.length ca, .int .i64 i, .slice (at0 o.ob) L.length o.cap]) (rdH (GrF a l) L o) (RetG (ι := BSt) (fun o => o.ok (Qbk (l.map (·.c)) n L i).length) (fun o => .slice (at0 o.ob) (Qbk (l.map (·.c)) n L i).length o.cap) (fun o => rdH (GrF a l) (Qbk (l.map (·.c)) n L i) o)) := by
 intro n
 induction n with
 | zero => intro L o i _ h; omega
 | succ n ih =>
  rintro L ⟨ob0, ocap⟩ i0 hi hn hlen ho
  obtain ⟨i, rfl⟩ : ∃ i : Nat, i0 = (i : Int) := ⟨i0.toNat, by have := hi.1; omega⟩
  have hil : i < l.length := by have := hi.2; simp only [List.length_map] at this; omega
  obtain ⟨p, hp⟩ : ∃ x, l[i]? = some x := ⟨_, Zbz hil⟩
  have hpm := Ziz hp
  have hpo := hok p hpm
  have hps := hs.2 p hpm
  have hl := hs.1
  have hsa : a.isSome = true := by
   cases a with
   | none => rw [ha rfl] at hil; exact absurd hil (Nat.not_lt_zero _)
   | some b => rfl
  refine ownC hm Tryz.func50 (by kernel_rfl) rfl rfl (fun _ _ => Qz5 _ _ _) (fun _ _ => Zcz _) ?_
  refine wX ?_
  refine Qao (Qx1 (at0 ob0) ocap L (i : Int) (fun h => by cases ob0 with | none => exact Zez (ho.1 rfl).1 | some b => cases h) (by omega) _ (fun w hw => hw.1)) ?_
  cases hmem : decide ((i : Int) ∈ L) with
  | true =>
   have hsf : Qbk (l.map (·.c)) (n + 1) L (i : Int) = L := by unfold Qbk; rw [if_pos (of_decide_eq_true hmem)]
   rw [hsf]
   refine wX ?_
   exact ⟨⟨ob0, ocap⟩, ho, rfl, Qag _⟩
  | false =>
  have hmem2 : ¬ (i : Int) ∈ L := of_decide_eq_false hmem
  have hsf : Qbk (l.map (·.c)) (n + 1) L (i : Int) = (outs (l.map (·.c)) (i : Int)).foldl (Qbk (l.map (·.c)) n) (L ++ [(i : Int)]) := by
   conv => lhs; unfold Qbk
   rw [if_neg hmem2]
  rw [hsf, show outs (l.map (·.c)) (i : Int) = p.c.items by unfold outs; rw [Qgx hp]]
  have hlt := Qdx hi hmem2 (t := L ++ [(i : Int)]) (fun x hx => by simp [hx]) (by simp)
  refine wX ?_
  try refine Nd.mk ⟨Zcz 1, rfl, rfl⟩ ?_
  (conv => whnf)
  refine AppN.grow 0 (iC L) [.int .i64 (i : Int)] rfl rfl ⟨Zcz 1, ⟨by show (L.length + 1) * 8 <= _; omega, by omega⟩, Nat.one_ne_zero⟩ fun wb wc hwc _ => ?_
  have hcl : iC L ++ [.int .i64 (i : Int)] = iC (L ++ [(i : Int)]) := by simp [iC]
  have hll : L.length + 1 = (L ++ [(i : Int)]).length := by simp
  have hlen2 : (L ++ [(i : Int)]).length + Qb3 (l.map (·.c)) (L ++ [(i : Int)]) <= 3000 := by rw [<- hll]; omega
  rw [hcl, hll]
  have hwc2 : (L ++ [(i : Int)]).length <= wc := by rw [<- hll]; exact hwc
  generalize L ++ [(i : Int)] = L2 at *
  have hitem : ∀ x ∈ p.c.items, InI (l.map (·.c)) x := fun x hx => Qc5 hg hi (by unfold outs; rw [Qgx hp]; exact hx)
  obtain ⟨f, hf⟩ : ∃ f, f = Qbk (l.map (·.c)) n := ⟨_, rfl⟩
  have hfl : ∀ k, ((p.c.items.take k).foldl f L2).length + Qb3 (l.map (·.c)) ((p.c.items.take k).foldl f L2) <= 3000 := fun k => by
   rw [hf]
   have := Qj1 (g := l.map (·.c)) (fun L k hk => Qh5 hg n L k hk) (p.c.items.take k) L2 (fun x hx => hitem x (List.mem_of_mem_take hx))
   omega
  have hff : ∀ k, Qb3 (l.map (·.c)) ((p.c.items.take k).foldl f L2) < n := fun k => by
   rw [hf]
   have := Qct (g := l.map (·.c)) (s := L2) (t := (p.c.items.take k).foldl (Qbk (l.map (·.c)) n) L2) (fun x hx => Qnu _ n x _ _ hx)
   omega
  rw [<- hf] at ih ⊢
  refine wX ?_
  refine LoopN.intro (Nat × BSt) (fun ⟨k, o⟩ => k <= p.c.items.length /\ o.ok ((p.c.items.take k).foldl f L2).length)
   (fun ⟨k, o⟩ => mkS Tryz.f50.ntmps 0 [(0, .c (.v (.slice a l.length ca))), (1, .c (.v (.int .i64 (i : Int)))), (2, .c (.v (.slice (at0 o.ob) ((p.c.items.take k).foldl f L2).length o.cap))), (7, .c (.v (.int .i64 (k : Int))))])
   (fun ⟨k, o⟩ => rdH (GrF a l) ((p.c.items.take k).foldl f L2) o ++ [.dead]) (fun ⟨k, _⟩ => p.c.items.length - k) [] rfl (fun ⟨_, _⟩ => rfl) (fun ⟨_, _⟩ => rfl) (fun ⟨_, _⟩ _ => Qan rfl) ?_ ?_
  ·refine ⟨(0, ⟨some wb, wc⟩), ⟨Zkz _, (fun h => by cases h), hwc2, fun h => by have : wc = 0 := h; omega⟩, ?_, Qaa _, Qaa _, trivial, trivial⟩
   exact wKK
  rintro ⟨k, o⟩ ⟨hk3, hst⟩
  refine wX ?_
  refine Nd.mk ⟨hsa, by omega, by omega⟩ ?_
  refine wX ?_
  refine LdN.fld (.slice p.ia p.c.items.length p.ic) rfl (fun w hw => hw.2.1.1) (by rw [Zdz]; exact Qau l i 4 (by decide) hp) ?_
  refine wX ?_
  refine Qab (fun h1 => ?_) (fun h1 => ?_)
  ·obtain ⟨x, hx⟩ : ∃ z, p.c.items[k]? = some z := ⟨_, Zbz (by omega)⟩
   have hxa : p.ia.isSome = true := by
    cases hq : p.ia with
    | none => rw [hpo.ia hq] at hx; cases hx
    | some b => rfl
   refine wX ?_
   refine Nd.mk ⟨hsa, by omega, by omega⟩ ?_
   refine wX ?_
   refine LdN.fld (.slice p.ia p.c.items.length p.ic) rfl (fun w hw => hw.2.1.1) (by rw [Zdz]; exact Qau l i 4 (by decide) hp) ?_
   refine wX ?_
   refine Nd.mk ⟨hxa, by omega, by omega⟩ ?_
   refine wX ?_
   refine LdN.one (.int .i64 x) rfl (fun w hw => (hw.2.1.2 p hpm).2) (by rw [Zdz]; show (iC p.c.items)[k * 1]? = _; rw [Nat.mul_one]; exact Qcb hx) ?_
   refine wX ?_
   refine Qai (ih ((p.c.items.take k).foldl f L2) o x (hitem x (Ziz hx)) (hff k) (hfl k) hst) [0, 1] rfl ⟨rfl, rfl, trivial⟩ rfl fun o2 hst2 => ?_
   have hnx : f ((p.c.items.take k).foldl f L2) x = (p.c.items.take (k + 1)).foldl f L2 := (Qmk hx).symm
   rw [hnx] at hst2 ⊢
   refine wX ?_
   refine ⟨(k + 1, o2), ⟨by omega, hst2⟩, by show p.c.items.length - (k + 1) < p.c.items.length - k; omega, ?_, Qag _⟩
   exact wKK
  ·have hkl : k = p.c.items.length := by omega
   subst hkl
   rw [Ztz] at hst ⊢
   refine wX ?_
   exact ⟨o, hst, rfl, Qaa _, Qaa _, trivial⟩
end Go.Proofs.YtgogonnnojcioaaGreatDoor
namespace Go.Core
def Qfb (g : List Cell) (L : List Int) (x : Int) : Bool := (outs g x).any fun k => decide (k ∈ L)
theorem Qxh {f : Int -> Bool} {l : List Int} {k : Nat} {x : Int} (h : l[k]? = some x) : (l.take (k + 1)).any f = ((l.take k).any f || f x) := by
 rw [List.take_add_one, h, List.any_append]
 simp
theorem Qqu {f : Int -> Bool} {l : List Int} {k : Nat} {x : Int} (h : l[k]? = some x) : (l.take (k + 1)).filter f = if f x then (l.take k).filter f ++ [x] else (l.take k).filter f := by
 rw [List.take_add_one, h, List.filter_append]
 cases hx : f x <;> simp [hx]
end Go.Core
namespace Go.Proofs.YtgogonnnojcioaaGreatDoor
open Go.AX Go.RowKit Go.Core
set_option maxRecDepth 20000
structure CSt where
 L : List Int
 ob : Option Nat
 cap : Nat
def CInv (g : List Cell) (B : Bool) : CSt -> Prop := fun ⟨L, ob, _⟩ => (∀ x ∈ L, InI g x) /\ L.length <= 3000 /\ (ob = none -> L = []) /\ ∃ n, Qnc g n L = B /\ L.length < n
set_option maxHeartbeats 4000000 in
theorem Qqf {a : Option Addr} (ca : Nat) {l : List Qaj} (ha : a = none -> l = []) (hs : Small l) (hok : ∀ p ∈ l, Qa5 p) (hg : InG (l.map (·.c))) (i : Int) (hi : InI (l.map (·.c)) i) :
  ∀ H, (∀ w, Qax H w -> GrF a l w) -> SpecH Tryz.prog 49 (pvs [.slice a l.length ca, .int .i64 i]) H (Ret (.bool (Qpu (l.map (·.c)) i)) H) := by
 refine Qem hm Tryz.func49 (by kernel_rfl) rfl rfl ?_
 have hgl : (l.map (·.c)).length = l.length := by simp
 have hl := hs.1
 have hfr := Qf2 (l.map (·.c)) []
 have hB : Qpu (l.map (·.c)) i = Qnc (l.map (·.c)) ((Qgj (l.map (·.c)) i).length + 1) (Qgj (l.map (·.c)) i) := Qvs hg hi (Nat.lt_succ_self _) (Nat.lt_succ_self _) (Nat.lt_succ_self _)
 obtain ⟨B, hBB⟩ : ∃ B, B = Qpu (l.map (·.c)) i := ⟨_, rfl⟩
 rw [<- hBB] at hB ⊢
 have hrl : (Qgj (l.map (·.c)) i).length <= 3000 := by
  have := Qh5 hg ((l.map (·.c)).length + 1) [] i hi
  unfold Qgj
  simp only [List.length_nil] at this
  omega
 have hri : ∀ x ∈ Qgj (l.map (·.c)) i, InI (l.map (·.c)) x := fun x hx => QBf hg ((Qkr hg (Nat.lt_succ_self _) hi x).1 hx) hi
 refine wX ?_
 refine SpecH.pad [.app 3 1 [] none 0 0] rfl ?_
 refine Qai (Quk a ca l ha hs hok hg ((l.map (·.c)).length + 1) [] ⟨none, 0⟩ i hi (by omega) (by simp only [List.length_nil]; omega) ⟨fun _ => ⟨rfl, rfl⟩, Zcz _, fun _ => rfl⟩) [1, 0] rfl ⟨rfl, rfl, trivial⟩ rfl fun o ho => ?_
 obtain ⟨ob0, ocap⟩ := o
 rw [show Qbk (l.map (·.c)) ((l.map (·.c)).length + 1) [] i = Qgj (l.map (·.c)) i from rfl] at ho ⊢
 generalize Qgj (l.map (·.c)) i = L0 at *
 refine wX ?_
 refine LoopN.introS CSt (CInv (l.map (·.c)) B) (fun ⟨L, ob, cap⟩ => mkS Tryz.f49.ntmps 0 [(0, .c (.v (.slice a l.length ca))), (5, .c (.v (.slice (at0 ob) L.length cap)))])
  (fun ⟨L, ob, cap⟩ => [.fact (GrF a l), .fact (fun w => SlAt (at0 ob) (L.length * 1) (iC L) w)]) (fun ⟨L, _, _⟩ => L.length) [] rfl (fun _ => rfl) (fun _ => rfl) (fun _ _ => ⟨trivial, trivial, trivial⟩) ?_ ?_
 ·refine ⟨⟨L0, ob0, ocap⟩, ⟨hri, hrl, (fun h => Zez (ho.1 h).1), _, hB.symm, Nat.lt_succ_self _⟩, ?_, [.fact (GrF a l), .fact (fun w => SlAt (at0 ob0) (L0.length * 1) (iC L0) w)], Qkf ⟨.inr (.inl rfl), .inr (.inr ⟨_, rfl, fun w hw => hw.2.1⟩), trivial⟩, Qag _⟩
  exact wKK
 rintro ⟨L, ob, cap⟩ ⟨hLi, hLl, hLn, n, hpe, hn⟩
 obtain ⟨n, rfl⟩ : ∃ m, n = m + 1 := ⟨n - 1, by omega⟩
 have hsome : ∀ {k : Nat} {x : Int}, L[k]? = some x -> (at0 ob).isSome = true := fun {k x} h => by
  cases ob with
  | none => rw [hLn rfl] at h; cases h
  | some b => rfl
 refine wX ?_
 refine LoopN.intro (Nat × BSt) (fun ⟨k, o⟩ => k <= L.length /\ o.ok ((L.take k).filter (Qfb (l.map (·.c)) L)).length) (fun ⟨k, o⟩ => mkS Tryz.f49.ntmps 0 [(0, .c (.v (.slice a l.length ca))), (5, .c (.v (.slice (at0 ob) L.length cap))), (6, .c (.v (.slice (at0 o.ob) ((L.take k).filter (Qfb (l.map (·.c)) L)).length o.cap))), (7, .c (.v (.int .i64 (k : Int))))])
  (fun ⟨k, o⟩ => [.fact (GrF a l), .fact (fun w => SlAt (at0 ob) (L.length * 1) (iC L) w), .app 3 1 (iC ((L.take k).filter (Qfb (l.map (·.c)) L))) (at0 o.ob) ((L.take k).filter (Qfb (l.map (·.c)) L)).length o.cap]) (fun ⟨k, _⟩ => L.length - k) [.app 3 1 [] none 0 0] rfl (fun ⟨_, _⟩ => rfl) (fun ⟨_, _⟩ => rfl) (fun ⟨_, _⟩ _ => Qan rfl) ?_ ?_
 ·refine ⟨(0, ⟨none, 0⟩), ⟨Zkz _, fun _ => ⟨rfl, rfl⟩, Zcz _, fun _ => rfl⟩, ?_, Qaa _, Qaa _, Qaa _, trivial⟩
  exact wKK
 rintro ⟨k, o⟩ ⟨hk, ho2⟩
 refine wX ?_
 refine Qab (fun h1 => ?_) (fun h1 => ?_)
 rotate_left
 ·have hkl : k = L.length := by omega
  subst hkl
  rw [Ztz] at ho2 ⊢
  have hpe2 : (if (L.filter (Qfb (l.map (·.c)) L)).length = L.length then decide (0 < L.length) else Qnc (l.map (·.c)) n (L.filter (Qfb (l.map (·.c)) L))) = B := hpe
  have hsub : ∀ x ∈ L.filter (Qfb (l.map (·.c)) L), x ∈ L := fun x hx => (List.mem_filter.1 hx).1
  have hle : (L.filter (Qfb (l.map (·.c)) L)).length <= L.length := List.length_filter_le _ _
  generalize L.filter (Qfb (l.map (·.c)) L) = S at *
  obtain ⟨ob2, cap2⟩ := o
  refine wX ?_
  refine Qa0 (fun h2 => ?_) (fun h2 => ?_)
  ·rw [if_pos (by omega)] at hpe2
   refine wX ?_
   exact Qac (by rw [<- hpe2, decide_eq_decide]; omega)
  ·rw [if_neg (by omega)] at hpe2
   refine wX ?_
   refine ⟨⟨S, ob2, cap2⟩, ⟨fun x hx => hLi x (hsub x hx), by omega, (fun h => Zez (ho2.1 h).1), n, hpe2, by omega⟩, by show S.length < L.length; omega, ?_, [.fact (GrF a l), .fact (fun w => SlAt (at0 ob2) (S.length * 1) (iC S) w), .dead], Qkf ⟨.inr (.inl rfl), .inr (.inr ⟨_, rfl, fun w hw => hw.2.2.1⟩), .inl rfl, trivial⟩, Qaa _, Qaa _, trivial⟩
   exact wKK
 obtain ⟨x, hx⟩ : ∃ z, L[k]? = some z := ⟨_, Zbz (by omega)⟩
 have hxi := hLi x (Ziz hx)
 obtain ⟨xn, rfl⟩ : ∃ n : Nat, x = (n : Int) := ⟨x.toNat, by have := hxi.1; omega⟩
 have hxl : xn < l.length := by have := hxi.2; simp only [List.length_map] at this; omega
 obtain ⟨p, hp⟩ : ∃ x, l[xn]? = some x := ⟨_, Zbz hxl⟩
 have hpm := Ziz hp
 have hpo := hok p hpm
 have hps := hs.2 p hpm
 have hla := hsome hx
 have hsa : a.isSome = true := by
  cases a with
  | none => rw [ha rfl] at hxl; exact absurd hxl (Nat.not_lt_zero _)
  | some b => rfl
 refine wX ?_
 refine Nd.mk ⟨hla, by omega, by omega⟩ ?_
 refine wX ?_
 refine LdN.one (.int .i64 (xn : Int)) rfl (fun w hw => hw.2.1) (by rw [Zdz]; show (iC L)[k * 1]? = _; rw [Nat.mul_one]; exact Qcb hx) ?_
 refine wX ?_
 refine Nd.mk ⟨hsa, by omega, by omega⟩ ?_
 refine wX ?_
 refine LdN.fld (.slice p.ia p.c.items.length p.ic) rfl (fun w hw => hw.1.1) (by rw [Zdz]; exact Qau l xn 4 (by decide) hp) ?_
 refine wX ?_
 have hld : Qfb (l.map (·.c)) L (xn : Int) = p.c.items.any fun k => decide (k ∈ L) := by unfold Qfb outs; rw [Qgx hp]
 have hfs := Qqu (f := Qfb (l.map (·.c)) L) hx
 rw [hld] at hfs
 have hfl : ((L.take k).filter (Qfb (l.map (·.c)) L)).length <= 3000 := by
  have h1 := List.length_filter_le (Qfb (l.map (·.c)) L) (L.take k)
  rw [List.length_take] at h1
  omega
 refine Qdu Nat (fun q => q <= p.c.items.length) (fun q => mkS Tryz.f49.ntmps 0 [(0, .c (.v (.slice a l.length ca))), (5, .c (.v (.slice (at0 ob) L.length cap))), (6, .c (.v (.slice (at0 o.ob) ((L.take k).filter (Qfb (l.map (·.c)) L)).length o.cap))), (7, .c (.v (.int .i64 (k : Int)))), (8, .c (.v (.bool ((p.c.items.take q).any fun k => decide (k ∈ L))))), (9, .c (.v (.slice p.ia p.c.items.length p.ic))), (10, .c (.v (.int .i64 (q : Int))))]) (fun q => p.c.items.length - q) rfl (fun _ => rfl) 0 (Zkz _) ?_ ?_
 ·exact wKK
 intro q hq
 refine wX ?_
 refine Qab (fun h2 => ?_) (fun h2 => ?_)
 ·obtain ⟨y, hy⟩ : ∃ z, p.c.items[q]? = some z := ⟨_, Zbz (by omega)⟩
  have hxa : p.ia.isSome = true := by
   cases hq : p.ia with
   | none => rw [hpo.ia hq] at hy; cases hy
   | some b => rfl
  have has := Qxh (f := fun k => decide (k ∈ L)) hy
  cases hb : (p.c.items.take q).any fun k => decide (k ∈ L) with
  | true =>
   rw [hb, Bool.true_or] at has
   refine wX ?_
   refine ⟨q + 1, by omega, by omega, ?_, wHH⟩
   (repeat' (first | exact trivial | refine And.intro (by with_reducible rfl) ?_ | (with_reducible exact Qay _) | (with_reducible exact Qaq _) | refine And.intro ?_ ?_))
   all_goals first | rfl | exact Qes (by rw [Qaf (by omega)]; omega) | (rw [has])
  | false =>
   rw [hb, Bool.false_or] at has
   refine wX ?_
   refine Nd.mk ⟨hxa, by omega, by omega⟩ ?_
   refine wX ?_
   refine LdN.one (.int .i64 y) rfl (fun w hw => (hw.1.2 p hpm).2) (by rw [Zdz]; show (iC p.c.items)[q * 1]? = _; rw [Nat.mul_one]; exact Qcb hy) ?_
   refine wX ?_
   refine Qao (Qx1 (at0 ob) cap L y (fun h => hLn (by cases ob with | none => rfl | some b => cases h)) (by omega) _ (fun w hw => hw.2.1)) ?_
   refine wX ?_
   refine ⟨q + 1, by omega, by omega, ?_, wHH⟩
   (repeat' (first | exact trivial | refine And.intro (by with_reducible rfl) ?_ | (with_reducible exact Qay _) | (with_reducible exact Qaq _) | refine And.intro ?_ ?_))
   all_goals first | rfl | exact Qes (by rw [Qaf (by omega)]; omega) | (rw [has])
 have hql : q = p.c.items.length := by omega
 subst hql
 rw [Ztz]
 cases hb : p.c.items.any fun k => decide (k ∈ L) with
 | false =>
  rw [hb, if_neg (by decide)] at hfs
  refine wX ?_
  refine ⟨(k + 1, o), ⟨by omega, by rw [hfs]; exact ho2⟩, by show L.length - (k + 1) < L.length - k; omega, ?_, ?_⟩
  ·(repeat' (first | exact trivial | refine And.intro (by with_reducible rfl) ?_ | (with_reducible exact Qay _) | (with_reducible exact Qaq _) | refine And.intro ?_ ?_))
   all_goals first | rfl | exact Qes (by rw [Qaf (by omega)]; omega) | (rw [hfs])
  ·show wkH _ [_, _, Ent.app _ _ (iC ((L.take (k + 1)).filter _)) _ _ _]
   rw [hfs]
   exact Qag _
 | true =>
  rw [hb, if_pos rfl] at hfs
  refine wX ?_
  refine Nd.mk ⟨hla, by omega, by omega⟩ ?_
  refine wX ?_
  refine LdN.one (.int .i64 (xn : Int)) rfl (fun w hw => hw.2.1) (by rw [Zdz]; show (iC L)[k * 1]? = _; rw [Nat.mul_one]; exact Qcb hx) ?_
  refine wX ?_
  try refine Nd.mk ⟨Zcz 1, rfl, rfl⟩ ?_
  (conv => whnf)
  refine AppN.grow 2 (iC ((L.take k).filter (Qfb (l.map (·.c)) L))) [.int .i64 (xn : Int)] rfl rfl ⟨Zcz 1, ⟨by show (((L.take k).filter (Qfb (l.map (·.c)) L)).length + 1) * 8 <= _; omega, by omega⟩, Nat.one_ne_zero⟩ fun wb wc hwc _ => ?_
  have hcl : iC ((L.take k).filter (Qfb (l.map (·.c)) L)) ++ [.int .i64 (xn : Int)] = iC ((L.take (k + 1)).filter (Qfb (l.map (·.c)) L)) := by rw [hfs]; simp [iC]
  have hll : ((L.take k).filter (Qfb (l.map (·.c)) L)).length + 1 = ((L.take (k + 1)).filter (Qfb (l.map (·.c)) L)).length := by rw [hfs]; simp
  rw [hcl, hll]
  rw [hll] at hwc
  refine wX ?_
  refine ⟨(k + 1, ⟨some wb, wc⟩), ⟨by omega, (fun h => by cases h), hwc, fun h => by have : wc = 0 := h; omega⟩, by show L.length - (k + 1) < L.length - k; omega, ?_, Qaa _, Qaa _, Qaa _, trivial⟩
  exact wKK
end Go.Proofs.YtgogonnnojcioaaGreatDoor
namespace Go.Core
def KnD (g : List Cell) (S : List Int) : Prop := S.length = g.length /\ ∀ (j : Nat) (v : Int), S[j]? = some v -> v = 0 \/ (v = (dep g (j : Int) : Int) /\ 0 < v)
theorem KnD.none (g : List Cell) : KnD g (List.replicate g.length 0) := ⟨by simp, fun j v h => by
 rw [List.getElem?_replicate] at h
 split at h
 ·exact .inl (Zzz h).symm
 ·cases h⟩
theorem KnD.put {g : List Cell} {S : List Int} (h : KnD g S) {i : Nat} (hp : 0 < dep g (i : Int)) : KnD g (S.set i (dep g (i : Int) : Int)) := by
 refine ⟨by rw [List.length_set, h.1], fun j v hj => ?_⟩
 by_cases e : i = j
 ·subst e
  rw [List.getElem?_set] at hj
  simp only [if_true] at hj
  split at hj
  ·cases hj; exact .inr ⟨rfl, by omega⟩
  ·cases hj
 ·rw [Zyz e] at hj
  exact h.2 j v hj
end Go.Core
namespace Go.Proofs.YtgogonnnojcioaaGreatDoor
open Go.AX Go.RowKit Go.Core
set_option maxRecDepth 20000
set_option maxHeartbeats 4000000 in
theorem Qlu {a : Option Addr} (ca : Nat) {l : List Qaj} (ha : a = none -> l = []) (hs : Small l) (hok : ∀ p ∈ l, Qa5 p) (u : Int) :
  ∀ H, (∀ w, Qax H w -> GrF a l w) -> ∃ e : Bool, (e = true ↔ AskP (l.map (·.c)) [u]) /\ SpecH Tryz.prog 28 (pvs [.slice a l.length ca, .int .i64 u]) H (Ret (.tuple #[.bool (e && Qpu (l.map (·.c)) u), errI e]) H) := by
 intro H hH
 obtain ⟨e, he⟩ := Qn1 (l.map (·.c)) [u]
 refine ⟨e, he, ?_⟩
 have hl := hs.1
 refine Qem hm Tryz.func28 (by kernel_rfl) rfl rfl ?_ H hH
 refine wX ?_
 obtain ⟨t, ht1, ht2⟩ := QA7 a ca l ha (by omega) hok u [.fact (GrF a l)] (fun w hw => hw.1)
 obtain rfl : t = e := by rw [Zsz, ht1, he]
 refine Qao ht2 ?_
 cases t with
 | false =>
  refine wX ?_
  rfl
 | true =>
  have hask := he.1 rfl
  have hin := Qds hask.1
  refine wX ?_
  refine Qao (Qqf ca ha hs hok hin u (hask.2 u (by simp)) _ (fun w hw => hw.1)) ?_
  refine wX ?_
  rfl
theorem Qoh {α : Type} {l m : List α} {i : Nat} {x y : α} (h : l.take i = m.take i) (hx : l[i]? = some x) (hy : m[i]? = some y) (e : x = y) : l.take (i + 1) = m.take (i + 1) := by
 rw [List.take_add_one, List.take_add_one, h, hx, hy, e]
end Go.Proofs.YtgogonnnojcioaaGreatDoor
namespace Go.Core
def Qzg (x y : Cell) : Bool := x.kind == y.kind && x.num == y.num && x.text == y.text && decide (x.names = y.names) && decide (x.items = y.items)
theorem Qvv {x y : Cell} : Qzg x y = true ↔ x = y := by
 unfold Qzg
 simp only [ZAz, beq_iff_eq, ZBz]
 constructor
 ·intro ⟨⟨⟨⟨h1, h2⟩, h3⟩, h4⟩, h5⟩
  cases x; cases y
  simp only at h1 h2 h3 h4 h5
  subst h1 h2 h3 h4 h5
  rfl
 ·intro h
  subst h
  exact ⟨⟨⟨⟨rfl, rfl⟩, rfl⟩, rfl⟩, rfl⟩
end Go.Core
namespace Go.Proofs.YtgogonnnojcioaaGreatDoor
open Go.AX Go.RowKit Go.Core
set_option maxRecDepth 20000
theorem Qq2 {r : Bool} {P : Prop} (hr : r = true ↔ P) (h : ¬ P) : false = r := by
 cases r with
 | false => rfl
 | true => exact absurd (hr.1 rfl) h
end Go.Proofs.YtgogonnnojcioaaGreatDoor
namespace Go.Proofs.YtgogonnnojcioaaGreatDoor
open Go.AX Go.RowKit Go.Core
set_option maxRecDepth 20000
set_option maxHeartbeats 1000000 in
theorem Qxp (a b : Option Addr) (ca cb : Nat) (l m : List Qaj) (ha : a = none -> l = []) (hb : b = none -> m = []) (hl : l.length <= 200000000000000) (hol : ∀ p ∈ l, Qa5 p) (hom : ∀ p ∈ m, Qa5 p) (r : Bool) (hr : r = true ↔ l.map (·.c) = m.map (·.c)) :
  ∀ H, (∀ w, Qax H w -> GrF a l w /\ GrF b m w) -> SpecH Tryz.prog 27 (pvs [.slice a l.length ca, .slice b m.length cb]) H (Ret (.bool r) H) := by
 refine Qem hm Tryz.func27 (by kernel_rfl) rfl rfl ?_
 refine wX ?_
 refine Qbb (fun h0 => ?_) (fun h0 => ?_)
 ·refine wX ?_
  exact Qac (Qq2 hr fun e => h0 (by have := congrArg List.length e; simp only [List.length_map] at this; omega))
 have hlen : l.length = m.length := by omega
 refine wX ?_
 refine Qdu Nat (fun i => i <= l.length /\ (l.map (·.c)).take i = (m.map (·.c)).take i) (fun i => mkS Tryz.f27.ntmps 0 [(0, .c (.v (.slice a l.length ca))), (1, .c (.v (.slice b m.length cb))), (5, .c (.v (.int .i64 (i : Int))))]) (fun i => l.length - i) rfl (fun _ => rfl) 0 ⟨Zkz _, rfl⟩ ?_ ?_
 ·exact wKK
 intro i ⟨hi, he⟩
 refine wX ?_
 refine Qab (fun h1 => ?_) (fun h1 => ?_)
 ·obtain ⟨p, hp⟩ : ∃ p, l[i]? = some p := ⟨_, Zbz (by omega)⟩
  obtain ⟨q, hq⟩ : ∃ q, m[i]? = some q := ⟨_, Zbz (by omega)⟩
  have hpc : (l.map (·.c))[i]? = some p.c := by rw [List.getElem?_map, hp]; rfl
  have hqc : (m.map (·.c))[i]? = some q.c := by rw [List.getElem?_map, hq]; rfl
  have hno : p.c ≠ q.c -> ¬ l.map (·.c) = m.map (·.c) := fun h e => h (by
   rw [e] at hpc
   exact Zzz (hpc.symm.trans hqc))
  have hpo := hol p (Ziz hp)
  have hqo := hom q (Ziz hq)
  have hpm := Ziz hp
  have hqm := Ziz hq
  have hil := hpo.il
  have hsa : a.isSome = true := by
   cases a with
   | none => rw [ha rfl] at hp; cases hp
   | some b => rfl
  have hsb : b.isSome = true := by
   cases b with
   | none => rw [hb rfl] at hq; cases hq
   | some b => rfl
  refine wX ?_
  refine Nd.mk ⟨hsa, by omega, by omega⟩ ?_
  refine wX ?_
  refine LdN.agg (Qa2 p) rfl (fun w hw => hw.1.1.1) rfl (fun k hk => by rw [Zdz]; exact Qau l i k hk hp) ?_
  refine wX ?_
  refine Nd.mk ⟨hsb, by omega, by omega⟩ ?_
  refine wX ?_
  refine LdN.agg (Qa2 q) rfl (fun w hw => hw.1.2.1) rfl (fun k hk => by rw [Zdz]; exact Qau m i k hk hq) ?_
  refine wX ?_
  have hal := Qzm p q hpo hqo
  refine Qfd (hal _ ?_) ?_
  ·intro w hw
   exact ⟨hw.1.1.2 p hpm, hw.1.2.2 q hqm⟩
  cases hab : Qgy p.c q.c with
  | false =>
   refine wX ?_
   exact Qac (Qq2 hr (hno fun e => by
    rw [e, Qte] at hab
    cases hab))
  | true =>
  have hal := Qsi hab
  have hil2 := hal.2.2.2.2
  refine wX ?_
  refine Qdu Nat (fun k => k <= p.c.items.length /\ p.c.items.take k = q.c.items.take k) (fun k => mkS Tryz.f27.ntmps 0 [(0, .c (.v (.slice a l.length ca))), (1, .c (.v (.slice b m.length cb))), (5, .c (.v (.int .i64 (i : Int)))), (6, .c (.v (.int .i64 (k : Int))))]) (fun k => p.c.items.length - k) rfl (fun _ => rfl) 0 ⟨Zkz _, rfl⟩ ?_ ?_
  ·exact wKK
  intro k ⟨hk, hke⟩
  refine wX ?_
  refine Nd.mk ⟨hsa, by omega, by omega⟩ ?_
  refine wX ?_
  refine LdN.fld (.slice p.ia p.c.items.length p.ic) rfl (fun w hw => hw.1.1.1) (by rw [Zdz]; exact Qau l i 4 (by decide) hp) ?_
  refine wX ?_
  refine Qab (fun h2 => ?_) (fun h2 => ?_)
  ·obtain ⟨x, hx⟩ : ∃ x, p.c.items[k]? = some x := ⟨_, Zbz (by omega)⟩
   obtain ⟨y, hx2⟩ : ∃ z, q.c.items[k]? = some z := ⟨_, Zbz (by omega)⟩
   have hkq := (Zfz.1 hx2).1
   have hsi : p.ia.isSome = true := by
    cases hna : p.ia with
    | none => rw [hpo.ia hna] at hx; cases hx
    | some b => rfl
   have hsj : q.ia.isSome = true := by
    cases hna : q.ia with
    | none => rw [hqo.ia hna] at hx2; cases hx2
    | some b => rfl
   refine wX ?_
   refine Nd.mk ⟨hsa, by omega, by omega⟩ ?_
   refine wX ?_
   refine LdN.fld (.slice p.ia p.c.items.length p.ic) rfl (fun w hw => hw.1.1.1) (by rw [Zdz]; exact Qau l i 4 (by decide) hp) ?_
   refine wX ?_
   refine Nd.mk ⟨hsi, by omega, by omega⟩ ?_
   refine wX ?_
   refine LdN.one (.int .i64 x) rfl (fun w hw => (hw.1.1.2 p hpm).2) (by rw [Zdz]; show (iC p.c.items)[k * 1]? = _; rw [Nat.mul_one]; exact Qcb hx) ?_
   refine wX ?_
   refine Nd.mk ⟨hsb, by omega, by omega⟩ ?_
   refine wX ?_
   refine LdN.fld (.slice q.ia q.c.items.length q.ic) rfl (fun w hw => hw.1.2.1) (by rw [Zdz]; exact Qau m i 4 (by decide) hq) ?_
   refine wX ?_
   refine Nd.mk ⟨hsj, by omega, by omega⟩ ?_
   refine wX ?_
   refine LdN.one (.int .i64 y) rfl (fun w hw => (hw.1.2.2 q hqm).2) (by rw [Zdz]; show (iC q.c.items)[k * 1]? = _; rw [Nat.mul_one]; exact Qcb hx2) ?_
   refine wX ?_
   refine Qbb (fun h => ?_) (fun h => ?_)
   ·refine wX ?_
    exact Qac (Qq2 hr (hno fun e => h (by
     rw [e] at hx
     exact Zzz (hx.symm.trans hx2))))
   refine wX ?_
   refine ⟨k + 1, ⟨by omega, Qoh hke hx hx2 h⟩, by omega, ?_, wHH⟩
   exact wKK
  ·obtain rfl : k = p.c.items.length := by omega
   rw [Ztz, hil2, Ztz] at hke
   have hpq : p.c = q.c := Qvv.1 (by
    unfold Qzg
    rw [hal.1, hal.2.1, hal.2.2.1, hal.2.2.2.1, hke]
    simp)
   refine wX ?_
   refine ⟨i + 1, ⟨by omega, Qoh he hpc hqc hpq⟩, by omega, ?_, wHH⟩
   exact wKK
 ·obtain rfl : i = l.length := by omega
  rw [Zpz (by simp), Zpz (by simp; omega)] at he
  refine wX ?_
  exact Qac (hr.2 he).symm
end Go.Proofs.YtgogonnnojcioaaGreatDoor
namespace Go.Marshal
open Go.Core
theorem Qvg : ∀ (hs : B) (st : PS), Le 0 st (Qej hs st)
 | [], st => Le.refl st
 | h :: hs, st => by
  have h1 : Le 0 st (if (Qad st).1 ≠ h then Qam (Qad st).2 4 else (Qad st).2) := by
   split
   ·exact (Qdd st).trans (Qcj _ 4)
   ·exact Qdd st
  exact h1.trans (Qvg hs _)
theorem Qx7 : ∀ (hs : B) (st : PS), (Qej hs st).g = st.g
 | [], st => rfl
 | h :: hs, st => by
  have h1 : (if (Qad st).1 ≠ h then Qam (Qad st).2 4 else (Qad st).2).g = st.g := by
   split
   ·rw [Qha, Qk3]
   ·rw [Qk3]
  show (Qej hs _).g = _
  rw [Qx7 hs _, h1]
theorem Qu5 {s : B} {g : List Cell} {ss : List B} (h : Qca s = .ok (g, ss)) : g.length <= 500 /\ ss.length <= 30000 /\ ∀ c ∈ g, c.names.length <= 30001 /\ c.items.length <= 30001 := by
 by_cases hs : s.length <= 20000
 ·obtain ⟨_, h2, h3⟩ := (Qnm hs).1 _ h
  have h3 : (Qhl s).ss = ss := h3
  have h2 : (Qhl s).g = g := h2
  have b0 : Bd ⟨s, [], [], [], 0⟩ := ⟨Zkz _, Zcz _, by show 0 + s.length <= _; omega⟩
  have b1 := b0.le (Qvg headB ⟨s, [], [], [], 0⟩)
  have b2 := b1.le ((Qdo (s.length + 1)).le (Qej headB ⟨s, [], [], [], 0⟩))
  have hw := Qqz (s.length + 1) _ b1 (by unfold Wd; rw [Qx7]; intro c hc; cases hc)
  have hg : (Qhl s).g = (Qav (s.length + 1) (Qej headB ⟨s, [], [], [], 0⟩)).2.g := by
   unfold Qhl Qgu endM
   split <;> split <;> first | rfl | exact Qha _ _
  have hq : (Qhl s).ss = (Qav (s.length + 1) (Qej headB ⟨s, [], [], [], 0⟩)).2.ss := by
   have hf : ∀ (a : PS) (e : Int), (Qam a e).ss = a.ss := fun a e => by unfold Qam; split <;> rfl
   unfold Qhl Qgu endM
   split <;> split <;> first | rfl | exact hf _ _
  rw [<- h2, <- h3, hg, hq]
  exact ⟨b2.g, by have := b2.pot; omega, hw⟩
 ·unfold Qca at h
  rw [if_pos (by omega)] at h
  cases h
def gR (R : Except Int (List Cell × List B)) : List Cell := match R with
 | .ok p => p.1
 | .error _ => []
end Go.Marshal
namespace Go.Proofs.YtgogonnnojcioaaGreatDoor
open Go.AX Go.RowKit Go.Core Go.Marshal
set_option maxRecDepth 20000
theorem LoadR.uni {R : Except Int (List Cell × List (List UInt8))} {v : Value} {G : World -> Prop} (h : LoadR R v G) : ∃ (a : Option Addr) (c : Nat) (m : List Qaj), v = .tuple #[.slice a m.length c, .int .i64 (errS R)] /\ m.map (·.c) = gR R /\ (a = none -> m = []) /\ (∀ q ∈ m, Qa5 q) /\ ∀ w, G w -> GrF a m w := by
 cases R with
 | error e => exact ⟨none, 0, [], h, rfl, fun _ => rfl, (fun q hq => by cases hq), fun w _ => ⟨Qet w, fun q hq => by cases hq⟩⟩
 | ok p =>
  obtain ⟨g, ss⟩ := p
  obtain ⟨v1, rfl, a, c, m, rfl, h2, h3, h4, h5⟩ := h
  exact ⟨a, c, m, rfl, h2, h3, h4, h5⟩
end Go.Proofs.YtgogonnnojcioaaGreatDoor
namespace Go.Marshal
open Go.Core
structure Tiny (g : List Cell) : Prop where
 valid : Qbe g
 len : g.length <= 12
 cell : ∀ c ∈ g, c.items.length <= 4 /\ c.names.length <= 2 /\ c.text.length <= 2
theorem Tiny.dmp {g : List Cell} (h : Tiny g) {k : Int} (hk : InI g k) : Dmp g 60 k :=
 ⟨h.valid, fun c hc => by have := h.cell c hc; omega, hk⟩
theorem Tiny.dump_len {g : List Cell} (h : Tiny g) {k : Int} (hk : InI g k) : (Qdg g k).length <= 5000 /\ 3 <= (Qdg g k).length := by
 have hd := h.dmp hk
 have hin := Qds h.valid
 have h4 := Qka hin hd.cellW (by decide) (g.length + 1) ⟨headB, [], []⟩ k hk hd.few
 have h5 : wgt iN g [] <= g.length * 6 := Qrc (fun i hi => by
  have := h.cell _ (Qhd hi)
  unfold iN
  omega) []
 have h6 := h.len
 have h7 : (Qdg g k).length + 60 * wgt iN g (Qae g (g.length + 1) ⟨headB, [], []⟩ k).cells <= 3 + 60 * wgt iN g [] + 60 := h4
 obtain ⟨b, e, hb⟩ := Qja h.valid.1 hin hd.cellW (g.length + 1) ⟨headB, [], []⟩ k hk ⟨List.nodup_nil, (fun _ h => by cases h), fun _ h => by cases h⟩ (Nat.lt_succ_of_le (Qf2 g [])) hd.few
 have e2 : Qdg g k = headB ++ b := e
 refine ⟨by omega, ?_⟩
 rw [e2, Zhz]
 show 3 <= 3 + _
 omega
theorem Tiny.load {g : List Cell} (h : Tiny g) {k : Int} (hk : InI g k) :
  ∃ (q : List Cell) (org cs : List Int), Qca (Qdg g k) = .ok (q, (Qhs g k).ss) /\ Img g q k org /\ q.length <= 1 + wgt iT g [] /\ (∀ i, i ∈ cs ↔ InI q i /\ Qdk (Core.at_ q i)) /\ cs.Nodup /\ cs.map (lk org) = (Qhs g k).cells := by
 have hd := h.dmp hk
 have h5 : wgt iT g [] <= g.length * 4 := Qrc (fun i hi => by
  have := h.cell _ (Qhd hi)
  unfold iT
  omega) []
 have h6 := h.len
 rcases Qu6 hd with ⟨h1, _⟩ | ⟨h1, _⟩ | h1
 ·have := (h.dump_len hk).1
  omega
 ·omega
 ·obtain ⟨q, org, cs, e, hi, hl, hr⟩ := h1
  have hv : Qbe q := Qoe h.valid hi (by omega)
  rw [if_pos hv] at e
  exact ⟨q, org, cs, e, hi, hl, hr⟩
end Go.Marshal
namespace Go.Proofs.YtgogonnnojcioaaGreatDoor
open Go.AX Go.RowKit Go.Core Go.Marshal
set_option maxRecDepth 20000
theorem QBc {a : Option Addr} (ca : Nat) {l : List Qaj} (ha : a = none -> l = []) (hs : Small l) (hok : ∀ p ∈ l, Qa5 p) (u : Int) :
  ∃ e : Bool, (e = true ↔ AskP (l.map (·.c)) [u]) /\ SpecF Tryz.prog 25 [.slice a l.length ca, .int .i64 u] (GrF a l) (LoadR (if e then Qca (Qdg (l.map (·.c)) u) else .error 1)) := by
 obtain ⟨e, he, hes⟩ := Qyh ca ha hs hok u
 refine ⟨e, he, ?_⟩
 refine Qm2 hm Tryz.func25 (by kernel_rfl) rfl rfl ?_
 cases e with
 | true =>
  refine wX ?_
  refine Qao (hes _ (fun w hw => hw.1)) ?_
  ((conv => whnf); (repeat ((first | refine VrN.keep ?_ | refine BoxN.own ?_ | refine RwN.own ?_); (conv => whnf))))
  refine SpecF.call (QBa (Qdg (l.map (·.c)) u)) (fun w _ => trivial) fun v G hR => ?_
  rw [show (if true = true then Qca (Qdg (l.map (·.c)) u) else .error 1) = Qca (Qdg (l.map (·.c)) u) from rfl]
  generalize Qca (Qdg (l.map (·.c)) u) = r at hR ⊢
  cases r with
  | error e =>
   have hR : v = .tuple #[.slice none 0 0, .int .i64 e] := hR
   subst hR
   refine wX ?_
   exact Ql0 rfl
  | ok p =>
   obtain ⟨g, ss⟩ := p
   obtain ⟨v1, rfl, hg⟩ : ∃ v1, v = .tuple #[v1, .int .i64 0] /\ Qwc g v1 G := hR
   obtain ⟨a2, c2, m, rfl, h1, h2, h3, h4⟩ := hg
   refine wX ?_
   exact Qfc G ⟨_, rfl, a2, c2, m, rfl, h1, h2, h3, h4⟩ (fun w hw => hw.2.1)
 | false =>
  refine wX ?_
  refine Qao (hes _ (fun w hw => hw.1)) ?_
  refine wX ?_
  exact Ql0 rfl
theorem Qzs {a : Option Addr} (ca : Nat) {l : List Qaj} (ha : a = none -> l = []) (hs : Small l) (hok : ∀ p ∈ l, Qa5 p) (u : Int) :
  ∃ e : Bool, (e = true ↔ AskP (l.map (·.c)) [u]) /\ SpecF Tryz.prog 26 [.slice a l.length ca, .int .i64 u] (GrF a l) (LoadR (if e then Qca (Qdg (l.map (·.c)) u) else .error 1)) := by
 obtain ⟨e, he, hes⟩ := Qzq ca ha hs hok u
 refine ⟨e, he, ?_⟩
 refine Qm2 hm Tryz.func26 (by kernel_rfl) rfl rfl ?_
 cases e with
 | true =>
  refine wX ?_
  refine Qao (hes _ (fun w hw => hw.1)) ?_
  ((conv => whnf); (repeat ((first | refine VrN.keep ?_ | refine BoxN.own ?_ | refine RwN.own ?_); (conv => whnf))))
  refine SpecF.call (Qzp (Qdg (l.map (·.c)) u)) (fun w _ => trivial) fun v G hR => ?_
  rw [show (if true = true then Qca (Qdg (l.map (·.c)) u) else .error 1) = Qca (Qdg (l.map (·.c)) u) from rfl]
  generalize Qca (Qdg (l.map (·.c)) u) = r at hR ⊢
  cases r with
  | error e =>
   have hR : v = .tuple #[.slice none 0 0, .int .i64 e] := hR
   subst hR
   refine wX ?_
   exact Ql0 rfl
  | ok p =>
   obtain ⟨g, ss⟩ := p
   obtain ⟨v1, rfl, hg⟩ : ∃ v1, v = .tuple #[v1, .int .i64 0] /\ Qwc g v1 G := hR
   obtain ⟨a2, c2, m, rfl, h1, h2, h3, h4⟩ := hg
   refine wX ?_
   exact Qfc G ⟨_, rfl, a2, c2, m, rfl, h1, h2, h3, h4⟩ (fun w hw => hw.2.1)
 | false =>
  refine wX ?_
  refine Qao (hes _ (fun w hw => hw.1)) ?_
  refine wX ?_
  exact Ql0 rfl
end Go.Proofs.YtgogonnnojcioaaGreatDoor
namespace Go.Proofs.YtgogonnnojcioaaGreatDoor
open Go.AX Go.RowKit Go.Core
set_option maxRecDepth 20000
end Go.Proofs.YtgogonnnojcioaaGreatDoor
namespace Go.AX
theorem QAr {P : Program} (hm : P.follows .mixedOrders = true) {f : FuncId} {fn : Func} {c : Code} (hf : P.funcs[f]? = some fn) (hn : (fn.name == "runtime.NumGoroutine") = false) (hb : fn.body = some c)
  {xs : List Value} (hl : Nat.ble (pvs xs).length fn.ntmps = true) {F : World -> Prop} {r : Value} (h : Qhq fn.ntmps (pvs xs) fun s => Qi5 P c s [.fact F] (endK P fn.results.toList fun out _ => out = .val (.c (.v r)))) (H : List Ent) (hF : ∀ w, Qax H w -> F w) : SpecH P f (pvs xs) H (Ret r H) :=
 SpecF.call0 (R := fun v _ => v = r) (Qfs ((Qfr hm hf hn hb hl h).mono fun out H' ho => by subst ho; exact Ql0 rfl)) hF fun v G hv => by subst hv; exact ⟨rfl, rfl⟩
end Go.AX
namespace Go.Proofs.YtgogonnnojcioaaGreatDoor
open Go.AX Go.RowKit Go.Core Go.Marshal
set_option maxRecDepth 20000
theorem Qve {g q : List Cell} {k : Int} {org : List Int} (hg : ∀ c ∈ g, c.items.length <= 4 /\ c.names.length <= 2 /\ c.text.length <= 2) (h : Img g q k org) : ∀ c ∈ q, c.items.length <= 4 /\ c.names.length <= 2 := by
 intro c hc
 obtain ⟨j, hj⟩ := List.getElem?_of_mem hc
 have hin : InI q (j : Int) := ⟨by omega, by have := (Zfz.1 hj).1; omega⟩
 have h1 := h.cell (j : Int) hin
 rw [Qv1 hj] at h1
 have h2 := hg _ (Qhd (h.inI (j : Int) hin))
 rw [h1] at h2
 exact ⟨by have := h2.1; simpa [Qst] using this, h2.2.1⟩
set_option maxHeartbeats 4000000 in
theorem Qn7 (a : Option Addr) (ca : Nat) (L : List Int) (ha : a = none -> L = []) (hl : L.length <= 200000000000000) (u : Int) : ∀ H, (∀ w, Qax H w -> SlAt a (L.length * 1) (iC L) w) -> SpecH Tryz.prog 8 (pvs [.slice a L.length ca, .int .i64 u]) H (Ret (.bool true) H) := by
 refine QAr hm Tryz.func8 (by kernel_rfl) rfl rfl ?_
 refine SeqN.plain ?_
 refine wX ?_
 refine SeqN.plain ?_
 ((conv => whnf); (repeat ((first | refine VrN.keep ?_ | refine BoxN.own ?_ | refine RwN.own ?_); (conv => whnf))))
 refine SpecF.call (Qzt a ca L ha hl) (fun w hw => hw.1) fun v G hR => ?_
 obtain ⟨oa, oc, m, rfl, hoa, hok, hs, hv, ⟨hl12, hsm⟩, hG⟩ := hR
 refine wX ?_
 refine SeqN.plain ?_
 refine wX ?_
 refine SeqN.join Int (fun _ => True) (fun k => mkS Tryz.f8.ntmps 0 [(5, .c (.v (.slice oa m.length oc))), (6, .c (.v (.int .i64 k)))])
  (fun _ => [.fact (SlAt a (L.length * 1) (iC L)), .fact G]) (fun _ _ => Zcz _) (fun _ _ => rfl) (fun _ _ => Qan rfl) ?_ ?_
 ·refine SeqN.plain ?_
  refine wX ?_
  by_cases hm0 : 0 < m.length
  ·rw [show decide ((m.length : Int) > 0) = true by rw [decide_eq_true_iff]; omega]
   refine wX ?_
   refine Qbb (fun h3 => ?_) (fun h3 => ?_)
   ·refine wX ?_
    refine Nd.mk (by rw [Qdr (by omega)]; omega) ?_
    refine wX ?_
    exact ⟨_, trivial, by (repeat' (first | exact trivial | refine And.intro (by with_reducible rfl) ?_ | (with_reducible exact Qay _) | (with_reducible exact Qaq _) | refine And.intro ?_ ?_)), wHH⟩
   ·refine wX ?_
    exact ⟨_, trivial, by (repeat' (first | exact trivial | refine And.intro (by with_reducible rfl) ?_ | (with_reducible exact Qay _) | (with_reducible exact Qaq _) | refine And.intro ?_ ?_)), wHH⟩
  ·rw [show decide ((m.length : Int) > 0) = false by rw [decide_eq_false_iff_not]; omega]
   refine wX ?_
   exact ⟨_, trivial, by (repeat' (first | exact trivial | refine And.intro (by with_reducible rfl) ?_ | (with_reducible exact Qay _) | (with_reducible exact Qaq _) | refine And.intro ?_ ?_)), wHH⟩
 rintro k -
 obtain ⟨e, he, hes⟩ := QBc oc hoa hs hok k
 refine SeqN.plain ?_
 ((conv => whnf); (repeat ((first | refine VrN.keep ?_ | refine BoxN.own ?_ | refine RwN.own ?_); (conv => whnf))))
 refine SpecF.call hes (fun w hw => hG w hw.2.1) fun v1 G1 hR1 => ?_
 obtain ⟨R, hRe⟩ : ∃ R, (if e = true then Qca (Qdg (m.map (·.c)) k) else .error 1) = R := ⟨_, rfl⟩
 rw [hRe] at hR1
 obtain ⟨a1, c1, m1, rfl, hm1, ha1, hk1, hG1⟩ := hR1.uni
 refine wX ?_
 refine SeqN.plain ?_
 ((conv => whnf); (repeat ((first | refine VrN.keep ?_ | refine BoxN.own ?_ | refine RwN.own ?_); (conv => whnf))))
 refine SpecF.call (as_m oa oc m hoa hs.wide hok) (fun w hw => hG w hw.2.1) fun v2 G2 hR2 => ?_
 obtain ⟨pa, pc, m2, rfl, hpa, hmc, hmo, hG2⟩ := hR2
 have hms : Small m2 := Qm3 hs hmc
 obtain ⟨e2, he2, hes2⟩ := Qzs pc hpa hms hmo k
 rw [hmc] at he2 hes2
 have hee : e2 = e := by rw [Zsz, he, he2]
 subst hee
 rw [hRe] at hes2
 ((conv => whnf); (repeat ((first | refine VrN.keep ?_ | refine BoxN.own ?_ | refine RwN.own ?_); (conv => whnf))))
 refine SpecF.call hes2 (fun w hw => hG2 w hw.2.2.2.1) fun v3 G3 hR3 => ?_
 obtain ⟨a3, c3, m3, rfl, hm3, ha3, hk3, hG3⟩ := hR3.uni
 have hwide : m1.length <= 500 /\ ∀ p ∈ m1, p.c.names.length <= 30001 /\ p.c.items.length <= 30001 := by
  have h : (gR R).length <= 500 /\ ∀ c ∈ gR R, c.names.length <= 30001 /\ c.items.length <= 30001 := by
   cases e2 with
   | false => rw [<- hRe]; exact ⟨Zkz _, fun c hc => by cases hc⟩
   | true =>
    have hRe : Qca (Qdg (m.map (·.c)) k) = R := hRe
    cases hl : R with
    | error e => exact ⟨Zkz _, fun c hc => by cases hc⟩
    | ok p =>
     rw [hl] at hRe
     have h := Qu5 (g := p.1) (ss := p.2) hRe
     exact ⟨h.1, h.2.2⟩
  rw [<- hm1, List.length_map] at h
  exact ⟨h.1, fun p hp => h.2 p.c (Zoz.2 ⟨p, hp, rfl⟩)⟩
 refine wX ?_
 refine SeqN.plain ?_
 refine SeqN.plain ?_
 refine wX ?_
 rw [show (errS R != errS R) = false by simp]
 refine wX ?_
 refine SpecF.call (as_m a1 c1 m1 ha1 ⟨by omega, fun p hp => by have := hwide.2 p hp; omega⟩ hk1) (fun w hw => hG1 w hw.2.2.1) fun v5 G5 hR5 => ?_
 obtain ⟨a5, c5, m5, rfl, ha5, hm5, hk5, hG5⟩ := hR5
 have hl5 : m5.length <= 500 := by
  have := congrArg List.length hm5
  simp only [List.length_map] at this
  omega
 refine wX ?_
 refine Qao (Qxp a5 a3 c5 c3 m5 m3 ha5 ha3 (by omega) hk5 hk3 true ⟨fun _ => by rw [hm5, hm1, hm3], fun _ => rfl⟩ _ (fun w hw => ⟨hG5 w hw.2.2.2.2.2.1, hG3 w hw.2.2.2.2.1⟩)) ?_
 refine wX ?_
 refine SeqN.plain ?_
 refine SeqN.plain ?_
 refine wX ?_
 refine Qbb (fun h7 => ?_) (fun h7 => ?_)
 ·refine wX ?_
  refine SeqN.plain ?_
  refine wX ?_
  refine Qao (Qxy _) ?_
  exact wZ
 cases e2 with
 | false =>
  have hRe : (Except.error 1 : Except Int (List Cell × List (List UInt8))) = R := hRe
  subst hRe
  exact absurd h7 (by decide)
 | true =>
 have hask := he2.1 rfl
 have hkin : InI (m.map (·.c)) k := hask.2 k (Zgz.2 rfl)
 have hm0 : m ≠ [] := fun h => by
  subst h
  have h1 := hkin.1
  have h2 : k < 0 := hkin.2
  omega
 have hvm : Qbe (m.map (·.c)) := hv.resolve_left hm0
 have tiny : Tiny (m.map (·.c)) := ⟨hvm, by rw [List.length_map]; exact hl12, fun c hc => by
  obtain ⟨q, hq, rfl⟩ := Zoz.1 hc
  exact hsm q hq⟩
 obtain ⟨q, org, cs, hload, himg, hql, -⟩ := tiny.load hkin
 have hRe : Qca (Qdg (m.map (·.c)) k) = R := hRe
 rw [hload] at hRe
 subst hRe
 have hm1 : m1.map (·.c) = q := hm1
 have hvq : Qbe q := Qoe hvm himg (by rw [<- hm1, List.length_map]; exact hwide.1)
 have hsq : Small m1 := ⟨by omega, fun p hp => by
  have := Qve (tiny.cell) himg p.c (by rw [<- hm1]; exact Zoz.2 ⟨p, hp, rfl⟩)
  omega⟩
 have h0q : AskP q [0] := ⟨hvq, fun x hx => by obtain rfl := Zgz.1 hx; exact himg.root.1⟩
 have hcc : Qpu (m.map (·.c)) k = Qpu q 0 := Qw2 (Qds hvm) himg (Nat.lt_succ_self _) (Nat.lt_succ_self _)
 refine wX ?_
 refine SeqN.plain ?_
 ((conv => whnf); (repeat ((first | refine VrN.keep ?_ | refine BoxN.own ?_ | refine RwN.own ?_); (conv => whnf))))
 refine SpecF.call (as_m oa oc m hoa hs.wide hok) (fun w hw => hG w hw.2.1) fun v6 G6 hR6 => ?_
 obtain ⟨qa, qc, m6, rfl, hqa, hm6, hk6, hG6⟩ := hR6
 have hs6 : Small m6 := Qm3 hs hm6
 refine wX ?_
 obtain ⟨e6, he6, hes6⟩ := Qlu qc hqa hs6 hk6 k [.fact (SlAt a (L.length * 1) (iC L)), .fact G, .fact G1, .fact G2, .fact G3, .fact G5, .fact G6] (fun w hw => hG6 w hw.2.2.2.2.2.2.1)
 rw [hm6] at he6 hes6
 obtain rfl : e6 = true := he6.2 hask
 refine Qao hes6 ?_
 refine wX ?_
 refine SeqN.plain ?_
 ((conv => whnf); (repeat ((first | refine VrN.keep ?_ | refine BoxN.own ?_ | refine RwN.own ?_); (conv => whnf))))
 refine SpecF.call (as_m a1 c1 m1 ha1 ⟨by omega, fun p hp => by have := hwide.2 p hp; omega⟩ hk1) (fun w hw => hG1 w hw.2.2.1) fun v8 G8 hR8 => ?_
 obtain ⟨a8, c8, m8, rfl, ha8, hm8, hk8, hG8⟩ := hR8
 have hs8 : Small m8 := Qm3 hsq hm8
 obtain ⟨e8, he8, hes8⟩ := Qlu c8 ha8 hs8 hk8 0 [.fact (SlAt a (L.length * 1) (iC L)), .fact G, .fact G1, .fact G2, .fact G3, .fact G5, .fact G6, .fact G8] (fun w hw => hG8 w hw.2.2.2.2.2.2.2.1)
 rw [hm8, hm1] at he8 hes8
 obtain rfl : e8 = true := he8.2 h0q
 refine Qao hes8 ?_
 rw [hcc]
 refine wX ?_
 refine SeqN.plain ?_
 refine wX ?_
 rw [show ((true && Qpu q 0) == (true && Qpu q 0)) = true by simp]
 refine wX ?_
 refine Qao (Qxy _) ?_
 exact wZ
open Go.ChangeShapes Go.WideShapes Go.ChangeAt
set_option maxRecDepth 100000
namespace MarshalDeep
theorem own : ownKnob Tryz.prog.godebug = none := own0
theorem walk {H : Type} {enc : TypeId × Value -> H} (W : World) (base : Nat) (args : Array Value) (ds : List (DataW H)) (p : List MemPlace) (k : Known enc Tryz.prog Tryz.f8 W base args ds p) (_hL : laidMetH Tryz.prog Qsy W) : Walk Tryz.prog 8 args W := by
 obtain ⟨u, v, rfl⟩ := arr2 (Qhh k.trod).2
 obtain ⟨i, rfl⟩ := okWide_int Tryz.underlying3 (k.val 1 _ v rfl rfl)
 obtain ⟨a, l, cap, rfl, ⟨_hq, ha, hs⟩, _, _⟩ := k.low.ints (e := 3) (i := .i64) 0 rfl rfl (by kernel_rfl) (by kernel_rfl) (by kernel_rfl) (by decide +kernel)
 have nil_of : ∀ {a : Option Addr} {l : List Int}, a.isSome = true \/ l.length = 0 -> a = none -> l = [] := fun {a l} h e => by
  rcases h with h | h
  ·rw [e] at h; cases h
  ·exact Zez h
 exact QBe [.fact (SlAt a (l.length * 1) (iC l))] (fun _ he => ⟨_, Zgz.1 he, by rw [Nat.mul_one]; exact hs⟩) (Qn7 a cap l (nil_of ha) _hq i _ fun w hw => hw.1)
theorem lifted (os : Os) (started : os.Started) (H : Type) (enc : TypeId × Value -> H) :
  ReturnsInHanded {} Tryz.checked os 8 .any (fun w args => (Rows.marshalDeepSpec.pre enc Tryz.prog Tryz.f8 [] false w args /\ laidMetH Tryz.prog Qsy w) /\ sizedMet enc Tryz.prog Tryz.f8 (OpenSpec.ofChange Rows.marshalDeepSpec) false w args) (Rows.marshalDeepSpec.post enc Tryz.prog Tryz.f8 false true false false) := by
 refine QBl (C := Tryz.checked) own started (by kernel_rfl) Tryz.func8
  (ChangeSpec.witness_shaped (enc := enc) (C := Tryz.checked) (os := os) (X := fun w _ => laidMetH Tryz.prog Qsy w) false (World.laidAll Tryz.prog os Qsy) #[.slice none 0 0, .int .i64 0] 8 (World.laidAll_os _ _ _) (World.shaped_of_ZipB (by kernel_rfl) (by kernel_rfl)) (by kernel_rfl) (by kernel_rfl) (by kernel_rfl) (Qxa os _))
  Qy3 rfl (t := _) rfl (by kernel_rfl) (by kernel_rfl) ?_ walk
 intro ds hd
 match ds, hd with
 | [d0, d1], _ => rfl
theorem over : Rows.marshalDeepRow.holds Tryz.pinned (OpenSpec.ofChange Rows.marshalDeepSpec) :=
 OpenClaim.holds_of_wide 8 Tryz.f8 rfl rfl rfl rfl rfl rfl rfl ⟨rfl, rfl, rfl, rfl, rfl⟩ rfl rfl rfl rfl rfl (by kernel_rfl) Tryz.func8 (by kernel_rfl)
  (of_decide_eq_true (by kernel_rfl)) (by unfold Func.isWrapper; first | (rw [if_pos (by decide +kernel)]; kernel_rfl) | (rw [if_neg (by decide +kernel)]; exact ⟨rfl, rfl⟩))
  (fun os started H enc _ => lifted os started H enc)
theorem proved : Rows.MarshalDeepCardSaid :=
 Claim7.holds_tied_plain_at .later [] [.data, .pinned] true (true, "92e2ed60dd5b2613fe6e0d172a7e2bd0782f276a49ab098c444f4227433a6c5a") false
  over (fun _ h => by cases h) (by kernel_rfl) (fun _ h => by cases h) marshalDeep_row_tie rfl ⟨rfl, rfl⟩ (by kernel_rfl) rfl
  (fun f fn hf hfn => by
   obtain rfl : f = 8 := Zzz ((show Tryz.prog.funcNamed "cabochon/cabochonlaw29.MarshalDeep" = some 8 by kernel_rfl).symm.trans hf) |>.symm
   obtain rfl : fn = Tryz.f8 := (Zzz (Tryz.func8.symm.trans hfn)).symm
   exact ⟨by kernel_rfl, fun j t ht => by
    have hm : t ∈ Tryz.f8.params.toList := by simpa using Array.mem_of_getElem? ht
    have hall : (Tryz.f8.params.toList.all fun u => !Tryz.prog.wantsStandIn u) = true := by kernel_rfl
    exact (show Tryz.prog.wantsStandIn t = false by simpa using Zqz.1 hall t hm)⟩)
  (by kernel_rfl)
#print axioms proved
end MarshalDeep
end Go.Proofs.YtgogonnnojcioaaGreatDoor
