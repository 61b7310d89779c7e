/-
  CoreOrderCardSaid is proved: of every three cells of a grown graph CoreOrder returns true and leaves its argument as it was; the listed tables are tied to the program's text.
-/
import Derived.Test.YtahjbnfbilkbcaaGreatDoorCards
import Derived.Test.YtahjbnfbilkbcaaGreatDoorTie
import Derived.Test.YtahjbnfbilkbcaaGreatDoorOrd9
/-
  Contract: Compare (program).
-/
namespace Go.Core
/-- What Compare finds. -/
def cmpB (g : List Cell) (p : Int × Int) : Int × Int := (cmpF 3 10 g (g.length * g.length + 1) [] [] p).1
theorem valid_kind {g : List Cell} (h : ValidP g) : KindOk g := fun c hc => cellD_kind (h.2.1 c hc)
end Go.Core
namespace Go.Proofs.YtahjbnfbilkbcaaGreatDoor
open Go.AX Go.RowKit Go.Core
set_option maxRecDepth 20000

/-- The values that Compare tells. -/
def cmpV (e : Bool) (g : List Cell) (u v : Int) : Value := .tuple #[.int .i64 (if e then (cmpB g (u, v)).1 else 0), .int .i64 (if e then (cmpB g (u, v)).2 else 1)]
set_option maxHeartbeats 4000000 in
theorem Compare_c {a : Option Addr} (ca : Nat) {l : List CellP} (ha : a = none → l = []) (hs : Small l) (hok : ∀ p ∈ l, CellOk p) (u v : Int) :
    ∀ H, (∀ w, Facts H w → GrF a l w) → ∃ e : Bool, (e = true ↔ AskP (l.map (·.c)) [u, v]) ∧ SpecH Tryz.prog 31 (pvs [.slice a l.length ca, .int .i64 u, .int .i64 v]) H (Ret (cmpV e (l.map (·.c)) u v) H) := by
  intro H hH
  obtain ⟨e, he⟩ := ask_bool (l.map (·.c)) [u, v]
  refine ⟨e, he, ?_⟩
  refine factC hm Tryz.func31 (by kernel_rfl) rfl rfl ?_ H hH
  (conv => whnf)
  refine BoxN.known [.slice a l.length ca] rfl fun gb => ?_
  ((conv => whnf); (repeat ((first | refine VrN.keep ?_ | refine BoxN.own ?_ | refine RwN.own ?_); (conv => whnf))))
  refine LdN.one (a := some ⟨gb, 0, none⟩) (q := 0) (.slice a l.length ca) rfl (fun w hw => hw.2.1) rfl ?_
  ((conv => whnf); (repeat ((first | refine BoxN.own ?_ | refine VrN.norm (wrap_i64 (by omega)) ?_ | refine VrN.keep ?_ | refine DrawN.calm (by decide +kernel) ?_ | refine Nd.mk (by decide +kernel) ?_ | refine Nd.mk (by omega) ?_ | (refine Nd.mk ?_ ?_; focus ((repeat' (first | exact trivial | exact wkE_refl _ | refine And.intro ?_ ?_)); done)) | refine RdN.intro _ rfl (by rfl) ?_); (conv => whnf))))
  refine RwN.known [.int .i64 u, .int .i64 v] rfl fun rb => ?_
  ((conv => whnf); (repeat ((first | refine BoxN.own ?_ | refine VrN.norm (wrap_i64 (by omega)) ?_ | refine VrN.keep ?_ | refine DrawN.calm (by decide +kernel) ?_ | refine Nd.mk (by decide +kernel) ?_ | refine Nd.mk (by omega) ?_ | (refine Nd.mk ?_ ?_; focus ((repeat' (first | exact trivial | exact wkE_refl _ | refine And.intro ?_ ?_)); done)) | refine RdN.intro _ rfl (by rfl) ?_); (conv => whnf))))
  obtain ⟨t, ht1, ht2⟩ := asked_c a ca l ha hs hok (some ⟨rb, 0, none⟩) 2 [u, v] (fun h => by cases h) (by simp) [.fact (GrF a l), .app 22 1 [.slice a l.length ca] (some ⟨gb, 0, none⟩) 1 1, .app 3 1 [.int .i64 u, .int .i64 v] (some ⟨rb, 0, none⟩) 2 2] (fun w hw => ⟨hw.1, hw.2.2.1⟩)
  obtain rfl : t = e := by rw [Bool.eq_iff_iff, ht1, he]
  refine call1 ht2 ?_
  cases t with
  | false =>
    (first | refine wX ?_ | exact wZ)
    rfl
  | true =>
    have hask := he.1 rfl
    have hin := valid_in hask.1
    (first | refine wXB ?_ | exact wZB)
    refine EffW.mkMap rfl fun mu => ?_
    (first | refine wXB ?_ | exact wZB)
    refine EffW.mkMap rfl fun md => ?_
    (first | refine wXB ?_ | exact wZB)
    refine BoxN.known [.map none] rfl fun ub => ?_
    (first | refine wXB ?_ | exact wZB)
    refine BoxN.known [.map none] rfl fun db => ?_
    (first | refine wXB ?_ | exact wZB)
    refine EffW.appTo (i := 5) (q := 0) (ys := [.map (some mu)]) [.map (some mu)] 1 rfl rfl rfl rfl rfl rfl rfl (Nat.le_of_ble_eq_true rfl) rfl rfl ?_
    (first | refine wXB ?_ | exact wZB)
    refine EffW.appTo (i := 6) (q := 0) (ys := [.map (some md)]) [.map (some md)] 1 rfl rfl rfl rfl rfl rfl rfl (Nat.le_of_ble_eq_true rfl) rfl rfl ?_
    (first | refine wXB ?_ | exact wZB)
    refine BoxN.known [.nilFunc] rfl fun fb => ?_
    (first | refine wXB ?_ | exact wZB)
    refine EffW.appTo (i := 7) (q := 0) (ys := [.func (.func 62) #[] #[.pointer (some ⟨gb, 0, none⟩), .pointer (some ⟨ub, 0, none⟩), .pointer (some ⟨db, 0, none⟩), .pointer (some ⟨fb, 0, none⟩)]]) [.func (.func 62) #[] #[.pointer (some ⟨gb, 0, none⟩), .pointer (some ⟨ub, 0, none⟩), .pointer (some ⟨db, 0, none⟩), .pointer (some ⟨fb, 0, none⟩)]] 1 rfl rfl rfl (by simp [opv, nth, plainEv, avCells, vs]; try rfl) rfl rfl rfl (Nat.le_of_ble_eq_true rfl) rfl rfl ?_
    (first | refine wXB ?_ | exact wZB)
    refine LdN.one (a := some ⟨fb, 0, none⟩) (q := 0) (.func (.func 62) #[] #[.pointer (some ⟨gb, 0, none⟩), .pointer (some ⟨ub, 0, none⟩), .pointer (some ⟨db, 0, none⟩), .pointer (some ⟨fb, 0, none⟩)]) rfl (fun w hw => hw.2.2.2.2.2.2.2.1) rfl ?_
    (first | refine wXB ?_ | exact wZB)
    refine SpecH.args (args' := cmA u v gb ub db fb) (by simp [cmA, pvs, opvs, opv, nth]; try rfl) ?_
    refine SpecH.turn [.fact (GrF a l), .fact (cmF a ca l gb ub db fb mu md), .dead, .mp mu #[] 0, .mp md #[] 0, .dead, .dead, .dead] ⟨.inr (.inl rfl), .inr (.inr ⟨_, rfl, fun w hw => ⟨hw.1, hw.2.1, hw.2.2.2.1, hw.2.2.2.2.1, hw.2.2.2.2.2.1⟩⟩), .inl rfl, .inr (.inl rfl), .inr (.inl rfl), .inl rfl, .inl rfl, .inl rfl, trivial⟩ ?_
    have hu := hask.2 u (by simp)
    have hv := hask.2 v (by simp)
    refine callG (compare_c a ca l ha hs hok hin (valid_kind hask.1) gb ub db fb mu md ((l.map (·.c)).length * (l.map (·.c)).length + 1) [] [] ⟨#[], 0, #[], 0⟩ (u, v) ⟨hu, hv⟩ (left_nil _) ⟨rfl, [], rfl, fun _ p => rfl⟩) [3, 4, 1] rfl ⟨rfl, rfl, rfl, trivial⟩ rfl fun ⟨eu4, cu4, ed4, cd4⟩ _ => ?_
    (first | refine wX ?_ | exact wZ)
    rfl
end Go.Proofs.YtahjbnfbilkbcaaGreatDoor

/-
  Contract: the document's compare.
-/
namespace Go.Core
theorem neat_cell {n : Nat} {c : Cell} (h : cellD n c = true) : NeatC c := by
  unfold cellD at h
  have hk := cellD_kind (n := n) (c := c) (by unfold cellD; exact h)
  have : c.kind = 0 ∨ c.kind = 1 ∨ c.kind = 2 ∨ c.kind = 3 ∨ c.kind = 4 ∨ c.kind = 5 ∨ c.kind = 6 ∨ c.kind = 7 ∨ c.kind = 8 := by omega
  rcases this with e | e | e | e | e | e | e | e | e <;> rw [e] at h <;> refine ⟨fun k => ?_, fun k => ?_, fun k => ?_, fun k => ?_⟩ <;> first | omega | (simp at h; simp_all)
theorem neat_valid {g : List Cell} (h : ValidP g) : Neat g := fun a => by
  rcases at_cases g a with h1 | h1
  · exact neat_cell (h.2.1 _ h1)
  · rw [h1]
    exact ⟨fun _ => rfl, fun _ => rfl, fun _ => ⟨rfl, rfl⟩, fun _ => ⟨rfl, rfl, rfl⟩⟩
end Go.Core
namespace Go.Proofs.YtahjbnfbilkbcaaGreatDoor
open Go.AX Go.RowKit Go.Core
set_option maxRecDepth 20000

end Go.Proofs.YtahjbnfbilkbcaaGreatDoor

/-
  Contracts: Compare (document); CoreCompares (law).
-/
namespace Go.Core
theorem tcmp_range : ∀ l m : List UInt8, -1 ≤ tcmp l m ∧ tcmp l m ≤ 1
  | [], [] => ⟨by decide, by decide⟩
  | [], _ :: _ => ⟨by show (-1 : Int) ≤ -1; decide, by show (-1 : Int) ≤ 1; decide⟩
  | _ :: _, [] => ⟨by show (-1 : Int) ≤ 1; decide, by show (1 : Int) ≤ 1; decide⟩
  | a :: l, b :: m => by
    unfold tcmp
    split
    · exact tcmp_range l m
    · unfold sgn
      split
      · omega
      · split <;> omega
theorem sgn_range (a b : Int) : -1 ≤ sgn a b ∧ sgn a b ≤ 1 := by
  unfold sgn
  split
  · omega
  · split <;> omega
theorem cmpF_range {eN eC : Int} {g : List Cell} : ∀ (n : Nat) (u d : List (Int × Int)) (p : Int × Int), -1 ≤ (cmpF eN eC g n u d p).1.1 ∧ (cmpF eN eC g n u d p).1.1 ≤ 1
  | 0, _, _, _ => ⟨by show (-1 : Int) ≤ 0; omega, by show (0 : Int) ≤ 1; omega⟩
  | n + 1, u, d, p => by
    have hl : ∀ (l : List (Int × Int)) (d : List (Int × Int)), -1 ≤ (cmpL (cmpF eN eC g n (p :: u)) d l).1.1 ∧ (cmpL (cmpF eN eC g n (p :: u)) d l).1.1 ≤ 1 := by
      intro l
      induction l with
      | nil => exact fun _ => ⟨by show (-1 : Int) ≤ 0; omega, by show (0 : Int) ≤ 1; omega⟩
      | cons q l ih =>
        intro d
        have h1 := cmpF_range (eN := eN) (eC := eC) (g := g) n (p :: u) d q
        unfold cmpL
        obtain ⟨⟨r, d'⟩, hx⟩ : ∃ x, cmpF eN eC g n (p :: u) d q = x := ⟨_, rfl⟩
        rw [hx] at h1 ⊢
        simp only at h1 ⊢
        split
        · exact ih d'
        · exact h1
    unfold cmpF
    split
    · exact ⟨by show (-1 : Int) ≤ 0; omega, by show (0 : Int) ≤ 1; omega⟩
    split
    · unfold leafC
      simp only
      split
      · exact tcmp_range _ _
      · exact sgn_range _ _
    split
    · exact ⟨by show (-1 : Int) ≤ 0; omega, by show (0 : Int) ≤ 1; omega⟩
    split
    · exact ⟨by show (-1 : Int) ≤ 0; omega, by show (0 : Int) ≤ 1; omega⟩
    · have h2 := hl (nextP g p) d
      obtain ⟨⟨r, d'⟩, hx⟩ : ∃ x, cmpL (cmpF eN eC g n (p :: u)) d (nextP g p) = x := ⟨_, rfl⟩
      rw [hx] at h2 ⊢
      simp only at h2 ⊢
      split
      · exact sgn_range _ _
      · exact h2
end Go.Core
namespace Go.Proofs.YtahjbnfbilkbcaaGreatDoor
open Go.AX Go.RowKit Go.Core
set_option maxRecDepth 20000

end Go.Proofs.YtahjbnfbilkbcaaGreatDoor

/-
  Plain: Compare goes on from one to another; where there is an error the number is 0.
-/
namespace Go.Core
theorem cmp_err {eN eC : Int} {g : List Cell} : ∀ (n : Nat) (u d : List (Int × Int)) (p : Int × Int), (cmpF eN eC g n u d p).1.2 ≠ 0 → (cmpF eN eC g n u d p).1.1 = 0
  | 0, _, _, _, _ => rfl
  | n + 1, u, d, p, h => by
    have hl : ∀ (l : List (Int × Int)) (d : List (Int × Int)), (cmpL (cmpF eN eC g n (p :: u)) d l).1.2 ≠ 0 → (cmpL (cmpF eN eC g n (p :: u)) d l).1.1 = 0 := by
      intro l
      induction l with
      | nil => exact fun _ _ => rfl
      | cons q l ih =>
        intro d
        have h1 := cmp_err (eN := eN) (eC := eC) (g := g) n (p :: u) d q
        unfold cmpL
        obtain ⟨⟨r, d'⟩, hx⟩ : ∃ x, cmpF eN eC g n (p :: u) d q = x := ⟨_, rfl⟩
        rw [hx] at h1 ⊢
        simp only at h1 ⊢
        split
        · exact ih d'
        · exact h1
    revert h
    unfold cmpF
    split
    · exact fun _ => rfl
    split
    · exact fun h => absurd rfl h
    split
    · exact fun _ => rfl
    split
    · exact fun _ => rfl
    · have h2 := hl (nextP g p) d
      obtain ⟨⟨r, d'⟩, hx⟩ : ∃ x, cmpL (cmpF eN eC g n (p :: u)) d (nextP g p) = x := ⟨_, rfl⟩
      rw [hx] at h2 ⊢
      simp only at h2 ⊢
      split
      · exact fun h => absurd rfl h
      · exact h2
theorem cmpB_cmpH {g : List Cell} {p : Int × Int} (h : (cmpB g p).2 = 0) : ∃ k, CmpH g k p.1 p.2 (cmpB g p).1 := by
  unfold cmpB at h ⊢
  obtain ⟨⟨⟨r1, r2⟩, d⟩, hx⟩ : ∃ x, cmpF 3 10 g (g.length * g.length + 1) [] [] p = x := ⟨_, rfl⟩
  rw [hx] at h ⊢
  simp only at h ⊢
  subst h
  exact (cmp_sound (by decide) (by decide) _ _ _ _ _ _ hx (fun r hr => by cases hr)).1
theorem cmpB_trans {g : List Cell} {a b c : Int} (h1 : (cmpB g (a, b)).2 = 0) (h2 : (cmpB g (b, c)).2 = 0) (h3 : (cmpB g (a, c)).2 = 0) (h4 : (cmpB g (a, b)).1 ≤ 0) (h5 : (cmpB g (b, c)).1 ≤ 0) : (cmpB g (a, c)).1 ≤ 0 := by
  obtain ⟨k1, c1⟩ := cmpB_cmpH h1
  obtain ⟨k2, c2⟩ := cmpB_cmpH h2
  obtain ⟨k3, c3⟩ := cmpB_cmpH h3
  obtain ⟨k, c4, hk, _⟩ := cmpH_trans (max k1 k2) a b c _ _ (cmpH_mono (Nat.le_max_left _ _) c1) (cmpH_mono (Nat.le_max_right _ _) c2) h4 h5
  have e := cmpH_det c3 c4
  omega
theorem cmpB_equal {g : List Cell} (hv : ValidP g) {p : Int × Int} (hp : InP g p) (h : (cmpB g p).2 = 0) : ((cmpB g p).1 = 0 ↔ Go.Core.sameB g p = true) := by
  have hs := same_eqv (n := g.length * g.length + 1) (valid_in hv) hp (Nat.lt_succ_self _)
  unfold sameB
  rw [hs]
  unfold cmpB at h ⊢
  obtain ⟨⟨⟨r1, r2⟩, d⟩, hx⟩ : ∃ x, cmpF 3 10 g (g.length * g.length + 1) [] [] p = x := ⟨_, rfl⟩
  rw [hx] at h ⊢
  simp only at h ⊢
  subst h
  exact cmp_equal (by decide) (by decide) (neat_valid hv) hx
end Go.Core

/-
  Contract: CoreOrder (law).
-/
namespace Go.Proofs.YtahjbnfbilkbcaaGreatDoor
open Go.AX Go.RowKit Go.Core
set_option maxRecDepth 20000

theorem tmod_in {z X : Int} {n : Nat} (hX : 0 ≤ X ∧ X < 18446744073709551616) (hn : 0 < n) (h500 : n ≤ 500) : ∃ k : Nat, k < n ∧ IntKind.i64.wrap (X.tmod (IntKind.u64.wrap (n : Int))) = (k : Int) :=
  ⟨X.toNat % n, Nat.mod_lt _ hn, by
    have h2 := Int.emod_lt_of_pos X (show (0 : Int) < n by omega)
    have h3 := Int.emod_nonneg X (show (n : Int) ≠ 0 by omega)
    rw [wrap_u64 (by omega), Int.tmod_eq_emod_of_nonneg hX.1, wrap_i64 (by omega), Int.natCast_emod, Int.toNat_of_nonneg hX.1]⟩

set_option maxHeartbeats 8000000 in
theorem CoreOrder_c (a : Option Addr) (ca : Nat) (L : List Int) (ha : a = none → L = []) (hl : L.length ≤ 200000000000000) (z1 z2 z3 : Int) : ∀ H, (∀ w, Facts H w → SlAt a (L.length * 1) (iC L) w) → SpecH Tryz.prog 11 (pvs [.agg #[.slice a L.length ca, .int .i64 z1, .int .i64 z2, .int .i64 z3]]) H (Ret (.bool true) H) := by
  refine factC hm Tryz.func11 (by kernel_rfl) rfl rfl ?_
  (conv => whnf)
  refine BoxN.known [.slice a L.length ca, .int .i64 z1, .int .i64 z2, .int .i64 z3] rfl fun xb => ?_
  (first | refine wXB ?_ | exact wZB)
  refine LdN.one (a := some ⟨xb, 0, none⟩) (q := 0) (.slice a L.length ca) rfl (fun w hw => hw.2.1) rfl ?_
  (first | refine wXB ?_ | exact wZB)
  refine SpecF.call (Grown_c a ca L ha hl) (fun w hw => hw.1) fun v G hv => ?_
  obtain ⟨oa, oc, m, rfl, hoa, hok, hs, hval, hG⟩ := hv
  (first | refine wXB ?_ | exact wZB)
  refine brd_eq (fun h1 => ?_) (fun h1 => ?_)
  · (first | refine wX ?_ | exact wZ)
    refine call1 (sane_c _) ?_
    (first | refine wX ?_ | exact wZ)
  have hne : m ≠ [] := fun e => h1 (by rw [e]; rfl)
  have hv := hval.resolve_left hne
  have hin := valid_in hv
  have hgl : (m.map (·.c)).length = m.length := by simp
  have h500 : m.length ≤ 500 := by have := hv.1; omega
  have hpos : 0 < m.length := List.length_pos_iff.2 hne
  -- 1: the field, z1: its value, k1: the name of the index
  (first | refine wXB ?_ | exact wZB)
  refine LdN.one (a := some ⟨xb, 0, none⟩) (q := 1) (.int .i64 z1) rfl (fun w hw => hw.2.1) rfl ?_
  (first | refine wXB ?_ | exact wZB)
  obtain ⟨k1, hk1, ek1⟩ := tmod_in (z := z1) (wrap_u64_bd z1) hpos h500
  refine Nd.mk ?_ ?_
  · rw [wrap_u64 (by omega)]; omega
  (first | refine wXB ?_ | exact wZB)
  rw [ek1]
  clear ek1
  -- 2: the field, z2: its value, k2: the name of the index
  (first | refine wXB ?_ | exact wZB)
  refine LdN.one (a := some ⟨xb, 0, none⟩) (q := 2) (.int .i64 z2) rfl (fun w hw => hw.2.1) rfl ?_
  (first | refine wXB ?_ | exact wZB)
  obtain ⟨k2, hk2, ek2⟩ := tmod_in (z := z2) (wrap_u64_bd z2) hpos h500
  refine Nd.mk ?_ ?_
  · rw [wrap_u64 (by omega)]; omega
  (first | refine wXB ?_ | exact wZB)
  rw [ek2]
  clear ek2
  -- 3: the field, z3: its value, k3: the name of the index
  (first | refine wXB ?_ | exact wZB)
  refine LdN.one (a := some ⟨xb, 0, none⟩) (q := 3) (.int .i64 z3) rfl (fun w hw => hw.2.1) rfl ?_
  (first | refine wXB ?_ | exact wZB)
  obtain ⟨k3, hk3, ek3⟩ := tmod_in (z := z3) (wrap_u64_bd z3) hpos h500
  refine Nd.mk ?_ ?_
  · rw [wrap_u64 (by omega)]; omega
  (first | refine wXB ?_ | exact wZB)
  rw [ek3]
  clear ek3
  have i1 : InI (m.map (·.c)) (k1 : Int) := ⟨by omega, by rw [hgl]; omega⟩
  have i2 : InI (m.map (·.c)) (k2 : Int) := ⟨by omega, by rw [hgl]; omega⟩
  have i3 : InI (m.map (·.c)) (k3 : Int) := ⟨by omega, by rw [hgl]; omega⟩
  have hask : ∀ x y, InI (m.map (·.c)) x → InI (m.map (·.c)) y → AskP (m.map (·.c)) [x, y] := fun x y hx hy => ⟨hv, fun q hq => by
    simp only [List.mem_cons, List.not_mem_nil, or_false] at hq
    rcases hq with rfl | rfl
    · exact hx
    · exact hy⟩
  generalize hA : (k1 : Int) = A at *
  generalize hB : (k2 : Int) = B at *
  generalize hC : (k3 : Int) = C at *
  clear hA hB hC
  have cmp : ∀ x y, InI (m.map (·.c)) x → InI (m.map (·.c)) y → SpecH Tryz.prog 31 (pvs [.slice oa m.length oc, .int .i64 x, .int .i64 y]) [.fact (SlAt a (L.length * 1) (iC L)), .app 45 4 [.slice a L.length ca, .int .i64 z1, .int .i64 z2, .int .i64 z3] (some ⟨xb, 0, none⟩) 1 1, .fact G] (Ret (cmpV true (m.map (·.c)) x y) [.fact (SlAt a (L.length * 1) (iC L)), .app 45 4 [.slice a L.length ca, .int .i64 z1, .int .i64 z2, .int .i64 z3] (some ⟨xb, 0, none⟩) 1 1, .fact G]) := fun x y hx hy => by
    obtain ⟨e, he, hes⟩ := Compare_c oc hoa hs hok x y [.fact (SlAt a (L.length * 1) (iC L)), .app 45 4 [.slice a L.length ca, .int .i64 z1, .int .i64 z2, .int .i64 z3] (some ⟨xb, 0, none⟩) 1 1, .fact G] (fun w hw => hG w hw.2.2.1)
    obtain rfl : e = true := he.2 (hask x y hx hy)
    exact hes
  refine call1 (cmp A B i1 i2) ?_
  (first | refine wX ?_ | exact wZ)
  refine call1 (cmp B C i2 i3) ?_
  (first | refine wX ?_ | exact wZ)
  refine call1 (cmp A C i1 i3) ?_
  (first | refine wX ?_ | exact wZ)
  obtain ⟨e, he, hes⟩ := Equal_c oc hoa hs hok A B [.fact (SlAt a (L.length * 1) (iC L)), .app 45 4 [.slice a L.length ca, .int .i64 z1, .int .i64 z2, .int .i64 z3] (some ⟨xb, 0, none⟩) 1 1, .fact G] (fun w hw => hG w hw.2.2.1)
  obtain rfl : e = true := he.2 (hask _ _ i1 i2)
  refine call1 hes ?_
  have q1 : (cmpB (m.map (·.c)) (A, B)).2 ≠ 0 → (cmpB (m.map (·.c)) (A, B)).1 = 0 := cmp_err _ _ _ _
  have q2 : (cmpB (m.map (·.c)) (A, B)).2 = 0 → ((cmpB (m.map (·.c)) (A, B)).1 = 0 ↔ sameB (m.map (·.c)) (A, B) = true) := cmpB_equal hv ⟨i1, i2⟩
  have q3 := fun h1 h2 h3 h4 h5 => cmpB_trans (g := m.map (·.c)) (a := A) (b := B) (c := C) h1 h2 h3 h4 h5
  have rg := fun p => cmpF_range (eN := 3) (eC := 10) (g := m.map (·.c)) ((m.map (·.c)).length * (m.map (·.c)).length + 1) [] [] p
  have r1 : -1 ≤ (cmpB (m.map (·.c)) (A, B)).1 ∧ (cmpB (m.map (·.c)) (A, B)).1 ≤ 1 := rg _
  clear hes he cmp rg
  unfold cmpV
  rw [if_pos rfl, if_pos rfl, if_pos rfl, if_pos rfl, if_pos rfl, if_pos rfl] 
  generalize cmpB (m.map (·.c)) (A, B) = ab at *
  generalize cmpB (m.map (·.c)) (B, C) = bc at *
  generalize cmpB (m.map (·.c)) (A, C) = ac at *
  generalize sameB (m.map (·.c)) (A, B) = is at *
  obtain ⟨ab, e1⟩ := ab
  obtain ⟨bc, e2⟩ := bc
  obtain ⟨ac, e3⟩ := ac
  simp only at q1 q2 q3 r1 ⊢
  (first | refine wX ?_ | exact wZ)
  refine brd_eq (fun h1 => ?_) (fun h1 => ?_)
  · subst h1
    have q2 := q2 rfl
    clear q1
    obtain rfl : is = decide (ab = 0) := by
      by_cases h : ab = 0
      · rw [q2.1 h, decide_eq_true h]
      · rw [decide_eq_false h]
        cases is with
        | false => rfl
        | true => exact absurd (q2.2 rfl) h
    have hb : ab = -1 ∨ ab = 0 ∨ ab = 1 := by omega
    rcases hb with rfl | rfl | rfl
    · -- x: what is asked of bc and ac
      (first | refine wX ?_ | exact wZ)
      refine brd_eq (fun h2 => ?_) (fun h2 => ?_)
      · subst h2
        (first | refine wX ?_ | exact wZ)
        refine brd_eq (fun h3 => ?_) (fun h3 => ?_)
        · subst h3
          (first | refine wX ?_ | exact wZ)
          refine brd_dec (fun h4 => ?_) (fun h4 => ?_)
          · (first | refine wX ?_ | exact wZ)
            refine brd_dec (fun h5 => ?_) (fun h5 => ?_)
            · exact absurd (q3 rfl rfl rfl (by decide) h4) (by omega)
            · (first | refine wX ?_ | exact wZ)
              refine call1 (sane_c _) ?_
              (first | refine wX ?_ | exact wZ)
          · (first | refine wX ?_ | exact wZ)
            refine call1 (sane_c _) ?_
            (first | refine wX ?_ | exact wZ)
        · (first | refine wX ?_ | exact wZ)
          refine call1 (sane_c _) ?_
          (first | refine wX ?_ | exact wZ)
      · (first | refine wX ?_ | exact wZ)
        refine call1 (sane_c _) ?_
        (first | refine wX ?_ | exact wZ)
    · -- x: what is asked of bc and ac
      (first | refine wX ?_ | exact wZ)
      refine brd_eq (fun h2 => ?_) (fun h2 => ?_)
      · subst h2
        (first | refine wX ?_ | exact wZ)
        refine brd_eq (fun h3 => ?_) (fun h3 => ?_)
        · subst h3
          (first | refine wX ?_ | exact wZ)
          refine brd_dec (fun h4 => ?_) (fun h4 => ?_)
          · (first | refine wX ?_ | exact wZ)
            refine brd_dec (fun h5 => ?_) (fun h5 => ?_)
            · exact absurd (q3 rfl rfl rfl (by decide) h4) (by omega)
            · (first | refine wX ?_ | exact wZ)
              refine call1 (sane_c _) ?_
              (first | refine wX ?_ | exact wZ)
          · (first | refine wX ?_ | exact wZ)
            refine call1 (sane_c _) ?_
            (first | refine wX ?_ | exact wZ)
        · (first | refine wX ?_ | exact wZ)
          refine call1 (sane_c _) ?_
          (first | refine wX ?_ | exact wZ)
      · (first | refine wX ?_ | exact wZ)
        refine call1 (sane_c _) ?_
        (first | refine wX ?_ | exact wZ)
    · (first | refine wX ?_ | exact wZ)
      refine brd_eq (fun h2 => ?_) (fun h2 => ?_)
      · subst h2
        (first | refine wX ?_ | exact wZ)
        refine brd_eq (fun h3 => ?_) (fun h3 => ?_)
        · subst h3
          (first | refine wX ?_ | exact wZ)
          refine call1 (sane_c _) ?_
          (first | refine wX ?_ | exact wZ)
        · (first | refine wX ?_ | exact wZ)
          refine call1 (sane_c _) ?_
          (first | refine wX ?_ | exact wZ)
      · (first | refine wX ?_ | exact wZ)
        refine call1 (sane_c _) ?_
        (first | refine wX ?_ | exact wZ)
  · obtain rfl : ab = 0 := q1 h1
    (first | refine wX ?_ | exact wZ)
    refine brd_ne (fun _ => ?_) (fun h2 => ?_)
    · (first | refine wX ?_ | exact wZ)
      refine brd_eq (fun h2 => absurd h2 h1) (fun _ => ?_)
      (first | refine wX ?_ | exact wZ)
      refine call1 (sane_c _) ?_
      (first | refine wX ?_ | exact wZ)
    · exact absurd h2 h1
end Go.Proofs.YtahjbnfbilkbcaaGreatDoor

/-
  CoreOrderCardSaid is proved: of every three cells of a grown graph CoreOrder returns true and leaves its argument as it was; the listed tables are tied to the program's text.
-/
namespace Go.Proofs.YtahjbnfbilkbcaaGreatDoor
open Go.ChangeShapes Go.WideShapes Go.ChangeAt Go.RowKit Go.AX Go.Core
set_option maxRecDepth 100000

namespace CoreOrder
theorem own : ownKnob Tryz.prog.godebug = none := own0
theorem walk {H : Type} {enc : TypeId × Value → H} (W : World) (base : Nat) (args : Array Value) (ds : List (DataW H)) (p : List MemPlace) (k : Known enc Tryz.prog Tryz.f11 W base args ds p) (_hL : laidMetH Tryz.prog laid3 W) : Walk Tryz.prog 11 args W := by
  obtain ⟨u, rfl⟩ := arr1 (trodAll_len k.trod).2
  obtain ⟨d, q, hd, n, h⟩ := trodAll_get k.trod 0 _ u rfl rfl
  obtain ⟨cs, rfl, _⟩ := okWide_struct Tryz.underlying45 (k.val 0 _ u rfl rfl)
  obtain ⟨a, l, c, z1, z2, z3, hcs, hn, hl, hs⟩ := three_read h (fun x hx => by
    have := List.all_eq_true.1 k.weights x (DataW.weights_mem_each rfl hd x hx)
    simpa using this)
  obtain rfl : cs = #[.slice a l.length c, .int .i64 z1, .int .i64 z2, .int .i64 z3] := by
    have : cs.toList = [.slice a l.length c, .int .i64 z1, .int .i64 z2, .int .i64 z3] := by simpa [Value.cells] using hcs
    rw [← Array.toList_inj, this]
  exact walkH [.fact (SlAt a (l.length * 1) (iC l))] (fun _ he => ⟨_, List.mem_singleton.1 he, hs.imm⟩) (CoreOrder_c a c l hn hl z1 z2 z3 _ fun w hw => hw.1)

theorem lifted (os : Os) (started : os.Started) (H : Type) (enc : TypeId × Value → H) :
    ReturnsInHanded {} Tryz.checked os 11 .any (fun w args => (Rows.coreOrderSpec.pre enc Tryz.prog Tryz.f11 [] false w args ∧ laidMetH Tryz.prog laid3 w) ∧ sizedMet enc Tryz.prog Tryz.f11 (OpenSpec.ofChange Rows.coreOrderSpec) false w args) (Rows.coreOrderSpec.post enc Tryz.prog Tryz.f11 false true false false) := by
  refine liftS (C := Tryz.checked) own started (by kernel_rfl) Tryz.func11
    (ChangeSpec.witness_shaped (enc := enc) (C := Tryz.checked) (os := os) (X := fun w _ => laidMetH Tryz.prog laid3 w) false (World.laidAll Tryz.prog os laid3) #[.agg #[.slice none 0 0, .int .i64 0, .int .i64 0, .int .i64 0]] 8 (World.laidAll_os _ _ _) (World.shaped_of_ZipB (by kernel_rfl) (by kernel_rfl)) (by kernel_rfl) (by kernel_rfl) (by kernel_rfl) (door_met os _))
    laidOut rfl (t := _) rfl (by kernel_rfl) (by kernel_rfl) ?_ walk
  intro ds hd
  match ds, hd with
  | [d0], _ => rfl

theorem over : Rows.coreOrderRow.holds Tryz.pinned (OpenSpec.ofChange Rows.coreOrderSpec) :=
  OpenClaim.holds_of_wide 11 Tryz.f11 rfl rfl rfl rfl rfl rfl rfl ⟨rfl, rfl, rfl, rfl, rfl⟩ rfl rfl rfl rfl rfl (by kernel_rfl) Tryz.func11 (by kernel_rfl)
    (of_decide_eq_true (by kernel_rfl)) (by unfold Func.isWrapper; first | (rw [if_pos (by decide +kernel)]; kernel_rfl) | (rw [if_neg (by decide +kernel)]; exact ⟨rfl, rfl⟩))
    (fun os started H enc _ => lifted os started H enc)

theorem proved : Rows.CoreOrderCardSaid :=
  Claim7.holds_tied_plain_at .later [] [.data, .data, .data] true (true, "8c46145c91ca01cbbdc693332ca60911ae9d66bc5eabc04f89f5f042d1271d1b") true
    over (fun _ h => by cases h) (by kernel_rfl) (fun _ h => by cases h) coreOrder_row_tie rfl ⟨rfl, rfl⟩ (by kernel_rfl) rfl
    (fun f fn hf hfn => by
      obtain rfl : f = 11 := Option.some.inj ((show Tryz.prog.funcNamed "cabochon/cabochonlaw21.CoreOrder" = some 11 by kernel_rfl).symm.trans hf) |>.symm
      obtain rfl : fn = Tryz.f11 := (Option.some.inj (Tryz.func11.symm.trans hfn)).symm
      exact ⟨by kernel_rfl, fun j t ht => by
        have hm : t ∈ Tryz.f11.params.toList := by simpa using Array.mem_of_getElem? ht
        have hall : (Tryz.f11.params.toList.all fun u => !Tryz.prog.wantsStandIn u) = true := by kernel_rfl
        exact (show Tryz.prog.wantsStandIn t = false by simpa using List.all_eq_true.1 hall t hm)⟩)
    (by kernel_rfl)
#print axioms proved
end CoreOrder
end Go.Proofs.YtahjbnfbilkbcaaGreatDoor
