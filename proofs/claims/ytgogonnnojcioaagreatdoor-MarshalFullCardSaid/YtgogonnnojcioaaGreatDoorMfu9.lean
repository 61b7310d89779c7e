/-
  Lemmas (MC14 MC16).
-/
import Derived.Test.YtgogonnnojcioaaGreatDoorMfu8
set_option linter.unusedVariables false
set_option linter.unusedSimpArgs false
/-
  Contracts: an object is read (program).
-/
namespace Go.Proofs.YtgogonnnojcioaaGreatDoor
open Go.AX Go.RowKit Go.Core Go.Marshal
set_option maxRecDepth 20000
def ownS (l : List (List UInt8)) (a : Option Addr) (cap : Nat) : Ent := .app 9 1 (strC l) a l.length cap
theorem class_dead {st : PS} (h : st.e ≠ 0) : (classM st).2 = st := by
  unfold classM
  simp only
  rw [next_dead h]
  have h1 : (symM 0 st).2 = st := sym_dead h
  rw [h1, if_neg (by simp [h])]
theorem name_dead {ns : List (List UInt8)} {st : PS} (h : st.e ≠ 0) : (nameM ns st).2 = st := by
  unfold nameM
  simp only
  rw [next_dead h]
  have h1 : (symM 0 st).2 = st := sym_dead h
  rw [h1, if_neg (by simp [h])]
theorem fuel_keep {n : Nat} {a b : PS} (h : a.s.length < n ∨ a.e ≠ 0) (hl : Le 0 a b) (hd : a.e ≠ 0 → b = a) : b.s.length < n ∨ b.e ≠ 0 := by
  rcases h with h | h
  · exact .inl (Nat.lt_of_le_of_lt hl.s h)
  · rw [hd h]; exact .inr h
theorem cell_dead_e {n : Nat} {st : PS} (h : st.e ≠ 0) : (cellM n st).2.e ≠ 0 := by
  cases n with
  | zero => show (failM st 99).e ≠ 0; rw [fail_dead h]; exact h
  | succ n => rw [cell_dead n h]; exact h
structure ObP where
  p : RdP
  na : Option Addr
  nc : Nat
  ia : Option Addr
  ic : Nat
/-- core.Check of one cell. -/
theorem check1 (q : CellP) (cb : Nat) (hq : CellOk q) (hn : q.c.names.length ≤ 2000 ∧ q.c.items.length ≤ 2000) (b : Bool) (hb : b = true ↔ ValidP [q.c]) :
    ∀ H, (∀ w, Facts H w → SlAt (some ⟨cb, 0, none⟩) 5 (cellC q) w ∧ CellF q w) → SpecH Tryz.prog 65 (pvs [.slice (some ⟨cb, 0, none⟩) 1 1]) H (Ret (errI b) H) := by
  intro H hH
  obtain ⟨b2, hb2, h⟩ := Check_c (some ⟨cb, 0, none⟩) 1 [q] (fun h => by cases h) ⟨by simp, fun p hp => by obtain rfl := List.mem_singleton.1 hp; exact hn⟩ (fun p hp => by obtain rfl := List.mem_singleton.1 hp; exact hq) H (fun w hw => ⟨by have := (hH w hw).1; simpa [grC] using this, fun p hp => by obtain rfl := List.mem_singleton.1 hp; exact (hH w hw).2⟩)
  have e : b2 = b := by
    rw [Bool.eq_iff_iff, hb, hb2]
    rfl
  rw [← e]
  exact h
theorem slAt_nil (w : World) : SlAt none 0 [] w := ⟨rfl, fun h => absurd h (Nat.lt_irrefl 0), fun j h => absurd h (Nat.not_lt_zero j)⟩
set_option maxHeartbeats 4000000 in
theorem object_rd (n : Nat) (hc : CellC n) (rb : Nat) (st : PS) (p : RdP) (ok : RdOk st p) (bd : Bd st) (hn : st.s.length < n ∨ st.e ≠ 0) : SpecH Tryz.prog 107 [.c (.v (.pointer (some ⟨rb, 0, none⟩)))] (rdE rb st p ++ [.app 9 1 [] none 0 0, .app 3 1 [] none 0 0]) (RetG (ι := ObP) (fun i => RdOk (objM (cellM n) st).2 i.p ∧ CellOk ⟨(objM (cellM n) st).1, i.na, i.nc, i.ia, i.ic⟩) (fun i => cellV ⟨(objM (cellM n) st).1, i.na, i.nc, i.ia, i.ic⟩) fun i => rdE rb (objM (cellM n) st).2 i.p ++ [ownS (objM (cellM n) st).1.names i.na i.nc, ownI (objM (cellM n) st).1.items i.ia i.ic]) := by
  refine ownC hm Tryz.func107 (by kernel_rfl) rfl rfl (fun _ _ => okHB_eq rfl) (fun _ _ => Nat.le_of_ble_eq_true rfl) ?_
  have htk := cell_takes n
  have hA : ∀ k ns l st', attrsM (cellM n) (k + 1) ns l st' = if st'.e = 0 then attrsM (cellM n) k (ns ++ [(nameM ns st').1]) (l ++ [(cellM n (nameM ns st').2).1]) (cellM n (nameM ns st').2).2 else ((ns, l), st') := fun k ns l st' => by conv => lhs; unfold attrsM
  have b1 := bd.le (next_le st)
  have ok1 := ok.same (next_keep st)
  have bn := bd.le (class_le st)
  have hnc := fuel_keep hn (class_le st) class_dead
  obtain ⟨R, hR⟩ : ∃ R, objM (cellM n) st = R := ⟨_, rfl⟩
  rw [hR]
  unfold objM at hR
  obtain ⟨R2, hR2⟩ : ∃ R2, attrsM (cellM n) (numM maxN (classM st).2).1 [] [] (numM maxN (classM st).2).2 = R2 := ⟨_, rfl⟩
  rw [hR2] at hR
  have hcl : classM st = ((symM (nextM st).1 (nextM st).2).1, if (symM (nextM st).1 (nextM st).2).2.e = 0 ∧ Go.Scan.icB (symM (nextM st).1 (nextM st).2).1 = false then failM (symM (nextM st).1 (nextM st).2).2 4 else (symM (nextM st).1 (nextM st).2).2) := rfl
  have hb2 := bd.le (nextsym_le st)
  ((conv => whnf); (repeat ((first | refine VrN.norm (wrap_i64 (by omega)) ?_ | refine VrN.keep ?_ | refine DrawN.calm (by decide +kernel) ?_ | refine Nd.mk (by decide +kernel) ?_ | refine Nd.mk (by omega) ?_ | (refine Nd.mk ?_ ?_; focus ((repeat' (first | exact trivial | exact wkE_refl _ | refine And.intro ?_ ?_)); done)) | refine RdN.intro _ rfl (by rfl) ?_); (conv => whnf))))
  refine BoxN.own ?_
  ((conv => whnf); (repeat ((first | refine VrN.norm (wrap_i64 (by omega)) ?_ | refine VrN.keep ?_ | refine DrawN.calm (by decide +kernel) ?_ | refine Nd.mk (by decide +kernel) ?_ | refine Nd.mk (by omega) ?_ | (refine Nd.mk ?_ ?_; focus ((repeat' (first | exact trivial | exact wkE_refl _ | refine And.intro ?_ ?_)); done)) | refine RdN.intro _ rfl (by rfl) ?_); (conv => whnf))))
  -- the contract next_m rb st p is called
  refine callG (next_m rb st p) [0, 1, 2, 3, 4] rfl ⟨rfl, rfl, rfl, rfl, rfl, trivial⟩ rfl fun _ _ => ?_
  have hsym := symbol_rd rb (nextM st).1 (nextM st).2 p ok1 (by have := b1.pot; omega)
  have oks := fun i hi => ok1.sym (by have := b1.pot; omega) (nextM st).1 (i := i) hi
  have tl := symM_len (nextM st).1 (nextM st).2 (by have := b1.pot; omega) ok1.sw
  generalize nextM st = qx at hcl hb2 hsym oks tl ⊢
  obtain ⟨x, s1⟩ := qx
  simp only at hcl hb2 hsym oks tl
  ((conv => whnf); (repeat ((first | refine BoxN.own ?_ | refine VrN.norm (wrap_i64 (by omega)) ?_ | refine VrN.keep ?_ | refine DrawN.calm (by decide +kernel) ?_ | refine Nd.mk (by decide +kernel) ?_ | refine Nd.mk (by omega) ?_ | (refine Nd.mk ?_ ?_; focus ((repeat' (first | exact trivial | exact wkE_refl _ | refine And.intro ?_ ?_)); done)) | refine RdN.intro _ rfl (by rfl) ?_); (conv => whnf))))
  refine callG hsym [0, 1, 2, 3, 4] rfl ⟨rfl, rfl, rfl, rfl, rfl, trivial⟩ rfl fun i2 hi2 => ?_
  have ok2 := oks i2 hi2
  generalize symM x s1 = qs at hcl hb2 ok2 tl ⊢
  obtain ⟨t, s2⟩ := qs
  simp only at hcl hb2 ok2 tl
  obtain ⟨p2, hp2⟩ : ∃ p2 : RdP, p2 = { p with sa := i2.1, sc := i2.2 } := ⟨_, rfl⟩
  rw [← hp2] at ok2 ⊢
  ((conv => whnf); (repeat ((first | refine VrN.norm (wrap_i64 (by omega)) ?_ | refine VrN.keep ?_ | refine DrawN.calm (by decide +kernel) ?_ | refine Nd.mk (by decide +kernel) ?_ | refine Nd.mk (by omega) ?_ | (refine Nd.mk ?_ ?_; focus ((repeat' (first | exact trivial | exact wkE_refl _ | refine And.intro ?_ ?_)); done)) | refine RdN.intro _ rfl (by rfl) ?_); (conv => whnf))))
  refine BoxN.known (cellC ⟨⟨0, 0, [], [], []⟩, none, 0, none, 0⟩) rfl fun kb => ?_
  ((conv => whnf); (repeat ((first | refine VrN.norm (wrap_i64 (by omega)) ?_ | refine VrN.keep ?_ | refine DrawN.calm (by decide +kernel) ?_ | refine Nd.mk (by decide +kernel) ?_ | refine Nd.mk (by omega) ?_ | (refine Nd.mk ?_ ?_; focus ((repeat' (first | exact trivial | exact wkE_refl _ | refine And.intro ?_ ?_)); done)) | refine RdN.intro _ rfl (by rfl) ?_); (conv => whnf))))
  refine EffW.appTo (i := 8) (q := 0) (ys := cellC ⟨⟨8, 0, t, [], []⟩, none, 0, none, 0⟩) (cellC ⟨⟨8, 0, t, [], []⟩, none, 0, none, 0⟩) 5 rfl rfl rfl rfl rfl rfl rfl (Nat.le_of_ble_eq_true rfl) rfl rfl ?_
  ((conv => whnf); (repeat ((first | refine BoxN.own ?_ | refine VrN.norm (wrap_i64 (by omega)) ?_ | refine VrN.keep ?_ | refine DrawN.calm (by decide +kernel) ?_ | refine Nd.mk (by decide +kernel) ?_ | refine Nd.mk (by omega) ?_ | (refine Nd.mk ?_ ?_; focus ((repeat' (first | exact trivial | exact wkE_refl _ | refine And.intro ?_ ?_)); done)) | refine RdN.intro _ rfl (by rfl) ?_); (conv => whnf))))
  -- 4: the field, .int .i64 s2.e: its value
  refine LdN.one (a := some ⟨rb, 0, none⟩) (q := 4) (.int .i64 s2.e) rfl (fun w hw => hw.1) rfl ?_
  ((conv => whnf); (repeat ((first | refine BoxN.own ?_ | refine VrN.norm (wrap_i64 (by omega)) ?_ | refine VrN.keep ?_ | refine DrawN.calm (by decide +kernel) ?_ | refine Nd.mk (by decide +kernel) ?_ | refine Nd.mk (by omega) ?_ | (refine Nd.mk ?_ ?_; focus ((repeat' (first | exact trivial | exact wkE_refl _ | refine And.intro ?_ ?_)); done)) | refine RdN.intro _ rfl (by rfl) ?_); (conv => whnf))))
  by_cases he : s2.e = 0
  · rw [show (s2.e == 0) = true by rw [he]; rfl]
    ((conv => whnf); (repeat ((first | refine BoxN.own ?_ | refine VrN.norm (wrap_i64 (by omega)) ?_ | refine VrN.keep ?_ | refine DrawN.calm (by decide +kernel) ?_ | refine Nd.mk (by decide +kernel) ?_ | refine Nd.mk (by omega) ?_ | (refine Nd.mk ?_ ?_; focus ((repeat' (first | exact trivial | exact wkE_refl _ | refine And.intro ?_ ?_)); done)) | refine RdN.intro _ rfl (by rfl) ?_); (conv => whnf))))
    refine LdN.agg (a := some ⟨kb, 0, none⟩) (q := 0) (cellC ⟨⟨8, 0, t, [], []⟩, none, 0, none, 0⟩) rfl (fun w hw => hw.2.2.2.2.2.2.2.1) rfl (fun j _ => by rw [Nat.zero_add]) ?_
    ((conv => whnf); (repeat ((first | refine BoxN.own ?_ | refine VrN.norm (wrap_i64 (by omega)) ?_ | refine VrN.keep ?_ | refine DrawN.calm (by decide +kernel) ?_ | refine Nd.mk (by decide +kernel) ?_ | refine Nd.mk (by omega) ?_ | (refine Nd.mk ?_ ?_; focus ((repeat' (first | exact trivial | exact wkE_refl _ | refine And.intro ?_ ?_)); done)) | refine RdN.intro _ rfl (by rfl) ?_); (conv => whnf))))
    refine RwN.known (cellC ⟨⟨8, 0, t, [], []⟩, none, 0, none, 0⟩) rfl fun cb => ?_
    ((conv => whnf); (repeat ((first | refine BoxN.own ?_ | refine VrN.norm (wrap_i64 (by omega)) ?_ | refine VrN.keep ?_ | refine DrawN.calm (by decide +kernel) ?_ | refine Nd.mk (by decide +kernel) ?_ | refine Nd.mk (by omega) ?_ | (refine Nd.mk ?_ ?_; focus ((repeat' (first | exact trivial | exact wkE_refl _ | refine And.intro ?_ ?_)); done)) | refine RdN.intro _ rfl (by rfl) ?_); (conv => whnf))))
    have hF := fun (w : World) (h : SlAt (some ⟨cb, 0, none⟩) 5 (cellC ⟨⟨8, 0, t, [], []⟩, none, 0, none, 0⟩) w) => (show SlAt (some ⟨cb, 0, none⟩) 5 (cellC ⟨⟨8, 0, t, [], []⟩, none, 0, none, 0⟩) w ∧ CellF ⟨⟨8, 0, t, [], []⟩, none, 0, none, 0⟩ w from ⟨h, slAt_nil w, slAt_nil w⟩)
    have hck := check1 ⟨⟨8, 0, t, [], []⟩, none, 0, none, 0⟩ cb ⟨fun _ => rfl, fun _ => rfl, Nat.zero_le _, Nat.zero_le _, (fun s hs => by cases hs), by show t.length ≤ _; omega, Nat.le_refl _, Nat.le_refl _⟩ ⟨Nat.zero_le _, Nat.zero_le _⟩ (Go.Scan.icB t) (valid_class t).symm
    cases hic : Go.Scan.icB t with
    | true =>
      rw [hic] at hck hcl
      rw [if_neg (fun h => by cases h.2)] at hcl
      rw [hcl] at hR2 hR bn hnc
      simp only at hR2 hR bn hnc
      refine call1 (hck _ (fun w hw => hF w hw.2.2.2.2.2.2.2.2.1)) ?_
      have ok3 := ok2
      -- the number of names, and the names with their items, behind the class s2
      ((conv => whnf); (repeat ((first | refine BoxN.own ?_ | refine VrN.norm (wrap_i64 (by omega)) ?_ | refine VrN.keep ?_ | refine DrawN.calm (by decide +kernel) ?_ | refine Nd.mk (by decide +kernel) ?_ | refine Nd.mk (by omega) ?_ | (refine Nd.mk ?_ ?_; focus ((repeat' (first | exact trivial | exact wkE_refl _ | refine And.intro ?_ ?_)); done)) | refine RdN.intro _ rfl (by rfl) ?_); (conv => whnf))))
      -- the contract number_m rb (s2) p2 maxN (by decide) is called
      refine callG (number_m rb (s2) p2 maxN (by decide)) [0, 1, 2, 3, 4] rfl ⟨rfl, rfl, rfl, rfl, rfl, trivial⟩ rfl fun _ _ => ?_
      have bn4 := bn.le (num_le maxN (s2))
      have ok4 := ok3.same (num_keep maxN (s2))
      have hm4 := num_most maxN (s2)
      have hn4 := fuel_keep hnc (num_le maxN (s2)) (fun h => by rw [num_dead h])
      generalize numM maxN (s2) = qn at hR2 bn4 ok4 hm4 hn4 ⊢
      obtain ⟨m, s4⟩ := qn
      simp only at hR2 bn4 ok4 hm4 hn4
      have hm5 : m ≤ 1000000000000000 := hm4
      ((conv => whnf); (repeat ((first | refine BoxN.own ?_ | refine VrN.norm (wrap_i64 (by omega)) ?_ | refine VrN.keep ?_ | refine DrawN.calm (by decide +kernel) ?_ | refine Nd.mk (by decide +kernel) ?_ | refine Nd.mk (by omega) ?_ | (refine Nd.mk ?_ ?_; focus ((repeat' (first | exact trivial | exact wkE_refl _ | refine And.intro ?_ ?_)); done)) | refine RdN.intro _ rfl (by rfl) ?_); (conv => whnf))))
      refine LoopN.intro (Nat × List (List UInt8) × List Int × PS × ObP) (fun ⟨i, ns, l, st, q⟩ => attrsM (cellM n) (m - i) ns l st = R2 ∧ i ≤ m ∧ RdOk st q.p ∧ Bd st ∧ (st.s.length < n ∨ st.e ≠ 0) ∧ l.length + st.s.length + liv st ≤ 30001 ∧ ns.length = l.length ∧ (q.na = none → ns = []) ∧ (q.ia = none → l = []) ∧ ns.length ≤ q.nc ∧ l.length ≤ q.ic ∧ ∀ s ∈ ns, s.length ≤ 30000)
        (fun ⟨i, _, _, _, _⟩ => mkS Tryz.f107.ntmps 0 [(0, .c (.v (.pointer (some ⟨rb, 0, none⟩)))), (2, .c (.lp 7 0)), (3, .c (.v (.pointer (some ⟨kb, 0, none⟩)))), (4, .c (.v (.int .i64 (m : Int)))), (5, .c (.v (.int .i64 (i : Int))))])
        (fun ⟨_, ns, l, st, ⟨p, na, nc, ia, ic⟩⟩ => rdE rb st p ++ [ownS ns na nc, ownI l ia ic, .blk 57 [.v (.int .i64 0), .v (.int .i64 0), .v (.string ⟨#[]⟩), .v (.slice none 0 0), .v (.slice none 0 0)], .app 57 5 (cellC ⟨⟨8, 0, t, ns, l⟩, na, nc, ia, ic⟩) (some ⟨kb, 0, none⟩) 1 1] ++ [.dead]) (fun ⟨_, _, _, st, _⟩ => if st.e = 0 then st.s.length + 1 else 0) [] rfl
        (fun _ => rfl) (fun _ => rfl) (fun _ _ => okHB_eq rfl) ⟨(0, [], [], s4, ⟨p2, none, 0, none, 0⟩), ⟨hR2, Nat.zero_le _, ok4, bn4, hn4, ?_, rfl, fun _ => rfl, fun _ => rfl, Nat.le_refl _, Nat.le_refl _, fun s hs => by cases hs⟩, ?_, ?_⟩ ?_
      · have := bn4.pot
        unfold liv
        show 0 + s4.s.length + _ ≤ _
        split <;> omega
      · (repeat' (first | exact trivial | refine And.intro (by with_reducible rfl) ?_ | (with_reducible exact wkC_refl _) | (with_reducible exact wkCs_refl _) | refine And.intro ?_ ?_))
        all_goals rfl
      · exact ⟨wkE_refl _, wkE_refl _, wkE_refl _, wkE_refl _, wkE_refl _, wkE_refl _, wkE_refl _, wkE_refl _, wkE_refl _, by (repeat' (first | exact trivial | exact wkE_refl _ | refine And.intro ?_ ?_))⟩
      rintro ⟨i, ns, l, st5, ⟨p5, na, nc, ia, ic⟩⟩ ⟨h1, h2, h3, h4, h5, h6, h7, h8, h9, h10, h11, h12⟩
      simp only at h8 h9 h10 h11 h3
      ((conv => whnf); (repeat ((first | refine BoxN.own ?_ | refine VrN.norm (wrap_i64 (by omega)) ?_ | refine VrN.keep ?_ | refine DrawN.calm (by decide +kernel) ?_ | refine Nd.mk (by decide +kernel) ?_ | refine Nd.mk (by omega) ?_ | (refine Nd.mk ?_ ?_; focus ((repeat' (first | exact trivial | exact wkE_refl _ | refine And.intro ?_ ?_)); done)) | refine RdN.intro _ rfl (by rfl) ?_); (conv => whnf))))
      by_cases hi : i < m
      · rw [show decide ((i : Int) < (m : Int)) = true by simpa using hi]
        obtain ⟨k, hk⟩ : ∃ k, m - i = k + 1 := ⟨m - i - 1, by omega⟩
        rw [hk, hA] at h1
        ((conv => whnf); (repeat ((first | refine BoxN.own ?_ | refine VrN.norm (wrap_i64 (by omega)) ?_ | refine VrN.keep ?_ | refine DrawN.calm (by decide +kernel) ?_ | refine Nd.mk (by decide +kernel) ?_ | refine Nd.mk (by omega) ?_ | (refine Nd.mk ?_ ?_; focus ((repeat' (first | exact trivial | exact wkE_refl _ | refine And.intro ?_ ?_)); done)) | refine RdN.intro _ rfl (by rfl) ?_); (conv => whnf))))
        -- 4: the field, .int .i64 st5.e: its value
        refine LdN.one (a := some ⟨rb, 0, none⟩) (q := 4) (.int .i64 st5.e) rfl (fun w hw => hw.1) rfl ?_
        ((conv => whnf); (repeat ((first | refine BoxN.own ?_ | refine VrN.norm (wrap_i64 (by omega)) ?_ | refine VrN.keep ?_ | refine DrawN.calm (by decide +kernel) ?_ | refine Nd.mk (by decide +kernel) ?_ | refine Nd.mk (by omega) ?_ | (refine Nd.mk ?_ ?_; focus ((repeat' (first | exact trivial | exact wkE_refl _ | refine And.intro ?_ ?_)); done)) | refine RdN.intro _ rfl (by rfl) ?_); (conv => whnf))))
        by_cases he5 : st5.e = 0
        · rw [show (st5.e == 0) = true by rw [he5]; rfl]
          rw [if_pos he5] at h1
          ((conv => whnf); (repeat ((first | refine BoxN.own ?_ | refine VrN.norm (wrap_i64 (by omega)) ?_ | refine VrN.keep ?_ | refine DrawN.calm (by decide +kernel) ?_ | refine Nd.mk (by decide +kernel) ?_ | refine Nd.mk (by omega) ?_ | (refine Nd.mk ?_ ?_; focus ((repeat' (first | exact trivial | exact wkE_refl _ | refine And.intro ?_ ?_)); done)) | refine RdN.intro _ rfl (by rfl) ?_); (conv => whnf))))
          -- the contract next_m rb st5 p5 is called
          refine callG (next_m rb st5 p5) [0, 1, 2, 3, 4] rfl ⟨rfl, rfl, rfl, rfl, rfl, trivial⟩ rfl fun _ _ => ?_
          have b5 := h4.le (next_le st5)
          have o5 := h3.same (next_keep st5)
          have l5 := name_le ns st5
          have d5 := fuel_keep h5 l5 name_dead
          have hnm : nameM ns st5 = ((symM (nextM st5).1 (nextM st5).2).1, if (symM (nextM st5).1 (nextM st5).2).2.e = 0 ∧ ((symM (nextM st5).1 (nextM st5).2).1 ∈ ns ∨ Go.Scan.iiB (symM (nextM st5).1 (nextM st5).2).1 = false) then failM (symM (nextM st5).1 (nextM st5).2).2 4 else (symM (nextM st5).1 (nextM st5).2).2) := rfl
          have hsy5 := symbol_rd rb (nextM st5).1 (nextM st5).2 p5 o5 (by have := b5.pot; omega)
          have os5 := fun i hi => o5.sym (by have := b5.pot; omega) (nextM st5).1 (i := i) hi
          have tl5 := symM_len (nextM st5).1 (nextM st5).2 (by have := b5.pot; omega) o5.sw
          generalize nextM st5 = qx at hnm hsy5 os5 tl5 ⊢
          obtain ⟨x5, s51⟩ := qx
          simp only at hnm hsy5 os5 tl5
          ((conv => whnf); (repeat ((first | refine BoxN.own ?_ | refine VrN.norm (wrap_i64 (by omega)) ?_ | refine VrN.keep ?_ | refine DrawN.calm (by decide +kernel) ?_ | refine Nd.mk (by decide +kernel) ?_ | refine Nd.mk (by omega) ?_ | (refine Nd.mk ?_ ?_; focus ((repeat' (first | exact trivial | exact wkE_refl _ | refine And.intro ?_ ?_)); done)) | refine RdN.intro _ rfl (by rfl) ?_); (conv => whnf))))
          refine callG hsy5 [0, 1, 2, 3, 4] rfl ⟨rfl, rfl, rfl, rfl, rfl, trivial⟩ rfl fun i6 hi6 => ?_
          have ok6 := os5 i6 hi6
          generalize symM x5 s51 = qs at hnm ok6 tl5 ⊢
          obtain ⟨t6, s6⟩ := qs
          simp only at hnm ok6 tl5
          obtain ⟨p6, hp6⟩ : ∃ p6 : RdP, p6 = { p5 with sa := i6.1, sc := i6.2 } := ⟨_, rfl⟩
          rw [← hp6] at ok6 ⊢
          ((conv => whnf); (repeat ((first | refine BoxN.own ?_ | refine VrN.norm (wrap_i64 (by omega)) ?_ | refine VrN.keep ?_ | refine DrawN.calm (by decide +kernel) ?_ | refine Nd.mk (by decide +kernel) ?_ | refine Nd.mk (by omega) ?_ | (refine Nd.mk ?_ ?_; focus ((repeat' (first | exact trivial | exact wkE_refl _ | refine And.intro ?_ ?_)); done)) | refine RdN.intro _ rfl (by rfl) ?_); (conv => whnf))))
          refine RwN.known [.string (bs t6)] rfl fun nb => ?_
          ((conv => whnf); (repeat ((first | refine BoxN.own ?_ | refine VrN.norm (wrap_i64 (by omega)) ?_ | refine VrN.keep ?_ | refine DrawN.calm (by decide +kernel) ?_ | refine Nd.mk (by decide +kernel) ?_ | refine Nd.mk (by omega) ?_ | (refine Nd.mk ?_ ?_; focus ((repeat' (first | exact trivial | exact wkE_refl _ | refine And.intro ?_ ?_)); done)) | refine RdN.intro _ rfl (by rfl) ?_); (conv => whnf))))
          refine RwN.known [.int .i64 0] rfl fun zb => ?_
          ((conv => whnf); (repeat ((first | refine BoxN.own ?_ | refine VrN.norm (wrap_i64 (by omega)) ?_ | refine VrN.keep ?_ | refine DrawN.calm (by decide +kernel) ?_ | refine Nd.mk (by decide +kernel) ?_ | refine Nd.mk (by omega) ?_ | (refine Nd.mk ?_ ?_; focus ((repeat' (first | exact trivial | exact wkE_refl _ | refine And.intro ?_ ?_)); done)) | refine RdN.intro _ rfl (by rfl) ?_); (conv => whnf))))
          refine RwN.known (cellC ⟨⟨8, 0, [65], [t6], [0]⟩, some ⟨nb, 0, none⟩, 1, some ⟨zb, 0, none⟩, 1⟩) rfl fun ob => ?_
          ((conv => whnf); (repeat ((first | refine BoxN.own ?_ | refine VrN.norm (wrap_i64 (by omega)) ?_ | refine VrN.keep ?_ | refine DrawN.calm (by decide +kernel) ?_ | refine Nd.mk (by decide +kernel) ?_ | refine Nd.mk (by omega) ?_ | (refine Nd.mk ?_ ?_; focus ((repeat' (first | exact trivial | exact wkE_refl _ | refine And.intro ?_ ?_)); done)) | refine RdN.intro _ rfl (by rfl) ?_); (conv => whnf))))
          -- 4: the field, .int .i64 s6.e: its value
          refine LdN.one (a := some ⟨rb, 0, none⟩) (q := 4) (.int .i64 s6.e) rfl (fun w hw => hw.1) rfl ?_
          ((conv => whnf); (repeat ((first | refine BoxN.own ?_ | refine VrN.norm (wrap_i64 (by omega)) ?_ | refine VrN.keep ?_ | refine DrawN.calm (by decide +kernel) ?_ | refine Nd.mk (by decide +kernel) ?_ | refine Nd.mk (by omega) ?_ | (refine Nd.mk ?_ ?_; focus ((repeat' (first | exact trivial | exact wkE_refl _ | refine And.intro ?_ ?_)); done)) | refine RdN.intro _ rfl (by rfl) ?_); (conv => whnf))))
          have hqo : CellOk ⟨⟨8, 0, [65], [t6], [0]⟩, some ⟨nb, 0, none⟩, 1, some ⟨zb, 0, none⟩, 1⟩ := ⟨(fun h => by cases h), (fun h => by cases h), by show 1 ≤ _; omega, by show 1 ≤ _; omega, fun s hs => by obtain rfl := List.mem_singleton.1 hs; omega, by show 1 ≤ _; omega, Nat.le_refl _, Nat.le_refl _⟩
          have hck := check1 ⟨⟨8, 0, [65], [t6], [0]⟩, some ⟨nb, 0, none⟩, 1, some ⟨zb, 0, none⟩, 1⟩ ob hqo ⟨by show 1 ≤ _; omega, by show 1 ≤ _; omega⟩ (Go.Scan.iiB t6) (valid_name t6).symm
          have hll : l.length ≤ 30001 := by omega
          by_cases he6 : s6.e = 0
          · rw [show (s6.e == 0) = true by rw [he6]; rfl]
            ((conv => whnf); (repeat ((first | refine BoxN.own ?_ | refine VrN.norm (wrap_i64 (by omega)) ?_ | refine VrN.keep ?_ | refine DrawN.calm (by decide +kernel) ?_ | refine Nd.mk (by decide +kernel) ?_ | refine Nd.mk (by omega) ?_ | (refine Nd.mk ?_ ?_; focus ((repeat' (first | exact trivial | exact wkE_refl _ | refine And.intro ?_ ?_)); done)) | refine RdN.intro _ rfl (by rfl) ?_); (conv => whnf))))
            -- the object's field 3, whose value is .slice na ns.length nc
            refine LdN.one (a := some ⟨kb, 0, none⟩) (q := 3) (.slice na ns.length nc) rfl (fun w hw => hw.2.2.2.2.2.2.2.1) rfl ?_
            ((conv => whnf); (repeat ((first | refine BoxN.own ?_ | refine VrN.norm (wrap_i64 (by omega)) ?_ | refine VrN.keep ?_ | refine DrawN.calm (by decide +kernel) ?_ | refine Nd.mk (by decide +kernel) ?_ | refine Nd.mk (by omega) ?_ | (refine Nd.mk ?_ ?_; focus ((repeat' (first | exact trivial | exact wkE_refl _ | refine And.intro ?_ ?_)); done)) | refine RdN.intro _ rfl (by rfl) ?_); (conv => whnf))))
            refine call1 (Contains_m na ns nc t6 h8 (by omega) _ (fun w hw => hw.2.2.2.2.2.1)) ?_
            by_cases hmem : t6 ∈ ns
            · rw [show decide (t6 ∈ ns) = true by simpa using hmem]
              rw [if_pos ⟨he6, .inl hmem⟩] at hnm
              ((conv => whnf); (repeat ((first | refine BoxN.own ?_ | refine VrN.norm (wrap_i64 (by omega)) ?_ | refine VrN.keep ?_ | refine DrawN.calm (by decide +kernel) ?_ | refine Nd.mk (by decide +kernel) ?_ | refine Nd.mk (by omega) ?_ | (refine Nd.mk ?_ ?_; focus ((repeat' (first | exact trivial | exact wkE_refl _ | refine And.intro ?_ ?_)); done)) | refine RdN.intro _ rfl (by rfl) ?_); (conv => whnf))))
              -- the contract fail_m rb s6 p6 4 is called
              refine callG (fail_m rb s6 p6 4) [0, 1, 2, 3, 4] rfl ⟨rfl, rfl, rfl, rfl, rfl, trivial⟩ rfl fun _ _ => ?_
              have ok7 := ok6.same (fail_ss s6 4)
              -- the name is put behind the names, a cell is read and put behind the items; the reader is then failM s6 4
              rw [hnm] at h1 l5 d5
              simp only at h1 l5 d5
              have b7 := h4.le l5
              (first | refine wX ?_ | exact wZ)
              -- the object's field 3, whose value is .slice na ns.length nc
              refine LdN.one (a := some ⟨kb, 0, none⟩) (q := 3) (.slice na ns.length nc) rfl (fun w hw => hw.2.2.2.2.2.2.2.1) rfl ?_
              (first | refine wX ?_ | exact wZ)
              refine Nd.mk ⟨Nat.le_refl 1, rfl, rfl⟩ ?_
              (conv => whnf)
              refine AppN.grow 5 (strC ns) [.string (bs t6)] rfl rfl ⟨Nat.le_refl 1, ⟨by show (ns.length + 1) * 16 ≤ _; omega, by omega⟩, by decide⟩ fun nb' nc' g1 g2 => ?_
              (first | refine wX ?_ | exact wZ)
              refine EffW.appTo (i := 8) (q := 3) (ys := [_]) (cellC ⟨⟨8, 0, t, ns ++ [t6], l⟩, some ⟨nb', 0, none⟩, nc', ia, ic⟩) 5 rfl rfl rfl rfl rfl rfl rfl (Nat.le_of_ble_eq_true rfl) (by simp [cellC]) rfl ?_
              (first | refine wXD ?_ | exact wZD)
              refine DrawN.planC (fun w => SlAt (some ⟨kb, 0, none⟩) 5 (cellC ⟨⟨8, 0, t, ns ++ [t6], l⟩, some ⟨nb', 0, none⟩, nc', ia, ic⟩) w) [0, 2] [(1, 1), (3, 0), (4, 0), (5, 0), (6, 2)] [(7, 0)] (by decide +kernel) (fun w hw => hw.2.2.2.2.2.2.2.1) ?_
              -- fun w hw => hw.2.2.2.2.2.2.2.1: why the kind holds
              ((conv => whnf); (repeat ((first | refine Nd.mk (fun w hw => hw.2.2.2.2.2.2.2.1) ?_ | refine RwN.own ?_ | refine VrN.norm (wrap_i64 (by omega)) ?_ | refine VrN.keep ?_ | refine Nd.mk (by decide +kernel) ?_ | refine Nd.mk (by omega) ?_ | refine RdN.intro _ rfl (by rfl) ?_); (conv => whnf))))
              refine ReadC.one (a := some ⟨kb, 0, none⟩) (q := 4) (.slice ia l.length ic) rfl rfl rfl (fun w hw => hw) rfl ?_
              -- fun w hw => hw.2.2.2.2.2.2.2.1: why the kind holds
              ((conv => whnf); (repeat ((first | refine Nd.mk (fun w hw => hw.2.2.2.2.2.2.2.1) ?_ | refine RwN.own ?_ | refine VrN.norm (wrap_i64 (by omega)) ?_ | refine VrN.keep ?_ | refine Nd.mk (by decide +kernel) ?_ | refine Nd.mk (by omega) ?_ | refine RdN.intro _ rfl (by rfl) ?_); (conv => whnf))))
              refine callG (hc rb (failM s6 4) p6 ok7 b7 d5) [0, 1, 2, 3, 4] rfl ⟨rfl, rfl, rfl, rfl, rfl, trivial⟩ rfl fun p7 hp7 => ?_
              have hle := htk.le (failM s6 4)
              have hlt := htk.lt (failM s6 4)
              have hdd := cell_dead_e (n := n) (st := failM s6 4)
              generalize cellM n (failM s6 4) = r at h1 hp7 hle hlt hdd ⊢
              obtain ⟨z, s7⟩ := r
              simp only at h1 hp7 hle hlt hdd
              -- fun w hw => hw.2.2.2.2.2.2.2.1: why the kind holds
              ((conv => whnf); (repeat ((first | refine Nd.mk (fun w hw => hw.2.2.2.2.2.2.2.1) ?_ | refine RwN.own ?_ | refine VrN.norm (wrap_i64 (by omega)) ?_ | refine VrN.keep ?_ | refine Nd.mk (by decide +kernel) ?_ | refine Nd.mk (by omega) ?_ | refine RdN.intro _ rfl (by rfl) ?_); (conv => whnf))))
              refine Nd.mk ⟨Nat.le_refl 1, rfl, rfl⟩ ?_
              (conv => whnf)
              refine AppN.grow 6 (iC l) [.int .i64 z] rfl rfl ⟨Nat.le_refl 1, ⟨by show (l.length + 1) * 8 ≤ _; omega, by omega⟩, by decide⟩ fun ib' ic' g3 g4 => ?_
              -- fun w hw => hw.2.2.2.2.2.2.2.1: why the kind holds
              ((conv => whnf); (repeat ((first | refine Nd.mk (fun w hw => hw.2.2.2.2.2.2.2.1) ?_ | refine RwN.own ?_ | refine VrN.norm (wrap_i64 (by omega)) ?_ | refine VrN.keep ?_ | refine Nd.mk (by decide +kernel) ?_ | refine Nd.mk (by omega) ?_ | refine RdN.intro _ rfl (by rfl) ?_); (conv => whnf))))
              have e1 : iC l ++ [.int .i64 z] = iC (l ++ [z]) := by simp [iC]
              have e2 : l.length + 1 = (l ++ [z]).length := by simp
              have e3 : strC ns ++ [.string (bs t6)] = strC (ns ++ [t6]) := by simp [strC]
              have e4 : ns.length + 1 = (ns ++ [t6]).length := by simp
              refine EffW.appTo (i := 8) (q := 4) (ys := [_]) (cellC ⟨⟨8, 0, t, ns ++ [t6], l ++ [z]⟩, some ⟨nb', 0, none⟩, nc', some ⟨ib', 0, none⟩, ic'⟩) 5 rfl rfl rfl rfl rfl rfl rfl (Nat.le_of_ble_eq_true rfl) (by simp [cellC]) rfl ?_
              -- fun w hw => hw.2.2.2.2.2.2.2.1: why the kind holds
              ((conv => whnf); (repeat ((first | refine Nd.mk (fun w hw => hw.2.2.2.2.2.2.2.1) ?_ | refine RwN.own ?_ | refine VrN.norm (wrap_i64 (by omega)) ?_ | refine VrN.keep ?_ | refine Nd.mk (by decide +kernel) ?_ | refine Nd.mk (by omega) ?_ | refine RdN.intro _ rfl (by rfl) ?_); (conv => whnf))))
              ((conv => whnf); (repeat ((first | refine BoxN.own ?_ | refine VrN.norm (wrap_i64 (by omega)) ?_ | refine VrN.keep ?_ | refine DrawN.calm (by decide +kernel) ?_ | refine Nd.mk (by decide +kernel) ?_ | refine Nd.mk (by omega) ?_ | (refine Nd.mk ?_ ?_; focus ((repeat' (first | exact trivial | exact wkE_refl _ | refine And.intro ?_ ?_)); done)) | refine RdN.intro _ rfl (by rfl) ?_); (conv => whnf))))
              rw [e1, e2, e3, e4]
              refine ⟨(i + 1, ns ++ [t6], l ++ [z], s7, ⟨p7, some ⟨nb', 0, none⟩, nc', some ⟨ib', 0, none⟩, ic'⟩), ⟨by rw [← h1, show m - (i + 1) = k by omega], by show i + 1 ≤ m; omega, hp7, b7.le hle, ?_, ?_, by simp; omega, (fun h => by cases h), (fun h => by cases h), by rw [← e4]; exact g1, by rw [← e2]; exact g3, ?_⟩, ?_, ?_, ?_⟩
              · rcases d5 with h | h
                · exact .inl (Nat.lt_of_le_of_lt hle.s h)
                · refine .inr ?_
                  exact hdd h
              · rw [List.length_append, List.length_singleton]
                have hs := hle.s
                have hs5 := l5.s
                unfold liv at h6 ⊢
                rw [if_pos he5] at h6
                split
                · rename_i h9
                  have := hlt h9
                  omega
                · omega
              · intro y hy
                rcases List.mem_append.1 hy with h | h
                · exact h12 y h
                · rw [List.mem_singleton.1 h]; exact tl5
              · show (if s7.e = 0 then s7.s.length + 1 else 0) < if st5.e = 0 then st5.s.length + 1 else 0
                rw [if_pos he5]
                have hs5 := l5.s
                split
                · rename_i h9
                  have := hlt h9
                  omega
                · omega
              · (repeat' (first | exact trivial | refine And.intro (by with_reducible rfl) ?_ | (with_reducible exact wkC_refl _) | (with_reducible exact wkCs_refl _) | refine And.intro ?_ ?_))
                all_goals first | rfl | exact av_int (by rw [wrap_i64 (by omega)]; omega)
              · exact ⟨wkE_refl _, wkE_refl _, wkE_refl _, wkE_refl _, wkE_refl _, wkE_refl _, wkE_refl _, wkE_refl _, wkE_refl _, by (repeat' (first | exact trivial | exact wkE_refl _ | refine And.intro ?_ ?_))⟩
            · rw [show decide (t6 ∈ ns) = false by simpa using hmem]
              ((conv => whnf); (repeat ((first | refine BoxN.own ?_ | refine VrN.norm (wrap_i64 (by omega)) ?_ | refine VrN.keep ?_ | refine DrawN.calm (by decide +kernel) ?_ | refine Nd.mk (by decide +kernel) ?_ | refine Nd.mk (by omega) ?_ | (refine Nd.mk ?_ ?_; focus ((repeat' (first | exact trivial | exact wkE_refl _ | refine And.intro ?_ ?_)); done)) | refine RdN.intro _ rfl (by rfl) ?_); (conv => whnf))))
              cases hii : Go.Scan.iiB t6 with
              | true =>
                rw [hii] at hck hnm
                rw [if_neg (fun h => h.2.elim hmem (fun h => by cases h))] at hnm
                refine call1 (hck _ (fun w hw => ⟨hw.2.2.2.2.2.2.2.2.2.2.1, hw.2.2.2.2.2.2.2.2.1, hw.2.2.2.2.2.2.2.2.2.1⟩)) ?_
                have ok7 := ok6
                -- the name is put behind the names, a cell is read and put behind the items; the reader is then s6
                rw [hnm] at h1 l5 d5
                simp only at h1 l5 d5
                have b7 := h4.le l5
                (first | refine wX ?_ | exact wZ)
                -- the object's field 3, whose value is .slice na ns.length nc
                refine LdN.one (a := some ⟨kb, 0, none⟩) (q := 3) (.slice na ns.length nc) rfl (fun w hw => hw.2.2.2.2.2.2.2.1) rfl ?_
                (first | refine wX ?_ | exact wZ)
                refine Nd.mk ⟨Nat.le_refl 1, rfl, rfl⟩ ?_
                (conv => whnf)
                refine AppN.grow 5 (strC ns) [.string (bs t6)] rfl rfl ⟨Nat.le_refl 1, ⟨by show (ns.length + 1) * 16 ≤ _; omega, by omega⟩, by decide⟩ fun nb' nc' g1 g2 => ?_
                (first | refine wX ?_ | exact wZ)
                refine EffW.appTo (i := 8) (q := 3) (ys := [_]) (cellC ⟨⟨8, 0, t, ns ++ [t6], l⟩, some ⟨nb', 0, none⟩, nc', ia, ic⟩) 5 rfl rfl rfl rfl rfl rfl rfl (Nat.le_of_ble_eq_true rfl) (by simp [cellC]) rfl ?_
                (first | refine wXD ?_ | exact wZD)
                refine DrawN.planC (fun w => SlAt (some ⟨kb, 0, none⟩) 5 (cellC ⟨⟨8, 0, t, ns ++ [t6], l⟩, some ⟨nb', 0, none⟩, nc', ia, ic⟩) w) [0, 2] [(1, 1), (3, 0), (4, 0), (5, 0), (6, 2)] [(7, 0)] (by decide +kernel) (fun w hw => hw.2.2.2.2.2.2.2.1) ?_
                -- fun w hw => hw.2.2.2.2.2.2.2.1: why the kind holds
                ((conv => whnf); (repeat ((first | refine Nd.mk (fun w hw => hw.2.2.2.2.2.2.2.1) ?_ | refine RwN.own ?_ | refine VrN.norm (wrap_i64 (by omega)) ?_ | refine VrN.keep ?_ | refine Nd.mk (by decide +kernel) ?_ | refine Nd.mk (by omega) ?_ | refine RdN.intro _ rfl (by rfl) ?_); (conv => whnf))))
                refine ReadC.one (a := some ⟨kb, 0, none⟩) (q := 4) (.slice ia l.length ic) rfl rfl rfl (fun w hw => hw) rfl ?_
                -- fun w hw => hw.2.2.2.2.2.2.2.1: why the kind holds
                ((conv => whnf); (repeat ((first | refine Nd.mk (fun w hw => hw.2.2.2.2.2.2.2.1) ?_ | refine RwN.own ?_ | refine VrN.norm (wrap_i64 (by omega)) ?_ | refine VrN.keep ?_ | refine Nd.mk (by decide +kernel) ?_ | refine Nd.mk (by omega) ?_ | refine RdN.intro _ rfl (by rfl) ?_); (conv => whnf))))
                refine callG (hc rb (s6) p6 ok7 b7 d5) [0, 1, 2, 3, 4] rfl ⟨rfl, rfl, rfl, rfl, rfl, trivial⟩ rfl fun p7 hp7 => ?_
                have hle := htk.le (s6)
                have hlt := htk.lt (s6)
                have hdd := cell_dead_e (n := n) (st := s6)
                generalize cellM n (s6) = r at h1 hp7 hle hlt hdd ⊢
                obtain ⟨z, s7⟩ := r
                simp only at h1 hp7 hle hlt hdd
                -- fun w hw => hw.2.2.2.2.2.2.2.1: why the kind holds
                ((conv => whnf); (repeat ((first | refine Nd.mk (fun w hw => hw.2.2.2.2.2.2.2.1) ?_ | refine RwN.own ?_ | refine VrN.norm (wrap_i64 (by omega)) ?_ | refine VrN.keep ?_ | refine Nd.mk (by decide +kernel) ?_ | refine Nd.mk (by omega) ?_ | refine RdN.intro _ rfl (by rfl) ?_); (conv => whnf))))
                refine Nd.mk ⟨Nat.le_refl 1, rfl, rfl⟩ ?_
                (conv => whnf)
                refine AppN.grow 6 (iC l) [.int .i64 z] rfl rfl ⟨Nat.le_refl 1, ⟨by show (l.length + 1) * 8 ≤ _; omega, by omega⟩, by decide⟩ fun ib' ic' g3 g4 => ?_
                -- fun w hw => hw.2.2.2.2.2.2.2.1: why the kind holds
                ((conv => whnf); (repeat ((first | refine Nd.mk (fun w hw => hw.2.2.2.2.2.2.2.1) ?_ | refine RwN.own ?_ | refine VrN.norm (wrap_i64 (by omega)) ?_ | refine VrN.keep ?_ | refine Nd.mk (by decide +kernel) ?_ | refine Nd.mk (by omega) ?_ | refine RdN.intro _ rfl (by rfl) ?_); (conv => whnf))))
                have e1 : iC l ++ [.int .i64 z] = iC (l ++ [z]) := by simp [iC]
                have e2 : l.length + 1 = (l ++ [z]).length := by simp
                have e3 : strC ns ++ [.string (bs t6)] = strC (ns ++ [t6]) := by simp [strC]
                have e4 : ns.length + 1 = (ns ++ [t6]).length := by simp
                refine EffW.appTo (i := 8) (q := 4) (ys := [_]) (cellC ⟨⟨8, 0, t, ns ++ [t6], l ++ [z]⟩, some ⟨nb', 0, none⟩, nc', some ⟨ib', 0, none⟩, ic'⟩) 5 rfl rfl rfl rfl rfl rfl rfl (Nat.le_of_ble_eq_true rfl) (by simp [cellC]) rfl ?_
                -- fun w hw => hw.2.2.2.2.2.2.2.1: why the kind holds
                ((conv => whnf); (repeat ((first | refine Nd.mk (fun w hw => hw.2.2.2.2.2.2.2.1) ?_ | refine RwN.own ?_ | refine VrN.norm (wrap_i64 (by omega)) ?_ | refine VrN.keep ?_ | refine Nd.mk (by decide +kernel) ?_ | refine Nd.mk (by omega) ?_ | refine RdN.intro _ rfl (by rfl) ?_); (conv => whnf))))
                ((conv => whnf); (repeat ((first | refine BoxN.own ?_ | refine VrN.norm (wrap_i64 (by omega)) ?_ | refine VrN.keep ?_ | refine DrawN.calm (by decide +kernel) ?_ | refine Nd.mk (by decide +kernel) ?_ | refine Nd.mk (by omega) ?_ | (refine Nd.mk ?_ ?_; focus ((repeat' (first | exact trivial | exact wkE_refl _ | refine And.intro ?_ ?_)); done)) | refine RdN.intro _ rfl (by rfl) ?_); (conv => whnf))))
                rw [e1, e2, e3, e4]
                refine ⟨(i + 1, ns ++ [t6], l ++ [z], s7, ⟨p7, some ⟨nb', 0, none⟩, nc', some ⟨ib', 0, none⟩, ic'⟩), ⟨by rw [← h1, show m - (i + 1) = k by omega], by show i + 1 ≤ m; omega, hp7, b7.le hle, ?_, ?_, by simp; omega, (fun h => by cases h), (fun h => by cases h), by rw [← e4]; exact g1, by rw [← e2]; exact g3, ?_⟩, ?_, ?_, ?_⟩
                · rcases d5 with h | h
                  · exact .inl (Nat.lt_of_le_of_lt hle.s h)
                  · refine .inr ?_
                    exact hdd h
                · rw [List.length_append, List.length_singleton]
                  have hs := hle.s
                  have hs5 := l5.s
                  unfold liv at h6 ⊢
                  rw [if_pos he5] at h6
                  split
                  · rename_i h9
                    have := hlt h9
                    omega
                  · omega
                · intro y hy
                  rcases List.mem_append.1 hy with h | h
                  · exact h12 y h
                  · rw [List.mem_singleton.1 h]; exact tl5
                · show (if s7.e = 0 then s7.s.length + 1 else 0) < if st5.e = 0 then st5.s.length + 1 else 0
                  rw [if_pos he5]
                  have hs5 := l5.s
                  split
                  · rename_i h9
                    have := hlt h9
                    omega
                  · omega
                · (repeat' (first | exact trivial | refine And.intro (by with_reducible rfl) ?_ | (with_reducible exact wkC_refl _) | (with_reducible exact wkCs_refl _) | refine And.intro ?_ ?_))
                  all_goals first | rfl | exact av_int (by rw [wrap_i64 (by omega)]; omega)
                · exact ⟨wkE_refl _, wkE_refl _, wkE_refl _, wkE_refl _, wkE_refl _, wkE_refl _, wkE_refl _, wkE_refl _, wkE_refl _, by (repeat' (first | exact trivial | exact wkE_refl _ | refine And.intro ?_ ?_))⟩
              | false =>
                rw [hii] at hck hnm
                rw [if_pos ⟨he6, .inr rfl⟩] at hnm
                refine call1 (hck _ (fun w hw => ⟨hw.2.2.2.2.2.2.2.2.2.2.1, hw.2.2.2.2.2.2.2.2.1, hw.2.2.2.2.2.2.2.2.2.1⟩)) ?_
                ((conv => whnf); (repeat ((first | refine BoxN.own ?_ | refine VrN.norm (wrap_i64 (by omega)) ?_ | refine VrN.keep ?_ | refine DrawN.calm (by decide +kernel) ?_ | refine Nd.mk (by decide +kernel) ?_ | refine Nd.mk (by omega) ?_ | (refine Nd.mk ?_ ?_; focus ((repeat' (first | exact trivial | exact wkE_refl _ | refine And.intro ?_ ?_)); done)) | refine RdN.intro _ rfl (by rfl) ?_); (conv => whnf))))
                -- the contract fail_m rb s6 p6 4 is called
                refine callG (fail_m rb s6 p6 4) [0, 1, 2, 3, 4] rfl ⟨rfl, rfl, rfl, rfl, rfl, trivial⟩ rfl fun _ _ => ?_
                have ok7 := ok6.same (fail_ss s6 4)
                -- the name is put behind the names, a cell is read and put behind the items; the reader is then failM s6 4
                rw [hnm] at h1 l5 d5
                simp only at h1 l5 d5
                have b7 := h4.le l5
                (first | refine wX ?_ | exact wZ)
                -- the object's field 3, whose value is .slice na ns.length nc
                refine LdN.one (a := some ⟨kb, 0, none⟩) (q := 3) (.slice na ns.length nc) rfl (fun w hw => hw.2.2.2.2.2.2.2.1) rfl ?_
                (first | refine wX ?_ | exact wZ)
                refine Nd.mk ⟨Nat.le_refl 1, rfl, rfl⟩ ?_
                (conv => whnf)
                refine AppN.grow 5 (strC ns) [.string (bs t6)] rfl rfl ⟨Nat.le_refl 1, ⟨by show (ns.length + 1) * 16 ≤ _; omega, by omega⟩, by decide⟩ fun nb' nc' g1 g2 => ?_
                (first | refine wX ?_ | exact wZ)
                refine EffW.appTo (i := 8) (q := 3) (ys := [_]) (cellC ⟨⟨8, 0, t, ns ++ [t6], l⟩, some ⟨nb', 0, none⟩, nc', ia, ic⟩) 5 rfl rfl rfl rfl rfl rfl rfl (Nat.le_of_ble_eq_true rfl) (by simp [cellC]) rfl ?_
                (first | refine wXD ?_ | exact wZD)
                refine DrawN.planC (fun w => SlAt (some ⟨kb, 0, none⟩) 5 (cellC ⟨⟨8, 0, t, ns ++ [t6], l⟩, some ⟨nb', 0, none⟩, nc', ia, ic⟩) w) [0, 2] [(1, 1), (3, 0), (4, 0), (5, 0), (6, 2)] [(7, 0)] (by decide +kernel) (fun w hw => hw.2.2.2.2.2.2.2.1) ?_
                -- fun w hw => hw.2.2.2.2.2.2.2.1: why the kind holds
                ((conv => whnf); (repeat ((first | refine Nd.mk (fun w hw => hw.2.2.2.2.2.2.2.1) ?_ | refine RwN.own ?_ | refine VrN.norm (wrap_i64 (by omega)) ?_ | refine VrN.keep ?_ | refine Nd.mk (by decide +kernel) ?_ | refine Nd.mk (by omega) ?_ | refine RdN.intro _ rfl (by rfl) ?_); (conv => whnf))))
                refine ReadC.one (a := some ⟨kb, 0, none⟩) (q := 4) (.slice ia l.length ic) rfl rfl rfl (fun w hw => hw) rfl ?_
                -- fun w hw => hw.2.2.2.2.2.2.2.1: why the kind holds
                ((conv => whnf); (repeat ((first | refine Nd.mk (fun w hw => hw.2.2.2.2.2.2.2.1) ?_ | refine RwN.own ?_ | refine VrN.norm (wrap_i64 (by omega)) ?_ | refine VrN.keep ?_ | refine Nd.mk (by decide +kernel) ?_ | refine Nd.mk (by omega) ?_ | refine RdN.intro _ rfl (by rfl) ?_); (conv => whnf))))
                refine callG (hc rb (failM s6 4) p6 ok7 b7 d5) [0, 1, 2, 3, 4] rfl ⟨rfl, rfl, rfl, rfl, rfl, trivial⟩ rfl fun p7 hp7 => ?_
                have hle := htk.le (failM s6 4)
                have hlt := htk.lt (failM s6 4)
                have hdd := cell_dead_e (n := n) (st := failM s6 4)
                generalize cellM n (failM s6 4) = r at h1 hp7 hle hlt hdd ⊢
                obtain ⟨z, s7⟩ := r
                simp only at h1 hp7 hle hlt hdd
                -- fun w hw => hw.2.2.2.2.2.2.2.1: why the kind holds
                ((conv => whnf); (repeat ((first | refine Nd.mk (fun w hw => hw.2.2.2.2.2.2.2.1) ?_ | refine RwN.own ?_ | refine VrN.norm (wrap_i64 (by omega)) ?_ | refine VrN.keep ?_ | refine Nd.mk (by decide +kernel) ?_ | refine Nd.mk (by omega) ?_ | refine RdN.intro _ rfl (by rfl) ?_); (conv => whnf))))
                refine Nd.mk ⟨Nat.le_refl 1, rfl, rfl⟩ ?_
                (conv => whnf)
                refine AppN.grow 6 (iC l) [.int .i64 z] rfl rfl ⟨Nat.le_refl 1, ⟨by show (l.length + 1) * 8 ≤ _; omega, by omega⟩, by decide⟩ fun ib' ic' g3 g4 => ?_
                -- fun w hw => hw.2.2.2.2.2.2.2.1: why the kind holds
                ((conv => whnf); (repeat ((first | refine Nd.mk (fun w hw => hw.2.2.2.2.2.2.2.1) ?_ | refine RwN.own ?_ | refine VrN.norm (wrap_i64 (by omega)) ?_ | refine VrN.keep ?_ | refine Nd.mk (by decide +kernel) ?_ | refine Nd.mk (by omega) ?_ | refine RdN.intro _ rfl (by rfl) ?_); (conv => whnf))))
                have e1 : iC l ++ [.int .i64 z] = iC (l ++ [z]) := by simp [iC]
                have e2 : l.length + 1 = (l ++ [z]).length := by simp
                have e3 : strC ns ++ [.string (bs t6)] = strC (ns ++ [t6]) := by simp [strC]
                have e4 : ns.length + 1 = (ns ++ [t6]).length := by simp
                refine EffW.appTo (i := 8) (q := 4) (ys := [_]) (cellC ⟨⟨8, 0, t, ns ++ [t6], l ++ [z]⟩, some ⟨nb', 0, none⟩, nc', some ⟨ib', 0, none⟩, ic'⟩) 5 rfl rfl rfl rfl rfl rfl rfl (Nat.le_of_ble_eq_true rfl) (by simp [cellC]) rfl ?_
                -- fun w hw => hw.2.2.2.2.2.2.2.1: why the kind holds
                ((conv => whnf); (repeat ((first | refine Nd.mk (fun w hw => hw.2.2.2.2.2.2.2.1) ?_ | refine RwN.own ?_ | refine VrN.norm (wrap_i64 (by omega)) ?_ | refine VrN.keep ?_ | refine Nd.mk (by decide +kernel) ?_ | refine Nd.mk (by omega) ?_ | refine RdN.intro _ rfl (by rfl) ?_); (conv => whnf))))
                ((conv => whnf); (repeat ((first | refine BoxN.own ?_ | refine VrN.norm (wrap_i64 (by omega)) ?_ | refine VrN.keep ?_ | refine DrawN.calm (by decide +kernel) ?_ | refine Nd.mk (by decide +kernel) ?_ | refine Nd.mk (by omega) ?_ | (refine Nd.mk ?_ ?_; focus ((repeat' (first | exact trivial | exact wkE_refl _ | refine And.intro ?_ ?_)); done)) | refine RdN.intro _ rfl (by rfl) ?_); (conv => whnf))))
                rw [e1, e2, e3, e4]
                refine ⟨(i + 1, ns ++ [t6], l ++ [z], s7, ⟨p7, some ⟨nb', 0, none⟩, nc', some ⟨ib', 0, none⟩, ic'⟩), ⟨by rw [← h1, show m - (i + 1) = k by omega], by show i + 1 ≤ m; omega, hp7, b7.le hle, ?_, ?_, by simp; omega, (fun h => by cases h), (fun h => by cases h), by rw [← e4]; exact g1, by rw [← e2]; exact g3, ?_⟩, ?_, ?_, ?_⟩
                · rcases d5 with h | h
                  · exact .inl (Nat.lt_of_le_of_lt hle.s h)
                  · refine .inr ?_
                    exact hdd h
                · rw [List.length_append, List.length_singleton]
                  have hs := hle.s
                  have hs5 := l5.s
                  unfold liv at h6 ⊢
                  rw [if_pos he5] at h6
                  split
                  · rename_i h9
                    have := hlt h9
                    omega
                  · omega
                · intro y hy
                  rcases List.mem_append.1 hy with h | h
                  · exact h12 y h
                  · rw [List.mem_singleton.1 h]; exact tl5
                · show (if s7.e = 0 then s7.s.length + 1 else 0) < if st5.e = 0 then st5.s.length + 1 else 0
                  rw [if_pos he5]
                  have hs5 := l5.s
                  split
                  · rename_i h9
                    have := hlt h9
                    omega
                  · omega
                · (repeat' (first | exact trivial | refine And.intro (by with_reducible rfl) ?_ | (with_reducible exact wkC_refl _) | (with_reducible exact wkCs_refl _) | refine And.intro ?_ ?_))
                  all_goals first | rfl | exact av_int (by rw [wrap_i64 (by omega)]; omega)
                · exact ⟨wkE_refl _, wkE_refl _, wkE_refl _, wkE_refl _, wkE_refl _, wkE_refl _, wkE_refl _, wkE_refl _, wkE_refl _, by (repeat' (first | exact trivial | exact wkE_refl _ | refine And.intro ?_ ?_))⟩
          · rw [show (s6.e == 0) = false by simpa using he6]
            rw [if_neg (fun h => he6 h.1)] at hnm
            have ok7 := ok6
            -- the name is put behind the names, a cell is read and put behind the items; the reader is then s6
            rw [hnm] at h1 l5 d5
            simp only at h1 l5 d5
            have b7 := h4.le l5
            (first | refine wX ?_ | exact wZ)
            -- the object's field 3, whose value is .slice na ns.length nc
            refine LdN.one (a := some ⟨kb, 0, none⟩) (q := 3) (.slice na ns.length nc) rfl (fun w hw => hw.2.2.2.2.2.2.2.1) rfl ?_
            (first | refine wX ?_ | exact wZ)
            refine Nd.mk ⟨Nat.le_refl 1, rfl, rfl⟩ ?_
            (conv => whnf)
            refine AppN.grow 5 (strC ns) [.string (bs t6)] rfl rfl ⟨Nat.le_refl 1, ⟨by show (ns.length + 1) * 16 ≤ _; omega, by omega⟩, by decide⟩ fun nb' nc' g1 g2 => ?_
            (first | refine wX ?_ | exact wZ)
            refine EffW.appTo (i := 8) (q := 3) (ys := [_]) (cellC ⟨⟨8, 0, t, ns ++ [t6], l⟩, some ⟨nb', 0, none⟩, nc', ia, ic⟩) 5 rfl rfl rfl rfl rfl rfl rfl (Nat.le_of_ble_eq_true rfl) (by simp [cellC]) rfl ?_
            (first | refine wXD ?_ | exact wZD)
            refine DrawN.planC (fun w => SlAt (some ⟨kb, 0, none⟩) 5 (cellC ⟨⟨8, 0, t, ns ++ [t6], l⟩, some ⟨nb', 0, none⟩, nc', ia, ic⟩) w) [0, 2] [(1, 1), (3, 0), (4, 0), (5, 0), (6, 2)] [(7, 0)] (by decide +kernel) (fun w hw => hw.2.2.2.2.2.2.2.1) ?_
            -- fun w hw => hw.2.2.2.2.2.2.2.1: why the kind holds
            ((conv => whnf); (repeat ((first | refine Nd.mk (fun w hw => hw.2.2.2.2.2.2.2.1) ?_ | refine RwN.own ?_ | refine VrN.norm (wrap_i64 (by omega)) ?_ | refine VrN.keep ?_ | refine Nd.mk (by decide +kernel) ?_ | refine Nd.mk (by omega) ?_ | refine RdN.intro _ rfl (by rfl) ?_); (conv => whnf))))
            refine ReadC.one (a := some ⟨kb, 0, none⟩) (q := 4) (.slice ia l.length ic) rfl rfl rfl (fun w hw => hw) rfl ?_
            -- fun w hw => hw.2.2.2.2.2.2.2.1: why the kind holds
            ((conv => whnf); (repeat ((first | refine Nd.mk (fun w hw => hw.2.2.2.2.2.2.2.1) ?_ | refine RwN.own ?_ | refine VrN.norm (wrap_i64 (by omega)) ?_ | refine VrN.keep ?_ | refine Nd.mk (by decide +kernel) ?_ | refine Nd.mk (by omega) ?_ | refine RdN.intro _ rfl (by rfl) ?_); (conv => whnf))))
            refine callG (hc rb (s6) p6 ok7 b7 d5) [0, 1, 2, 3, 4] rfl ⟨rfl, rfl, rfl, rfl, rfl, trivial⟩ rfl fun p7 hp7 => ?_
            have hle := htk.le (s6)
            have hlt := htk.lt (s6)
            have hdd := cell_dead_e (n := n) (st := s6)
            generalize cellM n (s6) = r at h1 hp7 hle hlt hdd ⊢
            obtain ⟨z, s7⟩ := r
            simp only at h1 hp7 hle hlt hdd
            -- fun w hw => hw.2.2.2.2.2.2.2.1: why the kind holds
            ((conv => whnf); (repeat ((first | refine Nd.mk (fun w hw => hw.2.2.2.2.2.2.2.1) ?_ | refine RwN.own ?_ | refine VrN.norm (wrap_i64 (by omega)) ?_ | refine VrN.keep ?_ | refine Nd.mk (by decide +kernel) ?_ | refine Nd.mk (by omega) ?_ | refine RdN.intro _ rfl (by rfl) ?_); (conv => whnf))))
            refine Nd.mk ⟨Nat.le_refl 1, rfl, rfl⟩ ?_
            (conv => whnf)
            refine AppN.grow 6 (iC l) [.int .i64 z] rfl rfl ⟨Nat.le_refl 1, ⟨by show (l.length + 1) * 8 ≤ _; omega, by omega⟩, by decide⟩ fun ib' ic' g3 g4 => ?_
            -- fun w hw => hw.2.2.2.2.2.2.2.1: why the kind holds
            ((conv => whnf); (repeat ((first | refine Nd.mk (fun w hw => hw.2.2.2.2.2.2.2.1) ?_ | refine RwN.own ?_ | refine VrN.norm (wrap_i64 (by omega)) ?_ | refine VrN.keep ?_ | refine Nd.mk (by decide +kernel) ?_ | refine Nd.mk (by omega) ?_ | refine RdN.intro _ rfl (by rfl) ?_); (conv => whnf))))
            have e1 : iC l ++ [.int .i64 z] = iC (l ++ [z]) := by simp [iC]
            have e2 : l.length + 1 = (l ++ [z]).length := by simp
            have e3 : strC ns ++ [.string (bs t6)] = strC (ns ++ [t6]) := by simp [strC]
            have e4 : ns.length + 1 = (ns ++ [t6]).length := by simp
            refine EffW.appTo (i := 8) (q := 4) (ys := [_]) (cellC ⟨⟨8, 0, t, ns ++ [t6], l ++ [z]⟩, some ⟨nb', 0, none⟩, nc', some ⟨ib', 0, none⟩, ic'⟩) 5 rfl rfl rfl rfl rfl rfl rfl (Nat.le_of_ble_eq_true rfl) (by simp [cellC]) rfl ?_
            -- fun w hw => hw.2.2.2.2.2.2.2.1: why the kind holds
            ((conv => whnf); (repeat ((first | refine Nd.mk (fun w hw => hw.2.2.2.2.2.2.2.1) ?_ | refine RwN.own ?_ | refine VrN.norm (wrap_i64 (by omega)) ?_ | refine VrN.keep ?_ | refine Nd.mk (by decide +kernel) ?_ | refine Nd.mk (by omega) ?_ | refine RdN.intro _ rfl (by rfl) ?_); (conv => whnf))))
            ((conv => whnf); (repeat ((first | refine BoxN.own ?_ | refine VrN.norm (wrap_i64 (by omega)) ?_ | refine VrN.keep ?_ | refine DrawN.calm (by decide +kernel) ?_ | refine Nd.mk (by decide +kernel) ?_ | refine Nd.mk (by omega) ?_ | (refine Nd.mk ?_ ?_; focus ((repeat' (first | exact trivial | exact wkE_refl _ | refine And.intro ?_ ?_)); done)) | refine RdN.intro _ rfl (by rfl) ?_); (conv => whnf))))
            rw [e1, e2, e3, e4]
            refine ⟨(i + 1, ns ++ [t6], l ++ [z], s7, ⟨p7, some ⟨nb', 0, none⟩, nc', some ⟨ib', 0, none⟩, ic'⟩), ⟨by rw [← h1, show m - (i + 1) = k by omega], by show i + 1 ≤ m; omega, hp7, b7.le hle, ?_, ?_, by simp; omega, (fun h => by cases h), (fun h => by cases h), by rw [← e4]; exact g1, by rw [← e2]; exact g3, ?_⟩, ?_, ?_, ?_⟩
            · rcases d5 with h | h
              · exact .inl (Nat.lt_of_le_of_lt hle.s h)
              · refine .inr ?_
                exact hdd h
            · rw [List.length_append, List.length_singleton]
              have hs := hle.s
              have hs5 := l5.s
              unfold liv at h6 ⊢
              rw [if_pos he5] at h6
              split
              · rename_i h9
                have := hlt h9
                omega
              · omega
            · intro y hy
              rcases List.mem_append.1 hy with h | h
              · exact h12 y h
              · rw [List.mem_singleton.1 h]; exact tl5
            · show (if s7.e = 0 then s7.s.length + 1 else 0) < if st5.e = 0 then st5.s.length + 1 else 0
              rw [if_pos he5]
              have hs5 := l5.s
              split
              · rename_i h9
                have := hlt h9
                omega
              · omega
            · (repeat' (first | exact trivial | refine And.intro (by with_reducible rfl) ?_ | (with_reducible exact wkC_refl _) | (with_reducible exact wkCs_refl _) | refine And.intro ?_ ?_))
              all_goals first | rfl | exact av_int (by rw [wrap_i64 (by omega)]; omega)
            · exact ⟨wkE_refl _, wkE_refl _, wkE_refl _, wkE_refl _, wkE_refl _, wkE_refl _, wkE_refl _, wkE_refl _, wkE_refl _, by (repeat' (first | exact trivial | exact wkE_refl _ | refine And.intro ?_ ?_))⟩
        · rw [show (st5.e == 0) = false by simpa using he5]
          rw [if_neg he5] at h1
          subst h1
          subst hR
          ((conv => whnf); (repeat ((first | refine BoxN.own ?_ | refine VrN.norm (wrap_i64 (by omega)) ?_ | refine VrN.keep ?_ | refine DrawN.calm (by decide +kernel) ?_ | refine Nd.mk (by decide +kernel) ?_ | refine Nd.mk (by omega) ?_ | (refine Nd.mk ?_ ?_; focus ((repeat' (first | exact trivial | exact wkE_refl _ | refine And.intro ?_ ?_)); done)) | refine RdN.intro _ rfl (by rfl) ?_); (conv => whnf))))
          refine LdN.agg (a := some ⟨kb, 0, none⟩) (q := 0) (cellC ⟨⟨8, 0, t, ns, l⟩, na, nc, ia, ic⟩) rfl (fun w hw => hw.2.2.2.2.2.2.2.1) rfl (fun j _ => by rw [Nat.zero_add]) ?_
          ((conv => whnf); (repeat ((first | refine BoxN.own ?_ | refine VrN.norm (wrap_i64 (by omega)) ?_ | refine VrN.keep ?_ | refine DrawN.calm (by decide +kernel) ?_ | refine Nd.mk (by decide +kernel) ?_ | refine Nd.mk (by omega) ?_ | (refine Nd.mk ?_ ?_; focus ((repeat' (first | exact trivial | exact wkE_refl _ | refine And.intro ?_ ?_)); done)) | refine RdN.intro _ rfl (by rfl) ?_); (conv => whnf))))
          exact ⟨⟨p5, na, nc, ia, ic⟩, ⟨h3, ⟨h8, h9, by show ns.length ≤ _; omega, by show l.length ≤ _; omega, fun s hs => Nat.le_trans (h12 s hs) (by omega), by show t.length ≤ _; omega, h10, h11⟩⟩, rfl, wkE_refl _, wkE_refl _, wkE_refl _, wkE_refl _, wkE_refl _, wkE_refl _, wkE_refl _, wkH_nil _⟩
      · rw [show decide ((i : Int) < (m : Int)) = false by simpa using hi]
        rw [show m - i = 0 by omega] at h1
        have h1 : ((ns, l), st5) = R2 := h1
        subst h1
        subst hR
        ((conv => whnf); (repeat ((first | refine BoxN.own ?_ | refine VrN.norm (wrap_i64 (by omega)) ?_ | refine VrN.keep ?_ | refine DrawN.calm (by decide +kernel) ?_ | refine Nd.mk (by decide +kernel) ?_ | refine Nd.mk (by omega) ?_ | (refine Nd.mk ?_ ?_; focus ((repeat' (first | exact trivial | exact wkE_refl _ | refine And.intro ?_ ?_)); done)) | refine RdN.intro _ rfl (by rfl) ?_); (conv => whnf))))
        refine LdN.agg (a := some ⟨kb, 0, none⟩) (q := 0) (cellC ⟨⟨8, 0, t, ns, l⟩, na, nc, ia, ic⟩) rfl (fun w hw => hw.2.2.2.2.2.2.2.1) rfl (fun j _ => by rw [Nat.zero_add]) ?_
        ((conv => whnf); (repeat ((first | refine BoxN.own ?_ | refine VrN.norm (wrap_i64 (by omega)) ?_ | refine VrN.keep ?_ | refine DrawN.calm (by decide +kernel) ?_ | refine Nd.mk (by decide +kernel) ?_ | refine Nd.mk (by omega) ?_ | (refine Nd.mk ?_ ?_; focus ((repeat' (first | exact trivial | exact wkE_refl _ | refine And.intro ?_ ?_)); done)) | refine RdN.intro _ rfl (by rfl) ?_); (conv => whnf))))
        exact ⟨⟨p5, na, nc, ia, ic⟩, ⟨h3, ⟨h8, h9, by show ns.length ≤ _; omega, by show l.length ≤ _; omega, fun s hs => Nat.le_trans (h12 s hs) (by omega), by show t.length ≤ _; omega, h10, h11⟩⟩, rfl, wkE_refl _, wkE_refl _, wkE_refl _, wkE_refl _, wkE_refl _, wkE_refl _, wkE_refl _, wkH_nil _⟩
    | false =>
      rw [hic] at hck hcl
      rw [if_pos ⟨he, rfl⟩] at hcl
      rw [hcl] at hR2 hR bn hnc
      simp only at hR2 hR bn hnc
      refine call1 (hck _ (fun w hw => hF w hw.2.2.2.2.2.2.2.2.1)) ?_
      ((conv => whnf); (repeat ((first | refine BoxN.own ?_ | refine VrN.norm (wrap_i64 (by omega)) ?_ | refine VrN.keep ?_ | refine DrawN.calm (by decide +kernel) ?_ | refine Nd.mk (by decide +kernel) ?_ | refine Nd.mk (by omega) ?_ | (refine Nd.mk ?_ ?_; focus ((repeat' (first | exact trivial | exact wkE_refl _ | refine And.intro ?_ ?_)); done)) | refine RdN.intro _ rfl (by rfl) ?_); (conv => whnf))))
      -- the contract fail_m rb s2 p2 4 is called
      refine callG (fail_m rb s2 p2 4) [0, 1, 2, 3, 4] rfl ⟨rfl, rfl, rfl, rfl, rfl, trivial⟩ rfl fun _ _ => ?_
      have ok3 := ok2.same (fail_ss s2 4)
      -- the number of names, and the names with their items, behind the class failM s2 4
      ((conv => whnf); (repeat ((first | refine BoxN.own ?_ | refine VrN.norm (wrap_i64 (by omega)) ?_ | refine VrN.keep ?_ | refine DrawN.calm (by decide +kernel) ?_ | refine Nd.mk (by decide +kernel) ?_ | refine Nd.mk (by omega) ?_ | (refine Nd.mk ?_ ?_; focus ((repeat' (first | exact trivial | exact wkE_refl _ | refine And.intro ?_ ?_)); done)) | refine RdN.intro _ rfl (by rfl) ?_); (conv => whnf))))
      -- the contract number_m rb (failM s2 4) p2 maxN (by decide) is called
      refine callG (number_m rb (failM s2 4) p2 maxN (by decide)) [0, 1, 2, 3, 4] rfl ⟨rfl, rfl, rfl, rfl, rfl, trivial⟩ rfl fun _ _ => ?_
      have bn4 := bn.le (num_le maxN (failM s2 4))
      have ok4 := ok3.same (num_keep maxN (failM s2 4))
      have hm4 := num_most maxN (failM s2 4)
      have hn4 := fuel_keep hnc (num_le maxN (failM s2 4)) (fun h => by rw [num_dead h])
      generalize numM maxN (failM s2 4) = qn at hR2 bn4 ok4 hm4 hn4 ⊢
      obtain ⟨m, s4⟩ := qn
      simp only at hR2 bn4 ok4 hm4 hn4
      have hm5 : m ≤ 1000000000000000 := hm4
      ((conv => whnf); (repeat ((first | refine BoxN.own ?_ | refine VrN.norm (wrap_i64 (by omega)) ?_ | refine VrN.keep ?_ | refine DrawN.calm (by decide +kernel) ?_ | refine Nd.mk (by decide +kernel) ?_ | refine Nd.mk (by omega) ?_ | (refine Nd.mk ?_ ?_; focus ((repeat' (first | exact trivial | exact wkE_refl _ | refine And.intro ?_ ?_)); done)) | refine RdN.intro _ rfl (by rfl) ?_); (conv => whnf))))
      refine LoopN.intro (Nat × List (List UInt8) × List Int × PS × ObP) (fun ⟨i, ns, l, st, q⟩ => attrsM (cellM n) (m - i) ns l st = R2 ∧ i ≤ m ∧ RdOk st q.p ∧ Bd st ∧ (st.s.length < n ∨ st.e ≠ 0) ∧ l.length + st.s.length + liv st ≤ 30001 ∧ ns.length = l.length ∧ (q.na = none → ns = []) ∧ (q.ia = none → l = []) ∧ ns.length ≤ q.nc ∧ l.length ≤ q.ic ∧ ∀ s ∈ ns, s.length ≤ 30000)
        (fun ⟨i, _, _, _, _⟩ => mkS Tryz.f107.ntmps 0 [(0, .c (.v (.pointer (some ⟨rb, 0, none⟩)))), (2, .c (.lp 7 0)), (3, .c (.v (.pointer (some ⟨kb, 0, none⟩)))), (4, .c (.v (.int .i64 (m : Int)))), (5, .c (.v (.int .i64 (i : Int))))])
        (fun ⟨_, ns, l, st, ⟨p, na, nc, ia, ic⟩⟩ => rdE rb st p ++ [ownS ns na nc, ownI l ia ic, .blk 57 [.v (.int .i64 0), .v (.int .i64 0), .v (.string ⟨#[]⟩), .v (.slice none 0 0), .v (.slice none 0 0)], .app 57 5 (cellC ⟨⟨8, 0, t, ns, l⟩, na, nc, ia, ic⟩) (some ⟨kb, 0, none⟩) 1 1] ++ [.dead]) (fun ⟨_, _, _, st, _⟩ => if st.e = 0 then st.s.length + 1 else 0) [] rfl
        (fun _ => rfl) (fun _ => rfl) (fun _ _ => okHB_eq rfl) ⟨(0, [], [], s4, ⟨p2, none, 0, none, 0⟩), ⟨hR2, Nat.zero_le _, ok4, bn4, hn4, ?_, rfl, fun _ => rfl, fun _ => rfl, Nat.le_refl _, Nat.le_refl _, fun s hs => by cases hs⟩, ?_, ?_⟩ ?_
      · have := bn4.pot
        unfold liv
        show 0 + s4.s.length + _ ≤ _
        split <;> omega
      · (repeat' (first | exact trivial | refine And.intro (by with_reducible rfl) ?_ | (with_reducible exact wkC_refl _) | (with_reducible exact wkCs_refl _) | refine And.intro ?_ ?_))
        all_goals rfl
      · exact ⟨wkE_refl _, wkE_refl _, wkE_refl _, wkE_refl _, wkE_refl _, wkE_refl _, wkE_refl _, wkE_refl _, wkE_refl _, by (repeat' (first | exact trivial | exact wkE_refl _ | refine And.intro ?_ ?_))⟩
      rintro ⟨i, ns, l, st5, ⟨p5, na, nc, ia, ic⟩⟩ ⟨h1, h2, h3, h4, h5, h6, h7, h8, h9, h10, h11, h12⟩
      simp only at h8 h9 h10 h11 h3
      ((conv => whnf); (repeat ((first | refine BoxN.own ?_ | refine VrN.norm (wrap_i64 (by omega)) ?_ | refine VrN.keep ?_ | refine DrawN.calm (by decide +kernel) ?_ | refine Nd.mk (by decide +kernel) ?_ | refine Nd.mk (by omega) ?_ | (refine Nd.mk ?_ ?_; focus ((repeat' (first | exact trivial | exact wkE_refl _ | refine And.intro ?_ ?_)); done)) | refine RdN.intro _ rfl (by rfl) ?_); (conv => whnf))))
      by_cases hi : i < m
      · rw [show decide ((i : Int) < (m : Int)) = true by simpa using hi]
        obtain ⟨k, hk⟩ : ∃ k, m - i = k + 1 := ⟨m - i - 1, by omega⟩
        rw [hk, hA] at h1
        ((conv => whnf); (repeat ((first | refine BoxN.own ?_ | refine VrN.norm (wrap_i64 (by omega)) ?_ | refine VrN.keep ?_ | refine DrawN.calm (by decide +kernel) ?_ | refine Nd.mk (by decide +kernel) ?_ | refine Nd.mk (by omega) ?_ | (refine Nd.mk ?_ ?_; focus ((repeat' (first | exact trivial | exact wkE_refl _ | refine And.intro ?_ ?_)); done)) | refine RdN.intro _ rfl (by rfl) ?_); (conv => whnf))))
        -- 4: the field, .int .i64 st5.e: its value
        refine LdN.one (a := some ⟨rb, 0, none⟩) (q := 4) (.int .i64 st5.e) rfl (fun w hw => hw.1) rfl ?_
        ((conv => whnf); (repeat ((first | refine BoxN.own ?_ | refine VrN.norm (wrap_i64 (by omega)) ?_ | refine VrN.keep ?_ | refine DrawN.calm (by decide +kernel) ?_ | refine Nd.mk (by decide +kernel) ?_ | refine Nd.mk (by omega) ?_ | (refine Nd.mk ?_ ?_; focus ((repeat' (first | exact trivial | exact wkE_refl _ | refine And.intro ?_ ?_)); done)) | refine RdN.intro _ rfl (by rfl) ?_); (conv => whnf))))
        by_cases he5 : st5.e = 0
        · rw [show (st5.e == 0) = true by rw [he5]; rfl]
          rw [if_pos he5] at h1
          ((conv => whnf); (repeat ((first | refine BoxN.own ?_ | refine VrN.norm (wrap_i64 (by omega)) ?_ | refine VrN.keep ?_ | refine DrawN.calm (by decide +kernel) ?_ | refine Nd.mk (by decide +kernel) ?_ | refine Nd.mk (by omega) ?_ | (refine Nd.mk ?_ ?_; focus ((repeat' (first | exact trivial | exact wkE_refl _ | refine And.intro ?_ ?_)); done)) | refine RdN.intro _ rfl (by rfl) ?_); (conv => whnf))))
          -- the contract next_m rb st5 p5 is called
          refine callG (next_m rb st5 p5) [0, 1, 2, 3, 4] rfl ⟨rfl, rfl, rfl, rfl, rfl, trivial⟩ rfl fun _ _ => ?_
          have b5 := h4.le (next_le st5)
          have o5 := h3.same (next_keep st5)
          have l5 := name_le ns st5
          have d5 := fuel_keep h5 l5 name_dead
          have hnm : nameM ns st5 = ((symM (nextM st5).1 (nextM st5).2).1, if (symM (nextM st5).1 (nextM st5).2).2.e = 0 ∧ ((symM (nextM st5).1 (nextM st5).2).1 ∈ ns ∨ Go.Scan.iiB (symM (nextM st5).1 (nextM st5).2).1 = false) then failM (symM (nextM st5).1 (nextM st5).2).2 4 else (symM (nextM st5).1 (nextM st5).2).2) := rfl
          have hsy5 := symbol_rd rb (nextM st5).1 (nextM st5).2 p5 o5 (by have := b5.pot; omega)
          have os5 := fun i hi => o5.sym (by have := b5.pot; omega) (nextM st5).1 (i := i) hi
          have tl5 := symM_len (nextM st5).1 (nextM st5).2 (by have := b5.pot; omega) o5.sw
          generalize nextM st5 = qx at hnm hsy5 os5 tl5 ⊢
          obtain ⟨x5, s51⟩ := qx
          simp only at hnm hsy5 os5 tl5
          ((conv => whnf); (repeat ((first | refine BoxN.own ?_ | refine VrN.norm (wrap_i64 (by omega)) ?_ | refine VrN.keep ?_ | refine DrawN.calm (by decide +kernel) ?_ | refine Nd.mk (by decide +kernel) ?_ | refine Nd.mk (by omega) ?_ | (refine Nd.mk ?_ ?_; focus ((repeat' (first | exact trivial | exact wkE_refl _ | refine And.intro ?_ ?_)); done)) | refine RdN.intro _ rfl (by rfl) ?_); (conv => whnf))))
          refine callG hsy5 [0, 1, 2, 3, 4] rfl ⟨rfl, rfl, rfl, rfl, rfl, trivial⟩ rfl fun i6 hi6 => ?_
          have ok6 := os5 i6 hi6
          generalize symM x5 s51 = qs at hnm ok6 tl5 ⊢
          obtain ⟨t6, s6⟩ := qs
          simp only at hnm ok6 tl5
          obtain ⟨p6, hp6⟩ : ∃ p6 : RdP, p6 = { p5 with sa := i6.1, sc := i6.2 } := ⟨_, rfl⟩
          rw [← hp6] at ok6 ⊢
          ((conv => whnf); (repeat ((first | refine BoxN.own ?_ | refine VrN.norm (wrap_i64 (by omega)) ?_ | refine VrN.keep ?_ | refine DrawN.calm (by decide +kernel) ?_ | refine Nd.mk (by decide +kernel) ?_ | refine Nd.mk (by omega) ?_ | (refine Nd.mk ?_ ?_; focus ((repeat' (first | exact trivial | exact wkE_refl _ | refine And.intro ?_ ?_)); done)) | refine RdN.intro _ rfl (by rfl) ?_); (conv => whnf))))
          refine RwN.known [.string (bs t6)] rfl fun nb => ?_
          ((conv => whnf); (repeat ((first | refine BoxN.own ?_ | refine VrN.norm (wrap_i64 (by omega)) ?_ | refine VrN.keep ?_ | refine DrawN.calm (by decide +kernel) ?_ | refine Nd.mk (by decide +kernel) ?_ | refine Nd.mk (by omega) ?_ | (refine Nd.mk ?_ ?_; focus ((repeat' (first | exact trivial | exact wkE_refl _ | refine And.intro ?_ ?_)); done)) | refine RdN.intro _ rfl (by rfl) ?_); (conv => whnf))))
          refine RwN.known [.int .i64 0] rfl fun zb => ?_
          ((conv => whnf); (repeat ((first | refine BoxN.own ?_ | refine VrN.norm (wrap_i64 (by omega)) ?_ | refine VrN.keep ?_ | refine DrawN.calm (by decide +kernel) ?_ | refine Nd.mk (by decide +kernel) ?_ | refine Nd.mk (by omega) ?_ | (refine Nd.mk ?_ ?_; focus ((repeat' (first | exact trivial | exact wkE_refl _ | refine And.intro ?_ ?_)); done)) | refine RdN.intro _ rfl (by rfl) ?_); (conv => whnf))))
          refine RwN.known (cellC ⟨⟨8, 0, [65], [t6], [0]⟩, some ⟨nb, 0, none⟩, 1, some ⟨zb, 0, none⟩, 1⟩) rfl fun ob => ?_
          ((conv => whnf); (repeat ((first | refine BoxN.own ?_ | refine VrN.norm (wrap_i64 (by omega)) ?_ | refine VrN.keep ?_ | refine DrawN.calm (by decide +kernel) ?_ | refine Nd.mk (by decide +kernel) ?_ | refine Nd.mk (by omega) ?_ | (refine Nd.mk ?_ ?_; focus ((repeat' (first | exact trivial | exact wkE_refl _ | refine And.intro ?_ ?_)); done)) | refine RdN.intro _ rfl (by rfl) ?_); (conv => whnf))))
          -- 4: the field, .int .i64 s6.e: its value
          refine LdN.one (a := some ⟨rb, 0, none⟩) (q := 4) (.int .i64 s6.e) rfl (fun w hw => hw.1) rfl ?_
          ((conv => whnf); (repeat ((first | refine BoxN.own ?_ | refine VrN.norm (wrap_i64 (by omega)) ?_ | refine VrN.keep ?_ | refine DrawN.calm (by decide +kernel) ?_ | refine Nd.mk (by decide +kernel) ?_ | refine Nd.mk (by omega) ?_ | (refine Nd.mk ?_ ?_; focus ((repeat' (first | exact trivial | exact wkE_refl _ | refine And.intro ?_ ?_)); done)) | refine RdN.intro _ rfl (by rfl) ?_); (conv => whnf))))
          have hqo : CellOk ⟨⟨8, 0, [65], [t6], [0]⟩, some ⟨nb, 0, none⟩, 1, some ⟨zb, 0, none⟩, 1⟩ := ⟨(fun h => by cases h), (fun h => by cases h), by show 1 ≤ _; omega, by show 1 ≤ _; omega, fun s hs => by obtain rfl := List.mem_singleton.1 hs; omega, by show 1 ≤ _; omega, Nat.le_refl _, Nat.le_refl _⟩
          have hck := check1 ⟨⟨8, 0, [65], [t6], [0]⟩, some ⟨nb, 0, none⟩, 1, some ⟨zb, 0, none⟩, 1⟩ ob hqo ⟨by show 1 ≤ _; omega, by show 1 ≤ _; omega⟩ (Go.Scan.iiB t6) (valid_name t6).symm
          have hll : l.length ≤ 30001 := by omega
          by_cases he6 : s6.e = 0
          · rw [show (s6.e == 0) = true by rw [he6]; rfl]
            ((conv => whnf); (repeat ((first | refine BoxN.own ?_ | refine VrN.norm (wrap_i64 (by omega)) ?_ | refine VrN.keep ?_ | refine DrawN.calm (by decide +kernel) ?_ | refine Nd.mk (by decide +kernel) ?_ | refine Nd.mk (by omega) ?_ | (refine Nd.mk ?_ ?_; focus ((repeat' (first | exact trivial | exact wkE_refl _ | refine And.intro ?_ ?_)); done)) | refine RdN.intro _ rfl (by rfl) ?_); (conv => whnf))))
            -- the object's field 3, whose value is .slice na ns.length nc
            refine LdN.one (a := some ⟨kb, 0, none⟩) (q := 3) (.slice na ns.length nc) rfl (fun w hw => hw.2.2.2.2.2.2.2.1) rfl ?_
            ((conv => whnf); (repeat ((first | refine BoxN.own ?_ | refine VrN.norm (wrap_i64 (by omega)) ?_ | refine VrN.keep ?_ | refine DrawN.calm (by decide +kernel) ?_ | refine Nd.mk (by decide +kernel) ?_ | refine Nd.mk (by omega) ?_ | (refine Nd.mk ?_ ?_; focus ((repeat' (first | exact trivial | exact wkE_refl _ | refine And.intro ?_ ?_)); done)) | refine RdN.intro _ rfl (by rfl) ?_); (conv => whnf))))
            refine call1 (Contains_m na ns nc t6 h8 (by omega) _ (fun w hw => hw.2.2.2.2.2.1)) ?_
            by_cases hmem : t6 ∈ ns
            · rw [show decide (t6 ∈ ns) = true by simpa using hmem]
              rw [if_pos ⟨he6, .inl hmem⟩] at hnm
              ((conv => whnf); (repeat ((first | refine BoxN.own ?_ | refine VrN.norm (wrap_i64 (by omega)) ?_ | refine VrN.keep ?_ | refine DrawN.calm (by decide +kernel) ?_ | refine Nd.mk (by decide +kernel) ?_ | refine Nd.mk (by omega) ?_ | (refine Nd.mk ?_ ?_; focus ((repeat' (first | exact trivial | exact wkE_refl _ | refine And.intro ?_ ?_)); done)) | refine RdN.intro _ rfl (by rfl) ?_); (conv => whnf))))
              -- the contract fail_m rb s6 p6 4 is called
              refine callG (fail_m rb s6 p6 4) [0, 1, 2, 3, 4] rfl ⟨rfl, rfl, rfl, rfl, rfl, trivial⟩ rfl fun _ _ => ?_
              have ok7 := ok6.same (fail_ss s6 4)
              -- the name is put behind the names, a cell is read and put behind the items; the reader is then failM s6 4
              rw [hnm] at h1 l5 d5
              simp only at h1 l5 d5
              have b7 := h4.le l5
              (first | refine wX ?_ | exact wZ)
              -- the object's field 3, whose value is .slice na ns.length nc
              refine LdN.one (a := some ⟨kb, 0, none⟩) (q := 3) (.slice na ns.length nc) rfl (fun w hw => hw.2.2.2.2.2.2.2.1) rfl ?_
              (first | refine wX ?_ | exact wZ)
              refine Nd.mk ⟨Nat.le_refl 1, rfl, rfl⟩ ?_
              (conv => whnf)
              refine AppN.grow 5 (strC ns) [.string (bs t6)] rfl rfl ⟨Nat.le_refl 1, ⟨by show (ns.length + 1) * 16 ≤ _; omega, by omega⟩, by decide⟩ fun nb' nc' g1 g2 => ?_
              (first | refine wX ?_ | exact wZ)
              refine EffW.appTo (i := 8) (q := 3) (ys := [_]) (cellC ⟨⟨8, 0, t, ns ++ [t6], l⟩, some ⟨nb', 0, none⟩, nc', ia, ic⟩) 5 rfl rfl rfl rfl rfl rfl rfl (Nat.le_of_ble_eq_true rfl) (by simp [cellC]) rfl ?_
              (first | refine wXD ?_ | exact wZD)
              refine DrawN.planC (fun w => SlAt (some ⟨kb, 0, none⟩) 5 (cellC ⟨⟨8, 0, t, ns ++ [t6], l⟩, some ⟨nb', 0, none⟩, nc', ia, ic⟩) w) [0, 2] [(1, 1), (3, 0), (4, 0), (5, 0), (6, 2)] [(7, 0)] (by decide +kernel) (fun w hw => hw.2.2.2.2.2.2.2.1) ?_
              -- fun w hw => hw.2.2.2.2.2.2.2.1: why the kind holds
              ((conv => whnf); (repeat ((first | refine Nd.mk (fun w hw => hw.2.2.2.2.2.2.2.1) ?_ | refine RwN.own ?_ | refine VrN.norm (wrap_i64 (by omega)) ?_ | refine VrN.keep ?_ | refine Nd.mk (by decide +kernel) ?_ | refine Nd.mk (by omega) ?_ | refine RdN.intro _ rfl (by rfl) ?_); (conv => whnf))))
              refine ReadC.one (a := some ⟨kb, 0, none⟩) (q := 4) (.slice ia l.length ic) rfl rfl rfl (fun w hw => hw) rfl ?_
              -- fun w hw => hw.2.2.2.2.2.2.2.1: why the kind holds
              ((conv => whnf); (repeat ((first | refine Nd.mk (fun w hw => hw.2.2.2.2.2.2.2.1) ?_ | refine RwN.own ?_ | refine VrN.norm (wrap_i64 (by omega)) ?_ | refine VrN.keep ?_ | refine Nd.mk (by decide +kernel) ?_ | refine Nd.mk (by omega) ?_ | refine RdN.intro _ rfl (by rfl) ?_); (conv => whnf))))
              refine callG (hc rb (failM s6 4) p6 ok7 b7 d5) [0, 1, 2, 3, 4] rfl ⟨rfl, rfl, rfl, rfl, rfl, trivial⟩ rfl fun p7 hp7 => ?_
              have hle := htk.le (failM s6 4)
              have hlt := htk.lt (failM s6 4)
              have hdd := cell_dead_e (n := n) (st := failM s6 4)
              generalize cellM n (failM s6 4) = r at h1 hp7 hle hlt hdd ⊢
              obtain ⟨z, s7⟩ := r
              simp only at h1 hp7 hle hlt hdd
              -- fun w hw => hw.2.2.2.2.2.2.2.1: why the kind holds
              ((conv => whnf); (repeat ((first | refine Nd.mk (fun w hw => hw.2.2.2.2.2.2.2.1) ?_ | refine RwN.own ?_ | refine VrN.norm (wrap_i64 (by omega)) ?_ | refine VrN.keep ?_ | refine Nd.mk (by decide +kernel) ?_ | refine Nd.mk (by omega) ?_ | refine RdN.intro _ rfl (by rfl) ?_); (conv => whnf))))
              refine Nd.mk ⟨Nat.le_refl 1, rfl, rfl⟩ ?_
              (conv => whnf)
              refine AppN.grow 6 (iC l) [.int .i64 z] rfl rfl ⟨Nat.le_refl 1, ⟨by show (l.length + 1) * 8 ≤ _; omega, by omega⟩, by decide⟩ fun ib' ic' g3 g4 => ?_
              -- fun w hw => hw.2.2.2.2.2.2.2.1: why the kind holds
              ((conv => whnf); (repeat ((first | refine Nd.mk (fun w hw => hw.2.2.2.2.2.2.2.1) ?_ | refine RwN.own ?_ | refine VrN.norm (wrap_i64 (by omega)) ?_ | refine VrN.keep ?_ | refine Nd.mk (by decide +kernel) ?_ | refine Nd.mk (by omega) ?_ | refine RdN.intro _ rfl (by rfl) ?_); (conv => whnf))))
              have e1 : iC l ++ [.int .i64 z] = iC (l ++ [z]) := by simp [iC]
              have e2 : l.length + 1 = (l ++ [z]).length := by simp
              have e3 : strC ns ++ [.string (bs t6)] = strC (ns ++ [t6]) := by simp [strC]
              have e4 : ns.length + 1 = (ns ++ [t6]).length := by simp
              refine EffW.appTo (i := 8) (q := 4) (ys := [_]) (cellC ⟨⟨8, 0, t, ns ++ [t6], l ++ [z]⟩, some ⟨nb', 0, none⟩, nc', some ⟨ib', 0, none⟩, ic'⟩) 5 rfl rfl rfl rfl rfl rfl rfl (Nat.le_of_ble_eq_true rfl) (by simp [cellC]) rfl ?_
              -- fun w hw => hw.2.2.2.2.2.2.2.1: why the kind holds
              ((conv => whnf); (repeat ((first | refine Nd.mk (fun w hw => hw.2.2.2.2.2.2.2.1) ?_ | refine RwN.own ?_ | refine VrN.norm (wrap_i64 (by omega)) ?_ | refine VrN.keep ?_ | refine Nd.mk (by decide +kernel) ?_ | refine Nd.mk (by omega) ?_ | refine RdN.intro _ rfl (by rfl) ?_); (conv => whnf))))
              ((conv => whnf); (repeat ((first | refine BoxN.own ?_ | refine VrN.norm (wrap_i64 (by omega)) ?_ | refine VrN.keep ?_ | refine DrawN.calm (by decide +kernel) ?_ | refine Nd.mk (by decide +kernel) ?_ | refine Nd.mk (by omega) ?_ | (refine Nd.mk ?_ ?_; focus ((repeat' (first | exact trivial | exact wkE_refl _ | refine And.intro ?_ ?_)); done)) | refine RdN.intro _ rfl (by rfl) ?_); (conv => whnf))))
              rw [e1, e2, e3, e4]
              refine ⟨(i + 1, ns ++ [t6], l ++ [z], s7, ⟨p7, some ⟨nb', 0, none⟩, nc', some ⟨ib', 0, none⟩, ic'⟩), ⟨by rw [← h1, show m - (i + 1) = k by omega], by show i + 1 ≤ m; omega, hp7, b7.le hle, ?_, ?_, by simp; omega, (fun h => by cases h), (fun h => by cases h), by rw [← e4]; exact g1, by rw [← e2]; exact g3, ?_⟩, ?_, ?_, ?_⟩
              · rcases d5 with h | h
                · exact .inl (Nat.lt_of_le_of_lt hle.s h)
                · refine .inr ?_
                  exact hdd h
              · rw [List.length_append, List.length_singleton]
                have hs := hle.s
                have hs5 := l5.s
                unfold liv at h6 ⊢
                rw [if_pos he5] at h6
                split
                · rename_i h9
                  have := hlt h9
                  omega
                · omega
              · intro y hy
                rcases List.mem_append.1 hy with h | h
                · exact h12 y h
                · rw [List.mem_singleton.1 h]; exact tl5
              · show (if s7.e = 0 then s7.s.length + 1 else 0) < if st5.e = 0 then st5.s.length + 1 else 0
                rw [if_pos he5]
                have hs5 := l5.s
                split
                · rename_i h9
                  have := hlt h9
                  omega
                · omega
              · (repeat' (first | exact trivial | refine And.intro (by with_reducible rfl) ?_ | (with_reducible exact wkC_refl _) | (with_reducible exact wkCs_refl _) | refine And.intro ?_ ?_))
                all_goals first | rfl | exact av_int (by rw [wrap_i64 (by omega)]; omega)
              · exact ⟨wkE_refl _, wkE_refl _, wkE_refl _, wkE_refl _, wkE_refl _, wkE_refl _, wkE_refl _, wkE_refl _, wkE_refl _, by (repeat' (first | exact trivial | exact wkE_refl _ | refine And.intro ?_ ?_))⟩
            · rw [show decide (t6 ∈ ns) = false by simpa using hmem]
              ((conv => whnf); (repeat ((first | refine BoxN.own ?_ | refine VrN.norm (wrap_i64 (by omega)) ?_ | refine VrN.keep ?_ | refine DrawN.calm (by decide +kernel) ?_ | refine Nd.mk (by decide +kernel) ?_ | refine Nd.mk (by omega) ?_ | (refine Nd.mk ?_ ?_; focus ((repeat' (first | exact trivial | exact wkE_refl _ | refine And.intro ?_ ?_)); done)) | refine RdN.intro _ rfl (by rfl) ?_); (conv => whnf))))
              cases hii : Go.Scan.iiB t6 with
              | true =>
                rw [hii] at hck hnm
                rw [if_neg (fun h => h.2.elim hmem (fun h => by cases h))] at hnm
                refine call1 (hck _ (fun w hw => ⟨hw.2.2.2.2.2.2.2.2.2.2.1, hw.2.2.2.2.2.2.2.2.1, hw.2.2.2.2.2.2.2.2.2.1⟩)) ?_
                have ok7 := ok6
                -- the name is put behind the names, a cell is read and put behind the items; the reader is then s6
                rw [hnm] at h1 l5 d5
                simp only at h1 l5 d5
                have b7 := h4.le l5
                (first | refine wX ?_ | exact wZ)
                -- the object's field 3, whose value is .slice na ns.length nc
                refine LdN.one (a := some ⟨kb, 0, none⟩) (q := 3) (.slice na ns.length nc) rfl (fun w hw => hw.2.2.2.2.2.2.2.1) rfl ?_
                (first | refine wX ?_ | exact wZ)
                refine Nd.mk ⟨Nat.le_refl 1, rfl, rfl⟩ ?_
                (conv => whnf)
                refine AppN.grow 5 (strC ns) [.string (bs t6)] rfl rfl ⟨Nat.le_refl 1, ⟨by show (ns.length + 1) * 16 ≤ _; omega, by omega⟩, by decide⟩ fun nb' nc' g1 g2 => ?_
                (first | refine wX ?_ | exact wZ)
                refine EffW.appTo (i := 8) (q := 3) (ys := [_]) (cellC ⟨⟨8, 0, t, ns ++ [t6], l⟩, some ⟨nb', 0, none⟩, nc', ia, ic⟩) 5 rfl rfl rfl rfl rfl rfl rfl (Nat.le_of_ble_eq_true rfl) (by simp [cellC]) rfl ?_
                (first | refine wXD ?_ | exact wZD)
                refine DrawN.planC (fun w => SlAt (some ⟨kb, 0, none⟩) 5 (cellC ⟨⟨8, 0, t, ns ++ [t6], l⟩, some ⟨nb', 0, none⟩, nc', ia, ic⟩) w) [0, 2] [(1, 1), (3, 0), (4, 0), (5, 0), (6, 2)] [(7, 0)] (by decide +kernel) (fun w hw => hw.2.2.2.2.2.2.2.1) ?_
                -- fun w hw => hw.2.2.2.2.2.2.2.1: why the kind holds
                ((conv => whnf); (repeat ((first | refine Nd.mk (fun w hw => hw.2.2.2.2.2.2.2.1) ?_ | refine RwN.own ?_ | refine VrN.norm (wrap_i64 (by omega)) ?_ | refine VrN.keep ?_ | refine Nd.mk (by decide +kernel) ?_ | refine Nd.mk (by omega) ?_ | refine RdN.intro _ rfl (by rfl) ?_); (conv => whnf))))
                refine ReadC.one (a := some ⟨kb, 0, none⟩) (q := 4) (.slice ia l.length ic) rfl rfl rfl (fun w hw => hw) rfl ?_
                -- fun w hw => hw.2.2.2.2.2.2.2.1: why the kind holds
                ((conv => whnf); (repeat ((first | refine Nd.mk (fun w hw => hw.2.2.2.2.2.2.2.1) ?_ | refine RwN.own ?_ | refine VrN.norm (wrap_i64 (by omega)) ?_ | refine VrN.keep ?_ | refine Nd.mk (by decide +kernel) ?_ | refine Nd.mk (by omega) ?_ | refine RdN.intro _ rfl (by rfl) ?_); (conv => whnf))))
                refine callG (hc rb (s6) p6 ok7 b7 d5) [0, 1, 2, 3, 4] rfl ⟨rfl, rfl, rfl, rfl, rfl, trivial⟩ rfl fun p7 hp7 => ?_
                have hle := htk.le (s6)
                have hlt := htk.lt (s6)
                have hdd := cell_dead_e (n := n) (st := s6)
                generalize cellM n (s6) = r at h1 hp7 hle hlt hdd ⊢
                obtain ⟨z, s7⟩ := r
                simp only at h1 hp7 hle hlt hdd
                -- fun w hw => hw.2.2.2.2.2.2.2.1: why the kind holds
                ((conv => whnf); (repeat ((first | refine Nd.mk (fun w hw => hw.2.2.2.2.2.2.2.1) ?_ | refine RwN.own ?_ | refine VrN.norm (wrap_i64 (by omega)) ?_ | refine VrN.keep ?_ | refine Nd.mk (by decide +kernel) ?_ | refine Nd.mk (by omega) ?_ | refine RdN.intro _ rfl (by rfl) ?_); (conv => whnf))))
                refine Nd.mk ⟨Nat.le_refl 1, rfl, rfl⟩ ?_
                (conv => whnf)
                refine AppN.grow 6 (iC l) [.int .i64 z] rfl rfl ⟨Nat.le_refl 1, ⟨by show (l.length + 1) * 8 ≤ _; omega, by omega⟩, by decide⟩ fun ib' ic' g3 g4 => ?_
                -- fun w hw => hw.2.2.2.2.2.2.2.1: why the kind holds
                ((conv => whnf); (repeat ((first | refine Nd.mk (fun w hw => hw.2.2.2.2.2.2.2.1) ?_ | refine RwN.own ?_ | refine VrN.norm (wrap_i64 (by omega)) ?_ | refine VrN.keep ?_ | refine Nd.mk (by decide +kernel) ?_ | refine Nd.mk (by omega) ?_ | refine RdN.intro _ rfl (by rfl) ?_); (conv => whnf))))
                have e1 : iC l ++ [.int .i64 z] = iC (l ++ [z]) := by simp [iC]
                have e2 : l.length + 1 = (l ++ [z]).length := by simp
                have e3 : strC ns ++ [.string (bs t6)] = strC (ns ++ [t6]) := by simp [strC]
                have e4 : ns.length + 1 = (ns ++ [t6]).length := by simp
                refine EffW.appTo (i := 8) (q := 4) (ys := [_]) (cellC ⟨⟨8, 0, t, ns ++ [t6], l ++ [z]⟩, some ⟨nb', 0, none⟩, nc', some ⟨ib', 0, none⟩, ic'⟩) 5 rfl rfl rfl rfl rfl rfl rfl (Nat.le_of_ble_eq_true rfl) (by simp [cellC]) rfl ?_
                -- fun w hw => hw.2.2.2.2.2.2.2.1: why the kind holds
                ((conv => whnf); (repeat ((first | refine Nd.mk (fun w hw => hw.2.2.2.2.2.2.2.1) ?_ | refine RwN.own ?_ | refine VrN.norm (wrap_i64 (by omega)) ?_ | refine VrN.keep ?_ | refine Nd.mk (by decide +kernel) ?_ | refine Nd.mk (by omega) ?_ | refine RdN.intro _ rfl (by rfl) ?_); (conv => whnf))))
                ((conv => whnf); (repeat ((first | refine BoxN.own ?_ | refine VrN.norm (wrap_i64 (by omega)) ?_ | refine VrN.keep ?_ | refine DrawN.calm (by decide +kernel) ?_ | refine Nd.mk (by decide +kernel) ?_ | refine Nd.mk (by omega) ?_ | (refine Nd.mk ?_ ?_; focus ((repeat' (first | exact trivial | exact wkE_refl _ | refine And.intro ?_ ?_)); done)) | refine RdN.intro _ rfl (by rfl) ?_); (conv => whnf))))
                rw [e1, e2, e3, e4]
                refine ⟨(i + 1, ns ++ [t6], l ++ [z], s7, ⟨p7, some ⟨nb', 0, none⟩, nc', some ⟨ib', 0, none⟩, ic'⟩), ⟨by rw [← h1, show m - (i + 1) = k by omega], by show i + 1 ≤ m; omega, hp7, b7.le hle, ?_, ?_, by simp; omega, (fun h => by cases h), (fun h => by cases h), by rw [← e4]; exact g1, by rw [← e2]; exact g3, ?_⟩, ?_, ?_, ?_⟩
                · rcases d5 with h | h
                  · exact .inl (Nat.lt_of_le_of_lt hle.s h)
                  · refine .inr ?_
                    exact hdd h
                · rw [List.length_append, List.length_singleton]
                  have hs := hle.s
                  have hs5 := l5.s
                  unfold liv at h6 ⊢
                  rw [if_pos he5] at h6
                  split
                  · rename_i h9
                    have := hlt h9
                    omega
                  · omega
                · intro y hy
                  rcases List.mem_append.1 hy with h | h
                  · exact h12 y h
                  · rw [List.mem_singleton.1 h]; exact tl5
                · show (if s7.e = 0 then s7.s.length + 1 else 0) < if st5.e = 0 then st5.s.length + 1 else 0
                  rw [if_pos he5]
                  have hs5 := l5.s
                  split
                  · rename_i h9
                    have := hlt h9
                    omega
                  · omega
                · (repeat' (first | exact trivial | refine And.intro (by with_reducible rfl) ?_ | (with_reducible exact wkC_refl _) | (with_reducible exact wkCs_refl _) | refine And.intro ?_ ?_))
                  all_goals first | rfl | exact av_int (by rw [wrap_i64 (by omega)]; omega)
                · exact ⟨wkE_refl _, wkE_refl _, wkE_refl _, wkE_refl _, wkE_refl _, wkE_refl _, wkE_refl _, wkE_refl _, wkE_refl _, by (repeat' (first | exact trivial | exact wkE_refl _ | refine And.intro ?_ ?_))⟩
              | false =>
                rw [hii] at hck hnm
                rw [if_pos ⟨he6, .inr rfl⟩] at hnm
                refine call1 (hck _ (fun w hw => ⟨hw.2.2.2.2.2.2.2.2.2.2.1, hw.2.2.2.2.2.2.2.2.1, hw.2.2.2.2.2.2.2.2.2.1⟩)) ?_
                ((conv => whnf); (repeat ((first | refine BoxN.own ?_ | refine VrN.norm (wrap_i64 (by omega)) ?_ | refine VrN.keep ?_ | refine DrawN.calm (by decide +kernel) ?_ | refine Nd.mk (by decide +kernel) ?_ | refine Nd.mk (by omega) ?_ | (refine Nd.mk ?_ ?_; focus ((repeat' (first | exact trivial | exact wkE_refl _ | refine And.intro ?_ ?_)); done)) | refine RdN.intro _ rfl (by rfl) ?_); (conv => whnf))))
                -- the contract fail_m rb s6 p6 4 is called
                refine callG (fail_m rb s6 p6 4) [0, 1, 2, 3, 4] rfl ⟨rfl, rfl, rfl, rfl, rfl, trivial⟩ rfl fun _ _ => ?_
                have ok7 := ok6.same (fail_ss s6 4)
                -- the name is put behind the names, a cell is read and put behind the items; the reader is then failM s6 4
                rw [hnm] at h1 l5 d5
                simp only at h1 l5 d5
                have b7 := h4.le l5
                (first | refine wX ?_ | exact wZ)
                -- the object's field 3, whose value is .slice na ns.length nc
                refine LdN.one (a := some ⟨kb, 0, none⟩) (q := 3) (.slice na ns.length nc) rfl (fun w hw => hw.2.2.2.2.2.2.2.1) rfl ?_
                (first | refine wX ?_ | exact wZ)
                refine Nd.mk ⟨Nat.le_refl 1, rfl, rfl⟩ ?_
                (conv => whnf)
                refine AppN.grow 5 (strC ns) [.string (bs t6)] rfl rfl ⟨Nat.le_refl 1, ⟨by show (ns.length + 1) * 16 ≤ _; omega, by omega⟩, by decide⟩ fun nb' nc' g1 g2 => ?_
                (first | refine wX ?_ | exact wZ)
                refine EffW.appTo (i := 8) (q := 3) (ys := [_]) (cellC ⟨⟨8, 0, t, ns ++ [t6], l⟩, some ⟨nb', 0, none⟩, nc', ia, ic⟩) 5 rfl rfl rfl rfl rfl rfl rfl (Nat.le_of_ble_eq_true rfl) (by simp [cellC]) rfl ?_
                (first | refine wXD ?_ | exact wZD)
                refine DrawN.planC (fun w => SlAt (some ⟨kb, 0, none⟩) 5 (cellC ⟨⟨8, 0, t, ns ++ [t6], l⟩, some ⟨nb', 0, none⟩, nc', ia, ic⟩) w) [0, 2] [(1, 1), (3, 0), (4, 0), (5, 0), (6, 2)] [(7, 0)] (by decide +kernel) (fun w hw => hw.2.2.2.2.2.2.2.1) ?_
                -- fun w hw => hw.2.2.2.2.2.2.2.1: why the kind holds
                ((conv => whnf); (repeat ((first | refine Nd.mk (fun w hw => hw.2.2.2.2.2.2.2.1) ?_ | refine RwN.own ?_ | refine VrN.norm (wrap_i64 (by omega)) ?_ | refine VrN.keep ?_ | refine Nd.mk (by decide +kernel) ?_ | refine Nd.mk (by omega) ?_ | refine RdN.intro _ rfl (by rfl) ?_); (conv => whnf))))
                refine ReadC.one (a := some ⟨kb, 0, none⟩) (q := 4) (.slice ia l.length ic) rfl rfl rfl (fun w hw => hw) rfl ?_
                -- fun w hw => hw.2.2.2.2.2.2.2.1: why the kind holds
                ((conv => whnf); (repeat ((first | refine Nd.mk (fun w hw => hw.2.2.2.2.2.2.2.1) ?_ | refine RwN.own ?_ | refine VrN.norm (wrap_i64 (by omega)) ?_ | refine VrN.keep ?_ | refine Nd.mk (by decide +kernel) ?_ | refine Nd.mk (by omega) ?_ | refine RdN.intro _ rfl (by rfl) ?_); (conv => whnf))))
                refine callG (hc rb (failM s6 4) p6 ok7 b7 d5) [0, 1, 2, 3, 4] rfl ⟨rfl, rfl, rfl, rfl, rfl, trivial⟩ rfl fun p7 hp7 => ?_
                have hle := htk.le (failM s6 4)
                have hlt := htk.lt (failM s6 4)
                have hdd := cell_dead_e (n := n) (st := failM s6 4)
                generalize cellM n (failM s6 4) = r at h1 hp7 hle hlt hdd ⊢
                obtain ⟨z, s7⟩ := r
                simp only at h1 hp7 hle hlt hdd
                -- fun w hw => hw.2.2.2.2.2.2.2.1: why the kind holds
                ((conv => whnf); (repeat ((first | refine Nd.mk (fun w hw => hw.2.2.2.2.2.2.2.1) ?_ | refine RwN.own ?_ | refine VrN.norm (wrap_i64 (by omega)) ?_ | refine VrN.keep ?_ | refine Nd.mk (by decide +kernel) ?_ | refine Nd.mk (by omega) ?_ | refine RdN.intro _ rfl (by rfl) ?_); (conv => whnf))))
                refine Nd.mk ⟨Nat.le_refl 1, rfl, rfl⟩ ?_
                (conv => whnf)
                refine AppN.grow 6 (iC l) [.int .i64 z] rfl rfl ⟨Nat.le_refl 1, ⟨by show (l.length + 1) * 8 ≤ _; omega, by omega⟩, by decide⟩ fun ib' ic' g3 g4 => ?_
                -- fun w hw => hw.2.2.2.2.2.2.2.1: why the kind holds
                ((conv => whnf); (repeat ((first | refine Nd.mk (fun w hw => hw.2.2.2.2.2.2.2.1) ?_ | refine RwN.own ?_ | refine VrN.norm (wrap_i64 (by omega)) ?_ | refine VrN.keep ?_ | refine Nd.mk (by decide +kernel) ?_ | refine Nd.mk (by omega) ?_ | refine RdN.intro _ rfl (by rfl) ?_); (conv => whnf))))
                have e1 : iC l ++ [.int .i64 z] = iC (l ++ [z]) := by simp [iC]
                have e2 : l.length + 1 = (l ++ [z]).length := by simp
                have e3 : strC ns ++ [.string (bs t6)] = strC (ns ++ [t6]) := by simp [strC]
                have e4 : ns.length + 1 = (ns ++ [t6]).length := by simp
                refine EffW.appTo (i := 8) (q := 4) (ys := [_]) (cellC ⟨⟨8, 0, t, ns ++ [t6], l ++ [z]⟩, some ⟨nb', 0, none⟩, nc', some ⟨ib', 0, none⟩, ic'⟩) 5 rfl rfl rfl rfl rfl rfl rfl (Nat.le_of_ble_eq_true rfl) (by simp [cellC]) rfl ?_
                -- fun w hw => hw.2.2.2.2.2.2.2.1: why the kind holds
                ((conv => whnf); (repeat ((first | refine Nd.mk (fun w hw => hw.2.2.2.2.2.2.2.1) ?_ | refine RwN.own ?_ | refine VrN.norm (wrap_i64 (by omega)) ?_ | refine VrN.keep ?_ | refine Nd.mk (by decide +kernel) ?_ | refine Nd.mk (by omega) ?_ | refine RdN.intro _ rfl (by rfl) ?_); (conv => whnf))))
                ((conv => whnf); (repeat ((first | refine BoxN.own ?_ | refine VrN.norm (wrap_i64 (by omega)) ?_ | refine VrN.keep ?_ | refine DrawN.calm (by decide +kernel) ?_ | refine Nd.mk (by decide +kernel) ?_ | refine Nd.mk (by omega) ?_ | (refine Nd.mk ?_ ?_; focus ((repeat' (first | exact trivial | exact wkE_refl _ | refine And.intro ?_ ?_)); done)) | refine RdN.intro _ rfl (by rfl) ?_); (conv => whnf))))
                rw [e1, e2, e3, e4]
                refine ⟨(i + 1, ns ++ [t6], l ++ [z], s7, ⟨p7, some ⟨nb', 0, none⟩, nc', some ⟨ib', 0, none⟩, ic'⟩), ⟨by rw [← h1, show m - (i + 1) = k by omega], by show i + 1 ≤ m; omega, hp7, b7.le hle, ?_, ?_, by simp; omega, (fun h => by cases h), (fun h => by cases h), by rw [← e4]; exact g1, by rw [← e2]; exact g3, ?_⟩, ?_, ?_, ?_⟩
                · rcases d5 with h | h
                  · exact .inl (Nat.lt_of_le_of_lt hle.s h)
                  · refine .inr ?_
                    exact hdd h
                · rw [List.length_append, List.length_singleton]
                  have hs := hle.s
                  have hs5 := l5.s
                  unfold liv at h6 ⊢
                  rw [if_pos he5] at h6
                  split
                  · rename_i h9
                    have := hlt h9
                    omega
                  · omega
                · intro y hy
                  rcases List.mem_append.1 hy with h | h
                  · exact h12 y h
                  · rw [List.mem_singleton.1 h]; exact tl5
                · show (if s7.e = 0 then s7.s.length + 1 else 0) < if st5.e = 0 then st5.s.length + 1 else 0
                  rw [if_pos he5]
                  have hs5 := l5.s
                  split
                  · rename_i h9
                    have := hlt h9
                    omega
                  · omega
                · (repeat' (first | exact trivial | refine And.intro (by with_reducible rfl) ?_ | (with_reducible exact wkC_refl _) | (with_reducible exact wkCs_refl _) | refine And.intro ?_ ?_))
                  all_goals first | rfl | exact av_int (by rw [wrap_i64 (by omega)]; omega)
                · exact ⟨wkE_refl _, wkE_refl _, wkE_refl _, wkE_refl _, wkE_refl _, wkE_refl _, wkE_refl _, wkE_refl _, wkE_refl _, by (repeat' (first | exact trivial | exact wkE_refl _ | refine And.intro ?_ ?_))⟩
          · rw [show (s6.e == 0) = false by simpa using he6]
            rw [if_neg (fun h => he6 h.1)] at hnm
            have ok7 := ok6
            -- the name is put behind the names, a cell is read and put behind the items; the reader is then s6
            rw [hnm] at h1 l5 d5
            simp only at h1 l5 d5
            have b7 := h4.le l5
            (first | refine wX ?_ | exact wZ)
            -- the object's field 3, whose value is .slice na ns.length nc
            refine LdN.one (a := some ⟨kb, 0, none⟩) (q := 3) (.slice na ns.length nc) rfl (fun w hw => hw.2.2.2.2.2.2.2.1) rfl ?_
            (first | refine wX ?_ | exact wZ)
            refine Nd.mk ⟨Nat.le_refl 1, rfl, rfl⟩ ?_
            (conv => whnf)
            refine AppN.grow 5 (strC ns) [.string (bs t6)] rfl rfl ⟨Nat.le_refl 1, ⟨by show (ns.length + 1) * 16 ≤ _; omega, by omega⟩, by decide⟩ fun nb' nc' g1 g2 => ?_
            (first | refine wX ?_ | exact wZ)
            refine EffW.appTo (i := 8) (q := 3) (ys := [_]) (cellC ⟨⟨8, 0, t, ns ++ [t6], l⟩, some ⟨nb', 0, none⟩, nc', ia, ic⟩) 5 rfl rfl rfl rfl rfl rfl rfl (Nat.le_of_ble_eq_true rfl) (by simp [cellC]) rfl ?_
            (first | refine wXD ?_ | exact wZD)
            refine DrawN.planC (fun w => SlAt (some ⟨kb, 0, none⟩) 5 (cellC ⟨⟨8, 0, t, ns ++ [t6], l⟩, some ⟨nb', 0, none⟩, nc', ia, ic⟩) w) [0, 2] [(1, 1), (3, 0), (4, 0), (5, 0), (6, 2)] [(7, 0)] (by decide +kernel) (fun w hw => hw.2.2.2.2.2.2.2.1) ?_
            -- fun w hw => hw.2.2.2.2.2.2.2.1: why the kind holds
            ((conv => whnf); (repeat ((first | refine Nd.mk (fun w hw => hw.2.2.2.2.2.2.2.1) ?_ | refine RwN.own ?_ | refine VrN.norm (wrap_i64 (by omega)) ?_ | refine VrN.keep ?_ | refine Nd.mk (by decide +kernel) ?_ | refine Nd.mk (by omega) ?_ | refine RdN.intro _ rfl (by rfl) ?_); (conv => whnf))))
            refine ReadC.one (a := some ⟨kb, 0, none⟩) (q := 4) (.slice ia l.length ic) rfl rfl rfl (fun w hw => hw) rfl ?_
            -- fun w hw => hw.2.2.2.2.2.2.2.1: why the kind holds
            ((conv => whnf); (repeat ((first | refine Nd.mk (fun w hw => hw.2.2.2.2.2.2.2.1) ?_ | refine RwN.own ?_ | refine VrN.norm (wrap_i64 (by omega)) ?_ | refine VrN.keep ?_ | refine Nd.mk (by decide +kernel) ?_ | refine Nd.mk (by omega) ?_ | refine RdN.intro _ rfl (by rfl) ?_); (conv => whnf))))
            refine callG (hc rb (s6) p6 ok7 b7 d5) [0, 1, 2, 3, 4] rfl ⟨rfl, rfl, rfl, rfl, rfl, trivial⟩ rfl fun p7 hp7 => ?_
            have hle := htk.le (s6)
            have hlt := htk.lt (s6)
            have hdd := cell_dead_e (n := n) (st := s6)
            generalize cellM n (s6) = r at h1 hp7 hle hlt hdd ⊢
            obtain ⟨z, s7⟩ := r
            simp only at h1 hp7 hle hlt hdd
            -- fun w hw => hw.2.2.2.2.2.2.2.1: why the kind holds
            ((conv => whnf); (repeat ((first | refine Nd.mk (fun w hw => hw.2.2.2.2.2.2.2.1) ?_ | refine RwN.own ?_ | refine VrN.norm (wrap_i64 (by omega)) ?_ | refine VrN.keep ?_ | refine Nd.mk (by decide +kernel) ?_ | refine Nd.mk (by omega) ?_ | refine RdN.intro _ rfl (by rfl) ?_); (conv => whnf))))
            refine Nd.mk ⟨Nat.le_refl 1, rfl, rfl⟩ ?_
            (conv => whnf)
            refine AppN.grow 6 (iC l) [.int .i64 z] rfl rfl ⟨Nat.le_refl 1, ⟨by show (l.length + 1) * 8 ≤ _; omega, by omega⟩, by decide⟩ fun ib' ic' g3 g4 => ?_
            -- fun w hw => hw.2.2.2.2.2.2.2.1: why the kind holds
            ((conv => whnf); (repeat ((first | refine Nd.mk (fun w hw => hw.2.2.2.2.2.2.2.1) ?_ | refine RwN.own ?_ | refine VrN.norm (wrap_i64 (by omega)) ?_ | refine VrN.keep ?_ | refine Nd.mk (by decide +kernel) ?_ | refine Nd.mk (by omega) ?_ | refine RdN.intro _ rfl (by rfl) ?_); (conv => whnf))))
            have e1 : iC l ++ [.int .i64 z] = iC (l ++ [z]) := by simp [iC]
            have e2 : l.length + 1 = (l ++ [z]).length := by simp
            have e3 : strC ns ++ [.string (bs t6)] = strC (ns ++ [t6]) := by simp [strC]
            have e4 : ns.length + 1 = (ns ++ [t6]).length := by simp
            refine EffW.appTo (i := 8) (q := 4) (ys := [_]) (cellC ⟨⟨8, 0, t, ns ++ [t6], l ++ [z]⟩, some ⟨nb', 0, none⟩, nc', some ⟨ib', 0, none⟩, ic'⟩) 5 rfl rfl rfl rfl rfl rfl rfl (Nat.le_of_ble_eq_true rfl) (by simp [cellC]) rfl ?_
            -- fun w hw => hw.2.2.2.2.2.2.2.1: why the kind holds
            ((conv => whnf); (repeat ((first | refine Nd.mk (fun w hw => hw.2.2.2.2.2.2.2.1) ?_ | refine RwN.own ?_ | refine VrN.norm (wrap_i64 (by omega)) ?_ | refine VrN.keep ?_ | refine Nd.mk (by decide +kernel) ?_ | refine Nd.mk (by omega) ?_ | refine RdN.intro _ rfl (by rfl) ?_); (conv => whnf))))
            ((conv => whnf); (repeat ((first | refine BoxN.own ?_ | refine VrN.norm (wrap_i64 (by omega)) ?_ | refine VrN.keep ?_ | refine DrawN.calm (by decide +kernel) ?_ | refine Nd.mk (by decide +kernel) ?_ | refine Nd.mk (by omega) ?_ | (refine Nd.mk ?_ ?_; focus ((repeat' (first | exact trivial | exact wkE_refl _ | refine And.intro ?_ ?_)); done)) | refine RdN.intro _ rfl (by rfl) ?_); (conv => whnf))))
            rw [e1, e2, e3, e4]
            refine ⟨(i + 1, ns ++ [t6], l ++ [z], s7, ⟨p7, some ⟨nb', 0, none⟩, nc', some ⟨ib', 0, none⟩, ic'⟩), ⟨by rw [← h1, show m - (i + 1) = k by omega], by show i + 1 ≤ m; omega, hp7, b7.le hle, ?_, ?_, by simp; omega, (fun h => by cases h), (fun h => by cases h), by rw [← e4]; exact g1, by rw [← e2]; exact g3, ?_⟩, ?_, ?_, ?_⟩
            · rcases d5 with h | h
              · exact .inl (Nat.lt_of_le_of_lt hle.s h)
              · refine .inr ?_
                exact hdd h
            · rw [List.length_append, List.length_singleton]
              have hs := hle.s
              have hs5 := l5.s
              unfold liv at h6 ⊢
              rw [if_pos he5] at h6
              split
              · rename_i h9
                have := hlt h9
                omega
              · omega
            · intro y hy
              rcases List.mem_append.1 hy with h | h
              · exact h12 y h
              · rw [List.mem_singleton.1 h]; exact tl5
            · show (if s7.e = 0 then s7.s.length + 1 else 0) < if st5.e = 0 then st5.s.length + 1 else 0
              rw [if_pos he5]
              have hs5 := l5.s
              split
              · rename_i h9
                have := hlt h9
                omega
              · omega
            · (repeat' (first | exact trivial | refine And.intro (by with_reducible rfl) ?_ | (with_reducible exact wkC_refl _) | (with_reducible exact wkCs_refl _) | refine And.intro ?_ ?_))
              all_goals first | rfl | exact av_int (by rw [wrap_i64 (by omega)]; omega)
            · exact ⟨wkE_refl _, wkE_refl _, wkE_refl _, wkE_refl _, wkE_refl _, wkE_refl _, wkE_refl _, wkE_refl _, wkE_refl _, by (repeat' (first | exact trivial | exact wkE_refl _ | refine And.intro ?_ ?_))⟩
        · rw [show (st5.e == 0) = false by simpa using he5]
          rw [if_neg he5] at h1
          subst h1
          subst hR
          ((conv => whnf); (repeat ((first | refine BoxN.own ?_ | refine VrN.norm (wrap_i64 (by omega)) ?_ | refine VrN.keep ?_ | refine DrawN.calm (by decide +kernel) ?_ | refine Nd.mk (by decide +kernel) ?_ | refine Nd.mk (by omega) ?_ | (refine Nd.mk ?_ ?_; focus ((repeat' (first | exact trivial | exact wkE_refl _ | refine And.intro ?_ ?_)); done)) | refine RdN.intro _ rfl (by rfl) ?_); (conv => whnf))))
          refine LdN.agg (a := some ⟨kb, 0, none⟩) (q := 0) (cellC ⟨⟨8, 0, t, ns, l⟩, na, nc, ia, ic⟩) rfl (fun w hw => hw.2.2.2.2.2.2.2.1) rfl (fun j _ => by rw [Nat.zero_add]) ?_
          ((conv => whnf); (repeat ((first | refine BoxN.own ?_ | refine VrN.norm (wrap_i64 (by omega)) ?_ | refine VrN.keep ?_ | refine DrawN.calm (by decide +kernel) ?_ | refine Nd.mk (by decide +kernel) ?_ | refine Nd.mk (by omega) ?_ | (refine Nd.mk ?_ ?_; focus ((repeat' (first | exact trivial | exact wkE_refl _ | refine And.intro ?_ ?_)); done)) | refine RdN.intro _ rfl (by rfl) ?_); (conv => whnf))))
          exact ⟨⟨p5, na, nc, ia, ic⟩, ⟨h3, ⟨h8, h9, by show ns.length ≤ _; omega, by show l.length ≤ _; omega, fun s hs => Nat.le_trans (h12 s hs) (by omega), by show t.length ≤ _; omega, h10, h11⟩⟩, rfl, wkE_refl _, wkE_refl _, wkE_refl _, wkE_refl _, wkE_refl _, wkE_refl _, wkE_refl _, wkH_nil _⟩
      · rw [show decide ((i : Int) < (m : Int)) = false by simpa using hi]
        rw [show m - i = 0 by omega] at h1
        have h1 : ((ns, l), st5) = R2 := h1
        subst h1
        subst hR
        ((conv => whnf); (repeat ((first | refine BoxN.own ?_ | refine VrN.norm (wrap_i64 (by omega)) ?_ | refine VrN.keep ?_ | refine DrawN.calm (by decide +kernel) ?_ | refine Nd.mk (by decide +kernel) ?_ | refine Nd.mk (by omega) ?_ | (refine Nd.mk ?_ ?_; focus ((repeat' (first | exact trivial | exact wkE_refl _ | refine And.intro ?_ ?_)); done)) | refine RdN.intro _ rfl (by rfl) ?_); (conv => whnf))))
        refine LdN.agg (a := some ⟨kb, 0, none⟩) (q := 0) (cellC ⟨⟨8, 0, t, ns, l⟩, na, nc, ia, ic⟩) rfl (fun w hw => hw.2.2.2.2.2.2.2.1) rfl (fun j _ => by rw [Nat.zero_add]) ?_
        ((conv => whnf); (repeat ((first | refine BoxN.own ?_ | refine VrN.norm (wrap_i64 (by omega)) ?_ | refine VrN.keep ?_ | refine DrawN.calm (by decide +kernel) ?_ | refine Nd.mk (by decide +kernel) ?_ | refine Nd.mk (by omega) ?_ | (refine Nd.mk ?_ ?_; focus ((repeat' (first | exact trivial | exact wkE_refl _ | refine And.intro ?_ ?_)); done)) | refine RdN.intro _ rfl (by rfl) ?_); (conv => whnf))))
        exact ⟨⟨p5, na, nc, ia, ic⟩, ⟨h3, ⟨h8, h9, by show ns.length ≤ _; omega, by show l.length ≤ _; omega, fun s hs => Nat.le_trans (h12 s hs) (by omega), by show t.length ≤ _; omega, h10, h11⟩⟩, rfl, wkE_refl _, wkE_refl _, wkE_refl _, wkE_refl _, wkE_refl _, wkE_refl _, wkE_refl _, wkH_nil _⟩
  · rw [show (s2.e == 0) = false by simpa using he]
    rw [if_neg (fun h => he h.1)] at hcl
    rw [hcl] at hR2 hR bn hnc
    simp only at hR2 hR bn hnc
    have ok3 := ok2
    -- the number of names, and the names with their items, behind the class s2
    ((conv => whnf); (repeat ((first | refine BoxN.own ?_ | refine VrN.norm (wrap_i64 (by omega)) ?_ | refine VrN.keep ?_ | refine DrawN.calm (by decide +kernel) ?_ | refine Nd.mk (by decide +kernel) ?_ | refine Nd.mk (by omega) ?_ | (refine Nd.mk ?_ ?_; focus ((repeat' (first | exact trivial | exact wkE_refl _ | refine And.intro ?_ ?_)); done)) | refine RdN.intro _ rfl (by rfl) ?_); (conv => whnf))))
    -- the contract number_m rb (s2) p2 maxN (by decide) is called
    refine callG (number_m rb (s2) p2 maxN (by decide)) [0, 1, 2, 3, 4] rfl ⟨rfl, rfl, rfl, rfl, rfl, trivial⟩ rfl fun _ _ => ?_
    have bn4 := bn.le (num_le maxN (s2))
    have ok4 := ok3.same (num_keep maxN (s2))
    have hm4 := num_most maxN (s2)
    have hn4 := fuel_keep hnc (num_le maxN (s2)) (fun h => by rw [num_dead h])
    generalize numM maxN (s2) = qn at hR2 bn4 ok4 hm4 hn4 ⊢
    obtain ⟨m, s4⟩ := qn
    simp only at hR2 bn4 ok4 hm4 hn4
    have hm5 : m ≤ 1000000000000000 := hm4
    ((conv => whnf); (repeat ((first | refine BoxN.own ?_ | refine VrN.norm (wrap_i64 (by omega)) ?_ | refine VrN.keep ?_ | refine DrawN.calm (by decide +kernel) ?_ | refine Nd.mk (by decide +kernel) ?_ | refine Nd.mk (by omega) ?_ | (refine Nd.mk ?_ ?_; focus ((repeat' (first | exact trivial | exact wkE_refl _ | refine And.intro ?_ ?_)); done)) | refine RdN.intro _ rfl (by rfl) ?_); (conv => whnf))))
    refine LoopN.intro (Nat × List (List UInt8) × List Int × PS × ObP) (fun ⟨i, ns, l, st, q⟩ => attrsM (cellM n) (m - i) ns l st = R2 ∧ i ≤ m ∧ RdOk st q.p ∧ Bd st ∧ (st.s.length < n ∨ st.e ≠ 0) ∧ l.length + st.s.length + liv st ≤ 30001 ∧ ns.length = l.length ∧ (q.na = none → ns = []) ∧ (q.ia = none → l = []) ∧ ns.length ≤ q.nc ∧ l.length ≤ q.ic ∧ ∀ s ∈ ns, s.length ≤ 30000)
      (fun ⟨i, _, _, _, _⟩ => mkS Tryz.f107.ntmps 0 [(0, .c (.v (.pointer (some ⟨rb, 0, none⟩)))), (2, .c (.lp 7 0)), (3, .c (.v (.pointer (some ⟨kb, 0, none⟩)))), (4, .c (.v (.int .i64 (m : Int)))), (5, .c (.v (.int .i64 (i : Int))))])
      (fun ⟨_, ns, l, st, ⟨p, na, nc, ia, ic⟩⟩ => rdE rb st p ++ [ownS ns na nc, ownI l ia ic, .blk 57 [.v (.int .i64 0), .v (.int .i64 0), .v (.string ⟨#[]⟩), .v (.slice none 0 0), .v (.slice none 0 0)], .app 57 5 (cellC ⟨⟨8, 0, t, ns, l⟩, na, nc, ia, ic⟩) (some ⟨kb, 0, none⟩) 1 1] ++ []) (fun ⟨_, _, _, st, _⟩ => if st.e = 0 then st.s.length + 1 else 0) [] rfl
      (fun _ => rfl) (fun _ => rfl) (fun _ _ => okHB_eq rfl) ⟨(0, [], [], s4, ⟨p2, none, 0, none, 0⟩), ⟨hR2, Nat.zero_le _, ok4, bn4, hn4, ?_, rfl, fun _ => rfl, fun _ => rfl, Nat.le_refl _, Nat.le_refl _, fun s hs => by cases hs⟩, ?_, ?_⟩ ?_
    · have := bn4.pot
      unfold liv
      show 0 + s4.s.length + _ ≤ _
      split <;> omega
    · (repeat' (first | exact trivial | refine And.intro (by with_reducible rfl) ?_ | (with_reducible exact wkC_refl _) | (with_reducible exact wkCs_refl _) | refine And.intro ?_ ?_))
      all_goals rfl
    · exact ⟨wkE_refl _, wkE_refl _, wkE_refl _, wkE_refl _, wkE_refl _, wkE_refl _, wkE_refl _, wkE_refl _, wkE_refl _, by (repeat' (first | exact trivial | exact wkE_refl _ | refine And.intro ?_ ?_))⟩
    rintro ⟨i, ns, l, st5, ⟨p5, na, nc, ia, ic⟩⟩ ⟨h1, h2, h3, h4, h5, h6, h7, h8, h9, h10, h11, h12⟩
    simp only at h8 h9 h10 h11 h3
    ((conv => whnf); (repeat ((first | refine BoxN.own ?_ | refine VrN.norm (wrap_i64 (by omega)) ?_ | refine VrN.keep ?_ | refine DrawN.calm (by decide +kernel) ?_ | refine Nd.mk (by decide +kernel) ?_ | refine Nd.mk (by omega) ?_ | (refine Nd.mk ?_ ?_; focus ((repeat' (first | exact trivial | exact wkE_refl _ | refine And.intro ?_ ?_)); done)) | refine RdN.intro _ rfl (by rfl) ?_); (conv => whnf))))
    by_cases hi : i < m
    · rw [show decide ((i : Int) < (m : Int)) = true by simpa using hi]
      obtain ⟨k, hk⟩ : ∃ k, m - i = k + 1 := ⟨m - i - 1, by omega⟩
      rw [hk, hA] at h1
      ((conv => whnf); (repeat ((first | refine BoxN.own ?_ | refine VrN.norm (wrap_i64 (by omega)) ?_ | refine VrN.keep ?_ | refine DrawN.calm (by decide +kernel) ?_ | refine Nd.mk (by decide +kernel) ?_ | refine Nd.mk (by omega) ?_ | (refine Nd.mk ?_ ?_; focus ((repeat' (first | exact trivial | exact wkE_refl _ | refine And.intro ?_ ?_)); done)) | refine RdN.intro _ rfl (by rfl) ?_); (conv => whnf))))
      -- 4: the field, .int .i64 st5.e: its value
      refine LdN.one (a := some ⟨rb, 0, none⟩) (q := 4) (.int .i64 st5.e) rfl (fun w hw => hw.1) rfl ?_
      ((conv => whnf); (repeat ((first | refine BoxN.own ?_ | refine VrN.norm (wrap_i64 (by omega)) ?_ | refine VrN.keep ?_ | refine DrawN.calm (by decide +kernel) ?_ | refine Nd.mk (by decide +kernel) ?_ | refine Nd.mk (by omega) ?_ | (refine Nd.mk ?_ ?_; focus ((repeat' (first | exact trivial | exact wkE_refl _ | refine And.intro ?_ ?_)); done)) | refine RdN.intro _ rfl (by rfl) ?_); (conv => whnf))))
      by_cases he5 : st5.e = 0
      · rw [show (st5.e == 0) = true by rw [he5]; rfl]
        rw [if_pos he5] at h1
        ((conv => whnf); (repeat ((first | refine BoxN.own ?_ | refine VrN.norm (wrap_i64 (by omega)) ?_ | refine VrN.keep ?_ | refine DrawN.calm (by decide +kernel) ?_ | refine Nd.mk (by decide +kernel) ?_ | refine Nd.mk (by omega) ?_ | (refine Nd.mk ?_ ?_; focus ((repeat' (first | exact trivial | exact wkE_refl _ | refine And.intro ?_ ?_)); done)) | refine RdN.intro _ rfl (by rfl) ?_); (conv => whnf))))
        -- the contract next_m rb st5 p5 is called
        refine callG (next_m rb st5 p5) [0, 1, 2, 3, 4] rfl ⟨rfl, rfl, rfl, rfl, rfl, trivial⟩ rfl fun _ _ => ?_
        have b5 := h4.le (next_le st5)
        have o5 := h3.same (next_keep st5)
        have l5 := name_le ns st5
        have d5 := fuel_keep h5 l5 name_dead
        have hnm : nameM ns st5 = ((symM (nextM st5).1 (nextM st5).2).1, if (symM (nextM st5).1 (nextM st5).2).2.e = 0 ∧ ((symM (nextM st5).1 (nextM st5).2).1 ∈ ns ∨ Go.Scan.iiB (symM (nextM st5).1 (nextM st5).2).1 = false) then failM (symM (nextM st5).1 (nextM st5).2).2 4 else (symM (nextM st5).1 (nextM st5).2).2) := rfl
        have hsy5 := symbol_rd rb (nextM st5).1 (nextM st5).2 p5 o5 (by have := b5.pot; omega)
        have os5 := fun i hi => o5.sym (by have := b5.pot; omega) (nextM st5).1 (i := i) hi
        have tl5 := symM_len (nextM st5).1 (nextM st5).2 (by have := b5.pot; omega) o5.sw
        generalize nextM st5 = qx at hnm hsy5 os5 tl5 ⊢
        obtain ⟨x5, s51⟩ := qx
        simp only at hnm hsy5 os5 tl5
        ((conv => whnf); (repeat ((first | refine BoxN.own ?_ | refine VrN.norm (wrap_i64 (by omega)) ?_ | refine VrN.keep ?_ | refine DrawN.calm (by decide +kernel) ?_ | refine Nd.mk (by decide +kernel) ?_ | refine Nd.mk (by omega) ?_ | (refine Nd.mk ?_ ?_; focus ((repeat' (first | exact trivial | exact wkE_refl _ | refine And.intro ?_ ?_)); done)) | refine RdN.intro _ rfl (by rfl) ?_); (conv => whnf))))
        refine callG hsy5 [0, 1, 2, 3, 4] rfl ⟨rfl, rfl, rfl, rfl, rfl, trivial⟩ rfl fun i6 hi6 => ?_
        have ok6 := os5 i6 hi6
        generalize symM x5 s51 = qs at hnm ok6 tl5 ⊢
        obtain ⟨t6, s6⟩ := qs
        simp only at hnm ok6 tl5
        obtain ⟨p6, hp6⟩ : ∃ p6 : RdP, p6 = { p5 with sa := i6.1, sc := i6.2 } := ⟨_, rfl⟩
        rw [← hp6] at ok6 ⊢
        ((conv => whnf); (repeat ((first | refine BoxN.own ?_ | refine VrN.norm (wrap_i64 (by omega)) ?_ | refine VrN.keep ?_ | refine DrawN.calm (by decide +kernel) ?_ | refine Nd.mk (by decide +kernel) ?_ | refine Nd.mk (by omega) ?_ | (refine Nd.mk ?_ ?_; focus ((repeat' (first | exact trivial | exact wkE_refl _ | refine And.intro ?_ ?_)); done)) | refine RdN.intro _ rfl (by rfl) ?_); (conv => whnf))))
        refine RwN.known [.string (bs t6)] rfl fun nb => ?_
        ((conv => whnf); (repeat ((first | refine BoxN.own ?_ | refine VrN.norm (wrap_i64 (by omega)) ?_ | refine VrN.keep ?_ | refine DrawN.calm (by decide +kernel) ?_ | refine Nd.mk (by decide +kernel) ?_ | refine Nd.mk (by omega) ?_ | (refine Nd.mk ?_ ?_; focus ((repeat' (first | exact trivial | exact wkE_refl _ | refine And.intro ?_ ?_)); done)) | refine RdN.intro _ rfl (by rfl) ?_); (conv => whnf))))
        refine RwN.known [.int .i64 0] rfl fun zb => ?_
        ((conv => whnf); (repeat ((first | refine BoxN.own ?_ | refine VrN.norm (wrap_i64 (by omega)) ?_ | refine VrN.keep ?_ | refine DrawN.calm (by decide +kernel) ?_ | refine Nd.mk (by decide +kernel) ?_ | refine Nd.mk (by omega) ?_ | (refine Nd.mk ?_ ?_; focus ((repeat' (first | exact trivial | exact wkE_refl _ | refine And.intro ?_ ?_)); done)) | refine RdN.intro _ rfl (by rfl) ?_); (conv => whnf))))
        refine RwN.known (cellC ⟨⟨8, 0, [65], [t6], [0]⟩, some ⟨nb, 0, none⟩, 1, some ⟨zb, 0, none⟩, 1⟩) rfl fun ob => ?_
        ((conv => whnf); (repeat ((first | refine BoxN.own ?_ | refine VrN.norm (wrap_i64 (by omega)) ?_ | refine VrN.keep ?_ | refine DrawN.calm (by decide +kernel) ?_ | refine Nd.mk (by decide +kernel) ?_ | refine Nd.mk (by omega) ?_ | (refine Nd.mk ?_ ?_; focus ((repeat' (first | exact trivial | exact wkE_refl _ | refine And.intro ?_ ?_)); done)) | refine RdN.intro _ rfl (by rfl) ?_); (conv => whnf))))
        -- 4: the field, .int .i64 s6.e: its value
        refine LdN.one (a := some ⟨rb, 0, none⟩) (q := 4) (.int .i64 s6.e) rfl (fun w hw => hw.1) rfl ?_
        ((conv => whnf); (repeat ((first | refine BoxN.own ?_ | refine VrN.norm (wrap_i64 (by omega)) ?_ | refine VrN.keep ?_ | refine DrawN.calm (by decide +kernel) ?_ | refine Nd.mk (by decide +kernel) ?_ | refine Nd.mk (by omega) ?_ | (refine Nd.mk ?_ ?_; focus ((repeat' (first | exact trivial | exact wkE_refl _ | refine And.intro ?_ ?_)); done)) | refine RdN.intro _ rfl (by rfl) ?_); (conv => whnf))))
        have hqo : CellOk ⟨⟨8, 0, [65], [t6], [0]⟩, some ⟨nb, 0, none⟩, 1, some ⟨zb, 0, none⟩, 1⟩ := ⟨(fun h => by cases h), (fun h => by cases h), by show 1 ≤ _; omega, by show 1 ≤ _; omega, fun s hs => by obtain rfl := List.mem_singleton.1 hs; omega, by show 1 ≤ _; omega, Nat.le_refl _, Nat.le_refl _⟩
        have hck := check1 ⟨⟨8, 0, [65], [t6], [0]⟩, some ⟨nb, 0, none⟩, 1, some ⟨zb, 0, none⟩, 1⟩ ob hqo ⟨by show 1 ≤ _; omega, by show 1 ≤ _; omega⟩ (Go.Scan.iiB t6) (valid_name t6).symm
        have hll : l.length ≤ 30001 := by omega
        by_cases he6 : s6.e = 0
        · rw [show (s6.e == 0) = true by rw [he6]; rfl]
          ((conv => whnf); (repeat ((first | refine BoxN.own ?_ | refine VrN.norm (wrap_i64 (by omega)) ?_ | refine VrN.keep ?_ | refine DrawN.calm (by decide +kernel) ?_ | refine Nd.mk (by decide +kernel) ?_ | refine Nd.mk (by omega) ?_ | (refine Nd.mk ?_ ?_; focus ((repeat' (first | exact trivial | exact wkE_refl _ | refine And.intro ?_ ?_)); done)) | refine RdN.intro _ rfl (by rfl) ?_); (conv => whnf))))
          -- the object's field 3, whose value is .slice na ns.length nc
          refine LdN.one (a := some ⟨kb, 0, none⟩) (q := 3) (.slice na ns.length nc) rfl (fun w hw => hw.2.2.2.2.2.2.2.1) rfl ?_
          ((conv => whnf); (repeat ((first | refine BoxN.own ?_ | refine VrN.norm (wrap_i64 (by omega)) ?_ | refine VrN.keep ?_ | refine DrawN.calm (by decide +kernel) ?_ | refine Nd.mk (by decide +kernel) ?_ | refine Nd.mk (by omega) ?_ | (refine Nd.mk ?_ ?_; focus ((repeat' (first | exact trivial | exact wkE_refl _ | refine And.intro ?_ ?_)); done)) | refine RdN.intro _ rfl (by rfl) ?_); (conv => whnf))))
          refine call1 (Contains_m na ns nc t6 h8 (by omega) _ (fun w hw => hw.2.2.2.2.2.1)) ?_
          by_cases hmem : t6 ∈ ns
          · rw [show decide (t6 ∈ ns) = true by simpa using hmem]
            rw [if_pos ⟨he6, .inl hmem⟩] at hnm
            ((conv => whnf); (repeat ((first | refine BoxN.own ?_ | refine VrN.norm (wrap_i64 (by omega)) ?_ | refine VrN.keep ?_ | refine DrawN.calm (by decide +kernel) ?_ | refine Nd.mk (by decide +kernel) ?_ | refine Nd.mk (by omega) ?_ | (refine Nd.mk ?_ ?_; focus ((repeat' (first | exact trivial | exact wkE_refl _ | refine And.intro ?_ ?_)); done)) | refine RdN.intro _ rfl (by rfl) ?_); (conv => whnf))))
            -- the contract fail_m rb s6 p6 4 is called
            refine callG (fail_m rb s6 p6 4) [0, 1, 2, 3, 4] rfl ⟨rfl, rfl, rfl, rfl, rfl, trivial⟩ rfl fun _ _ => ?_
            have ok7 := ok6.same (fail_ss s6 4)
            -- the name is put behind the names, a cell is read and put behind the items; the reader is then failM s6 4
            rw [hnm] at h1 l5 d5
            simp only at h1 l5 d5
            have b7 := h4.le l5
            (first | refine wX ?_ | exact wZ)
            -- the object's field 3, whose value is .slice na ns.length nc
            refine LdN.one (a := some ⟨kb, 0, none⟩) (q := 3) (.slice na ns.length nc) rfl (fun w hw => hw.2.2.2.2.2.2.2.1) rfl ?_
            (first | refine wX ?_ | exact wZ)
            refine Nd.mk ⟨Nat.le_refl 1, rfl, rfl⟩ ?_
            (conv => whnf)
            refine AppN.grow 5 (strC ns) [.string (bs t6)] rfl rfl ⟨Nat.le_refl 1, ⟨by show (ns.length + 1) * 16 ≤ _; omega, by omega⟩, by decide⟩ fun nb' nc' g1 g2 => ?_
            (first | refine wX ?_ | exact wZ)
            refine EffW.appTo (i := 8) (q := 3) (ys := [_]) (cellC ⟨⟨8, 0, t, ns ++ [t6], l⟩, some ⟨nb', 0, none⟩, nc', ia, ic⟩) 5 rfl rfl rfl rfl rfl rfl rfl (Nat.le_of_ble_eq_true rfl) (by simp [cellC]) rfl ?_
            (first | refine wXD ?_ | exact wZD)
            refine DrawN.planC (fun w => SlAt (some ⟨kb, 0, none⟩) 5 (cellC ⟨⟨8, 0, t, ns ++ [t6], l⟩, some ⟨nb', 0, none⟩, nc', ia, ic⟩) w) [0, 2] [(1, 1), (3, 0), (4, 0), (5, 0), (6, 2)] [(7, 0)] (by decide +kernel) (fun w hw => hw.2.2.2.2.2.2.2.1) ?_
            -- fun w hw => hw.2.2.2.2.2.2.2.1: why the kind holds
            ((conv => whnf); (repeat ((first | refine Nd.mk (fun w hw => hw.2.2.2.2.2.2.2.1) ?_ | refine RwN.own ?_ | refine VrN.norm (wrap_i64 (by omega)) ?_ | refine VrN.keep ?_ | refine Nd.mk (by decide +kernel) ?_ | refine Nd.mk (by omega) ?_ | refine RdN.intro _ rfl (by rfl) ?_); (conv => whnf))))
            refine ReadC.one (a := some ⟨kb, 0, none⟩) (q := 4) (.slice ia l.length ic) rfl rfl rfl (fun w hw => hw) rfl ?_
            -- fun w hw => hw.2.2.2.2.2.2.2.1: why the kind holds
            ((conv => whnf); (repeat ((first | refine Nd.mk (fun w hw => hw.2.2.2.2.2.2.2.1) ?_ | refine RwN.own ?_ | refine VrN.norm (wrap_i64 (by omega)) ?_ | refine VrN.keep ?_ | refine Nd.mk (by decide +kernel) ?_ | refine Nd.mk (by omega) ?_ | refine RdN.intro _ rfl (by rfl) ?_); (conv => whnf))))
            refine callG (hc rb (failM s6 4) p6 ok7 b7 d5) [0, 1, 2, 3, 4] rfl ⟨rfl, rfl, rfl, rfl, rfl, trivial⟩ rfl fun p7 hp7 => ?_
            have hle := htk.le (failM s6 4)
            have hlt := htk.lt (failM s6 4)
            have hdd := cell_dead_e (n := n) (st := failM s6 4)
            generalize cellM n (failM s6 4) = r at h1 hp7 hle hlt hdd ⊢
            obtain ⟨z, s7⟩ := r
            simp only at h1 hp7 hle hlt hdd
            -- fun w hw => hw.2.2.2.2.2.2.2.1: why the kind holds
            ((conv => whnf); (repeat ((first | refine Nd.mk (fun w hw => hw.2.2.2.2.2.2.2.1) ?_ | refine RwN.own ?_ | refine VrN.norm (wrap_i64 (by omega)) ?_ | refine VrN.keep ?_ | refine Nd.mk (by decide +kernel) ?_ | refine Nd.mk (by omega) ?_ | refine RdN.intro _ rfl (by rfl) ?_); (conv => whnf))))
            refine Nd.mk ⟨Nat.le_refl 1, rfl, rfl⟩ ?_
            (conv => whnf)
            refine AppN.grow 6 (iC l) [.int .i64 z] rfl rfl ⟨Nat.le_refl 1, ⟨by show (l.length + 1) * 8 ≤ _; omega, by omega⟩, by decide⟩ fun ib' ic' g3 g4 => ?_
            -- fun w hw => hw.2.2.2.2.2.2.2.1: why the kind holds
            ((conv => whnf); (repeat ((first | refine Nd.mk (fun w hw => hw.2.2.2.2.2.2.2.1) ?_ | refine RwN.own ?_ | refine VrN.norm (wrap_i64 (by omega)) ?_ | refine VrN.keep ?_ | refine Nd.mk (by decide +kernel) ?_ | refine Nd.mk (by omega) ?_ | refine RdN.intro _ rfl (by rfl) ?_); (conv => whnf))))
            have e1 : iC l ++ [.int .i64 z] = iC (l ++ [z]) := by simp [iC]
            have e2 : l.length + 1 = (l ++ [z]).length := by simp
            have e3 : strC ns ++ [.string (bs t6)] = strC (ns ++ [t6]) := by simp [strC]
            have e4 : ns.length + 1 = (ns ++ [t6]).length := by simp
            refine EffW.appTo (i := 8) (q := 4) (ys := [_]) (cellC ⟨⟨8, 0, t, ns ++ [t6], l ++ [z]⟩, some ⟨nb', 0, none⟩, nc', some ⟨ib', 0, none⟩, ic'⟩) 5 rfl rfl rfl rfl rfl rfl rfl (Nat.le_of_ble_eq_true rfl) (by simp [cellC]) rfl ?_
            -- fun w hw => hw.2.2.2.2.2.2.2.1: why the kind holds
            ((conv => whnf); (repeat ((first | refine Nd.mk (fun w hw => hw.2.2.2.2.2.2.2.1) ?_ | refine RwN.own ?_ | refine VrN.norm (wrap_i64 (by omega)) ?_ | refine VrN.keep ?_ | refine Nd.mk (by decide +kernel) ?_ | refine Nd.mk (by omega) ?_ | refine RdN.intro _ rfl (by rfl) ?_); (conv => whnf))))
            ((conv => whnf); (repeat ((first | refine BoxN.own ?_ | refine VrN.norm (wrap_i64 (by omega)) ?_ | refine VrN.keep ?_ | refine DrawN.calm (by decide +kernel) ?_ | refine Nd.mk (by decide +kernel) ?_ | refine Nd.mk (by omega) ?_ | (refine Nd.mk ?_ ?_; focus ((repeat' (first | exact trivial | exact wkE_refl _ | refine And.intro ?_ ?_)); done)) | refine RdN.intro _ rfl (by rfl) ?_); (conv => whnf))))
            rw [e1, e2, e3, e4]
            refine ⟨(i + 1, ns ++ [t6], l ++ [z], s7, ⟨p7, some ⟨nb', 0, none⟩, nc', some ⟨ib', 0, none⟩, ic'⟩), ⟨by rw [← h1, show m - (i + 1) = k by omega], by show i + 1 ≤ m; omega, hp7, b7.le hle, ?_, ?_, by simp; omega, (fun h => by cases h), (fun h => by cases h), by rw [← e4]; exact g1, by rw [← e2]; exact g3, ?_⟩, ?_, ?_, ?_⟩
            · rcases d5 with h | h
              · exact .inl (Nat.lt_of_le_of_lt hle.s h)
              · refine .inr ?_
                exact hdd h
            · rw [List.length_append, List.length_singleton]
              have hs := hle.s
              have hs5 := l5.s
              unfold liv at h6 ⊢
              rw [if_pos he5] at h6
              split
              · rename_i h9
                have := hlt h9
                omega
              · omega
            · intro y hy
              rcases List.mem_append.1 hy with h | h
              · exact h12 y h
              · rw [List.mem_singleton.1 h]; exact tl5
            · show (if s7.e = 0 then s7.s.length + 1 else 0) < if st5.e = 0 then st5.s.length + 1 else 0
              rw [if_pos he5]
              have hs5 := l5.s
              split
              · rename_i h9
                have := hlt h9
                omega
              · omega
            · (repeat' (first | exact trivial | refine And.intro (by with_reducible rfl) ?_ | (with_reducible exact wkC_refl _) | (with_reducible exact wkCs_refl _) | refine And.intro ?_ ?_))
              all_goals first | rfl | exact av_int (by rw [wrap_i64 (by omega)]; omega)
            · exact ⟨wkE_refl _, wkE_refl _, wkE_refl _, wkE_refl _, wkE_refl _, wkE_refl _, wkE_refl _, wkE_refl _, wkE_refl _, by (repeat' (first | exact trivial | exact wkE_refl _ | refine And.intro ?_ ?_))⟩
          · rw [show decide (t6 ∈ ns) = false by simpa using hmem]
            ((conv => whnf); (repeat ((first | refine BoxN.own ?_ | refine VrN.norm (wrap_i64 (by omega)) ?_ | refine VrN.keep ?_ | refine DrawN.calm (by decide +kernel) ?_ | refine Nd.mk (by decide +kernel) ?_ | refine Nd.mk (by omega) ?_ | (refine Nd.mk ?_ ?_; focus ((repeat' (first | exact trivial | exact wkE_refl _ | refine And.intro ?_ ?_)); done)) | refine RdN.intro _ rfl (by rfl) ?_); (conv => whnf))))
            cases hii : Go.Scan.iiB t6 with
            | true =>
              rw [hii] at hck hnm
              rw [if_neg (fun h => h.2.elim hmem (fun h => by cases h))] at hnm
              refine call1 (hck _ (fun w hw => ⟨hw.2.2.2.2.2.2.2.2.2.2.1, hw.2.2.2.2.2.2.2.2.1, hw.2.2.2.2.2.2.2.2.2.1⟩)) ?_
              have ok7 := ok6
              -- the name is put behind the names, a cell is read and put behind the items; the reader is then s6
              rw [hnm] at h1 l5 d5
              simp only at h1 l5 d5
              have b7 := h4.le l5
              (first | refine wX ?_ | exact wZ)
              -- the object's field 3, whose value is .slice na ns.length nc
              refine LdN.one (a := some ⟨kb, 0, none⟩) (q := 3) (.slice na ns.length nc) rfl (fun w hw => hw.2.2.2.2.2.2.2.1) rfl ?_
              (first | refine wX ?_ | exact wZ)
              refine Nd.mk ⟨Nat.le_refl 1, rfl, rfl⟩ ?_
              (conv => whnf)
              refine AppN.grow 5 (strC ns) [.string (bs t6)] rfl rfl ⟨Nat.le_refl 1, ⟨by show (ns.length + 1) * 16 ≤ _; omega, by omega⟩, by decide⟩ fun nb' nc' g1 g2 => ?_
              (first | refine wX ?_ | exact wZ)
              refine EffW.appTo (i := 8) (q := 3) (ys := [_]) (cellC ⟨⟨8, 0, t, ns ++ [t6], l⟩, some ⟨nb', 0, none⟩, nc', ia, ic⟩) 5 rfl rfl rfl rfl rfl rfl rfl (Nat.le_of_ble_eq_true rfl) (by simp [cellC]) rfl ?_
              (first | refine wXD ?_ | exact wZD)
              refine DrawN.planC (fun w => SlAt (some ⟨kb, 0, none⟩) 5 (cellC ⟨⟨8, 0, t, ns ++ [t6], l⟩, some ⟨nb', 0, none⟩, nc', ia, ic⟩) w) [0, 2] [(1, 1), (3, 0), (4, 0), (5, 0), (6, 2)] [(7, 0)] (by decide +kernel) (fun w hw => hw.2.2.2.2.2.2.2.1) ?_
              -- fun w hw => hw.2.2.2.2.2.2.2.1: why the kind holds
              ((conv => whnf); (repeat ((first | refine Nd.mk (fun w hw => hw.2.2.2.2.2.2.2.1) ?_ | refine RwN.own ?_ | refine VrN.norm (wrap_i64 (by omega)) ?_ | refine VrN.keep ?_ | refine Nd.mk (by decide +kernel) ?_ | refine Nd.mk (by omega) ?_ | refine RdN.intro _ rfl (by rfl) ?_); (conv => whnf))))
              refine ReadC.one (a := some ⟨kb, 0, none⟩) (q := 4) (.slice ia l.length ic) rfl rfl rfl (fun w hw => hw) rfl ?_
              -- fun w hw => hw.2.2.2.2.2.2.2.1: why the kind holds
              ((conv => whnf); (repeat ((first | refine Nd.mk (fun w hw => hw.2.2.2.2.2.2.2.1) ?_ | refine RwN.own ?_ | refine VrN.norm (wrap_i64 (by omega)) ?_ | refine VrN.keep ?_ | refine Nd.mk (by decide +kernel) ?_ | refine Nd.mk (by omega) ?_ | refine RdN.intro _ rfl (by rfl) ?_); (conv => whnf))))
              refine callG (hc rb (s6) p6 ok7 b7 d5) [0, 1, 2, 3, 4] rfl ⟨rfl, rfl, rfl, rfl, rfl, trivial⟩ rfl fun p7 hp7 => ?_
              have hle := htk.le (s6)
              have hlt := htk.lt (s6)
              have hdd := cell_dead_e (n := n) (st := s6)
              generalize cellM n (s6) = r at h1 hp7 hle hlt hdd ⊢
              obtain ⟨z, s7⟩ := r
              simp only at h1 hp7 hle hlt hdd
              -- fun w hw => hw.2.2.2.2.2.2.2.1: why the kind holds
              ((conv => whnf); (repeat ((first | refine Nd.mk (fun w hw => hw.2.2.2.2.2.2.2.1) ?_ | refine RwN.own ?_ | refine VrN.norm (wrap_i64 (by omega)) ?_ | refine VrN.keep ?_ | refine Nd.mk (by decide +kernel) ?_ | refine Nd.mk (by omega) ?_ | refine RdN.intro _ rfl (by rfl) ?_); (conv => whnf))))
              refine Nd.mk ⟨Nat.le_refl 1, rfl, rfl⟩ ?_
              (conv => whnf)
              refine AppN.grow 6 (iC l) [.int .i64 z] rfl rfl ⟨Nat.le_refl 1, ⟨by show (l.length + 1) * 8 ≤ _; omega, by omega⟩, by decide⟩ fun ib' ic' g3 g4 => ?_
              -- fun w hw => hw.2.2.2.2.2.2.2.1: why the kind holds
              ((conv => whnf); (repeat ((first | refine Nd.mk (fun w hw => hw.2.2.2.2.2.2.2.1) ?_ | refine RwN.own ?_ | refine VrN.norm (wrap_i64 (by omega)) ?_ | refine VrN.keep ?_ | refine Nd.mk (by decide +kernel) ?_ | refine Nd.mk (by omega) ?_ | refine RdN.intro _ rfl (by rfl) ?_); (conv => whnf))))
              have e1 : iC l ++ [.int .i64 z] = iC (l ++ [z]) := by simp [iC]
              have e2 : l.length + 1 = (l ++ [z]).length := by simp
              have e3 : strC ns ++ [.string (bs t6)] = strC (ns ++ [t6]) := by simp [strC]
              have e4 : ns.length + 1 = (ns ++ [t6]).length := by simp
              refine EffW.appTo (i := 8) (q := 4) (ys := [_]) (cellC ⟨⟨8, 0, t, ns ++ [t6], l ++ [z]⟩, some ⟨nb', 0, none⟩, nc', some ⟨ib', 0, none⟩, ic'⟩) 5 rfl rfl rfl rfl rfl rfl rfl (Nat.le_of_ble_eq_true rfl) (by simp [cellC]) rfl ?_
              -- fun w hw => hw.2.2.2.2.2.2.2.1: why the kind holds
              ((conv => whnf); (repeat ((first | refine Nd.mk (fun w hw => hw.2.2.2.2.2.2.2.1) ?_ | refine RwN.own ?_ | refine VrN.norm (wrap_i64 (by omega)) ?_ | refine VrN.keep ?_ | refine Nd.mk (by decide +kernel) ?_ | refine Nd.mk (by omega) ?_ | refine RdN.intro _ rfl (by rfl) ?_); (conv => whnf))))
              ((conv => whnf); (repeat ((first | refine BoxN.own ?_ | refine VrN.norm (wrap_i64 (by omega)) ?_ | refine VrN.keep ?_ | refine DrawN.calm (by decide +kernel) ?_ | refine Nd.mk (by decide +kernel) ?_ | refine Nd.mk (by omega) ?_ | (refine Nd.mk ?_ ?_; focus ((repeat' (first | exact trivial | exact wkE_refl _ | refine And.intro ?_ ?_)); done)) | refine RdN.intro _ rfl (by rfl) ?_); (conv => whnf))))
              rw [e1, e2, e3, e4]
              refine ⟨(i + 1, ns ++ [t6], l ++ [z], s7, ⟨p7, some ⟨nb', 0, none⟩, nc', some ⟨ib', 0, none⟩, ic'⟩), ⟨by rw [← h1, show m - (i + 1) = k by omega], by show i + 1 ≤ m; omega, hp7, b7.le hle, ?_, ?_, by simp; omega, (fun h => by cases h), (fun h => by cases h), by rw [← e4]; exact g1, by rw [← e2]; exact g3, ?_⟩, ?_, ?_, ?_⟩
              · rcases d5 with h | h
                · exact .inl (Nat.lt_of_le_of_lt hle.s h)
                · refine .inr ?_
                  exact hdd h
              · rw [List.length_append, List.length_singleton]
                have hs := hle.s
                have hs5 := l5.s
                unfold liv at h6 ⊢
                rw [if_pos he5] at h6
                split
                · rename_i h9
                  have := hlt h9
                  omega
                · omega
              · intro y hy
                rcases List.mem_append.1 hy with h | h
                · exact h12 y h
                · rw [List.mem_singleton.1 h]; exact tl5
              · show (if s7.e = 0 then s7.s.length + 1 else 0) < if st5.e = 0 then st5.s.length + 1 else 0
                rw [if_pos he5]
                have hs5 := l5.s
                split
                · rename_i h9
                  have := hlt h9
                  omega
                · omega
              · (repeat' (first | exact trivial | refine And.intro (by with_reducible rfl) ?_ | (with_reducible exact wkC_refl _) | (with_reducible exact wkCs_refl _) | refine And.intro ?_ ?_))
                all_goals first | rfl | exact av_int (by rw [wrap_i64 (by omega)]; omega)
              · exact ⟨wkE_refl _, wkE_refl _, wkE_refl _, wkE_refl _, wkE_refl _, wkE_refl _, wkE_refl _, wkE_refl _, wkE_refl _, by (repeat' (first | exact trivial | exact wkE_refl _ | refine And.intro ?_ ?_))⟩
            | false =>
              rw [hii] at hck hnm
              rw [if_pos ⟨he6, .inr rfl⟩] at hnm
              refine call1 (hck _ (fun w hw => ⟨hw.2.2.2.2.2.2.2.2.2.2.1, hw.2.2.2.2.2.2.2.2.1, hw.2.2.2.2.2.2.2.2.2.1⟩)) ?_
              ((conv => whnf); (repeat ((first | refine BoxN.own ?_ | refine VrN.norm (wrap_i64 (by omega)) ?_ | refine VrN.keep ?_ | refine DrawN.calm (by decide +kernel) ?_ | refine Nd.mk (by decide +kernel) ?_ | refine Nd.mk (by omega) ?_ | (refine Nd.mk ?_ ?_; focus ((repeat' (first | exact trivial | exact wkE_refl _ | refine And.intro ?_ ?_)); done)) | refine RdN.intro _ rfl (by rfl) ?_); (conv => whnf))))
              -- the contract fail_m rb s6 p6 4 is called
              refine callG (fail_m rb s6 p6 4) [0, 1, 2, 3, 4] rfl ⟨rfl, rfl, rfl, rfl, rfl, trivial⟩ rfl fun _ _ => ?_
              have ok7 := ok6.same (fail_ss s6 4)
              -- the name is put behind the names, a cell is read and put behind the items; the reader is then failM s6 4
              rw [hnm] at h1 l5 d5
              simp only at h1 l5 d5
              have b7 := h4.le l5
              (first | refine wX ?_ | exact wZ)
              -- the object's field 3, whose value is .slice na ns.length nc
              refine LdN.one (a := some ⟨kb, 0, none⟩) (q := 3) (.slice na ns.length nc) rfl (fun w hw => hw.2.2.2.2.2.2.2.1) rfl ?_
              (first | refine wX ?_ | exact wZ)
              refine Nd.mk ⟨Nat.le_refl 1, rfl, rfl⟩ ?_
              (conv => whnf)
              refine AppN.grow 5 (strC ns) [.string (bs t6)] rfl rfl ⟨Nat.le_refl 1, ⟨by show (ns.length + 1) * 16 ≤ _; omega, by omega⟩, by decide⟩ fun nb' nc' g1 g2 => ?_
              (first | refine wX ?_ | exact wZ)
              refine EffW.appTo (i := 8) (q := 3) (ys := [_]) (cellC ⟨⟨8, 0, t, ns ++ [t6], l⟩, some ⟨nb', 0, none⟩, nc', ia, ic⟩) 5 rfl rfl rfl rfl rfl rfl rfl (Nat.le_of_ble_eq_true rfl) (by simp [cellC]) rfl ?_
              (first | refine wXD ?_ | exact wZD)
              refine DrawN.planC (fun w => SlAt (some ⟨kb, 0, none⟩) 5 (cellC ⟨⟨8, 0, t, ns ++ [t6], l⟩, some ⟨nb', 0, none⟩, nc', ia, ic⟩) w) [0, 2] [(1, 1), (3, 0), (4, 0), (5, 0), (6, 2)] [(7, 0)] (by decide +kernel) (fun w hw => hw.2.2.2.2.2.2.2.1) ?_
              -- fun w hw => hw.2.2.2.2.2.2.2.1: why the kind holds
              ((conv => whnf); (repeat ((first | refine Nd.mk (fun w hw => hw.2.2.2.2.2.2.2.1) ?_ | refine RwN.own ?_ | refine VrN.norm (wrap_i64 (by omega)) ?_ | refine VrN.keep ?_ | refine Nd.mk (by decide +kernel) ?_ | refine Nd.mk (by omega) ?_ | refine RdN.intro _ rfl (by rfl) ?_); (conv => whnf))))
              refine ReadC.one (a := some ⟨kb, 0, none⟩) (q := 4) (.slice ia l.length ic) rfl rfl rfl (fun w hw => hw) rfl ?_
              -- fun w hw => hw.2.2.2.2.2.2.2.1: why the kind holds
              ((conv => whnf); (repeat ((first | refine Nd.mk (fun w hw => hw.2.2.2.2.2.2.2.1) ?_ | refine RwN.own ?_ | refine VrN.norm (wrap_i64 (by omega)) ?_ | refine VrN.keep ?_ | refine Nd.mk (by decide +kernel) ?_ | refine Nd.mk (by omega) ?_ | refine RdN.intro _ rfl (by rfl) ?_); (conv => whnf))))
              refine callG (hc rb (failM s6 4) p6 ok7 b7 d5) [0, 1, 2, 3, 4] rfl ⟨rfl, rfl, rfl, rfl, rfl, trivial⟩ rfl fun p7 hp7 => ?_
              have hle := htk.le (failM s6 4)
              have hlt := htk.lt (failM s6 4)
              have hdd := cell_dead_e (n := n) (st := failM s6 4)
              generalize cellM n (failM s6 4) = r at h1 hp7 hle hlt hdd ⊢
              obtain ⟨z, s7⟩ := r
              simp only at h1 hp7 hle hlt hdd
              -- fun w hw => hw.2.2.2.2.2.2.2.1: why the kind holds
              ((conv => whnf); (repeat ((first | refine Nd.mk (fun w hw => hw.2.2.2.2.2.2.2.1) ?_ | refine RwN.own ?_ | refine VrN.norm (wrap_i64 (by omega)) ?_ | refine VrN.keep ?_ | refine Nd.mk (by decide +kernel) ?_ | refine Nd.mk (by omega) ?_ | refine RdN.intro _ rfl (by rfl) ?_); (conv => whnf))))
              refine Nd.mk ⟨Nat.le_refl 1, rfl, rfl⟩ ?_
              (conv => whnf)
              refine AppN.grow 6 (iC l) [.int .i64 z] rfl rfl ⟨Nat.le_refl 1, ⟨by show (l.length + 1) * 8 ≤ _; omega, by omega⟩, by decide⟩ fun ib' ic' g3 g4 => ?_
              -- fun w hw => hw.2.2.2.2.2.2.2.1: why the kind holds
              ((conv => whnf); (repeat ((first | refine Nd.mk (fun w hw => hw.2.2.2.2.2.2.2.1) ?_ | refine RwN.own ?_ | refine VrN.norm (wrap_i64 (by omega)) ?_ | refine VrN.keep ?_ | refine Nd.mk (by decide +kernel) ?_ | refine Nd.mk (by omega) ?_ | refine RdN.intro _ rfl (by rfl) ?_); (conv => whnf))))
              have e1 : iC l ++ [.int .i64 z] = iC (l ++ [z]) := by simp [iC]
              have e2 : l.length + 1 = (l ++ [z]).length := by simp
              have e3 : strC ns ++ [.string (bs t6)] = strC (ns ++ [t6]) := by simp [strC]
              have e4 : ns.length + 1 = (ns ++ [t6]).length := by simp
              refine EffW.appTo (i := 8) (q := 4) (ys := [_]) (cellC ⟨⟨8, 0, t, ns ++ [t6], l ++ [z]⟩, some ⟨nb', 0, none⟩, nc', some ⟨ib', 0, none⟩, ic'⟩) 5 rfl rfl rfl rfl rfl rfl rfl (Nat.le_of_ble_eq_true rfl) (by simp [cellC]) rfl ?_
              -- fun w hw => hw.2.2.2.2.2.2.2.1: why the kind holds
              ((conv => whnf); (repeat ((first | refine Nd.mk (fun w hw => hw.2.2.2.2.2.2.2.1) ?_ | refine RwN.own ?_ | refine VrN.norm (wrap_i64 (by omega)) ?_ | refine VrN.keep ?_ | refine Nd.mk (by decide +kernel) ?_ | refine Nd.mk (by omega) ?_ | refine RdN.intro _ rfl (by rfl) ?_); (conv => whnf))))
              ((conv => whnf); (repeat ((first | refine BoxN.own ?_ | refine VrN.norm (wrap_i64 (by omega)) ?_ | refine VrN.keep ?_ | refine DrawN.calm (by decide +kernel) ?_ | refine Nd.mk (by decide +kernel) ?_ | refine Nd.mk (by omega) ?_ | (refine Nd.mk ?_ ?_; focus ((repeat' (first | exact trivial | exact wkE_refl _ | refine And.intro ?_ ?_)); done)) | refine RdN.intro _ rfl (by rfl) ?_); (conv => whnf))))
              rw [e1, e2, e3, e4]
              refine ⟨(i + 1, ns ++ [t6], l ++ [z], s7, ⟨p7, some ⟨nb', 0, none⟩, nc', some ⟨ib', 0, none⟩, ic'⟩), ⟨by rw [← h1, show m - (i + 1) = k by omega], by show i + 1 ≤ m; omega, hp7, b7.le hle, ?_, ?_, by simp; omega, (fun h => by cases h), (fun h => by cases h), by rw [← e4]; exact g1, by rw [← e2]; exact g3, ?_⟩, ?_, ?_, ?_⟩
              · rcases d5 with h | h
                · exact .inl (Nat.lt_of_le_of_lt hle.s h)
                · refine .inr ?_
                  exact hdd h
              · rw [List.length_append, List.length_singleton]
                have hs := hle.s
                have hs5 := l5.s
                unfold liv at h6 ⊢
                rw [if_pos he5] at h6
                split
                · rename_i h9
                  have := hlt h9
                  omega
                · omega
              · intro y hy
                rcases List.mem_append.1 hy with h | h
                · exact h12 y h
                · rw [List.mem_singleton.1 h]; exact tl5
              · show (if s7.e = 0 then s7.s.length + 1 else 0) < if st5.e = 0 then st5.s.length + 1 else 0
                rw [if_pos he5]
                have hs5 := l5.s
                split
                · rename_i h9
                  have := hlt h9
                  omega
                · omega
              · (repeat' (first | exact trivial | refine And.intro (by with_reducible rfl) ?_ | (with_reducible exact wkC_refl _) | (with_reducible exact wkCs_refl _) | refine And.intro ?_ ?_))
                all_goals first | rfl | exact av_int (by rw [wrap_i64 (by omega)]; omega)
              · exact ⟨wkE_refl _, wkE_refl _, wkE_refl _, wkE_refl _, wkE_refl _, wkE_refl _, wkE_refl _, wkE_refl _, wkE_refl _, by (repeat' (first | exact trivial | exact wkE_refl _ | refine And.intro ?_ ?_))⟩
        · rw [show (s6.e == 0) = false by simpa using he6]
          rw [if_neg (fun h => he6 h.1)] at hnm
          have ok7 := ok6
          -- the name is put behind the names, a cell is read and put behind the items; the reader is then s6
          rw [hnm] at h1 l5 d5
          simp only at h1 l5 d5
          have b7 := h4.le l5
          (first | refine wX ?_ | exact wZ)
          -- the object's field 3, whose value is .slice na ns.length nc
          refine LdN.one (a := some ⟨kb, 0, none⟩) (q := 3) (.slice na ns.length nc) rfl (fun w hw => hw.2.2.2.2.2.2.2.1) rfl ?_
          (first | refine wX ?_ | exact wZ)
          refine Nd.mk ⟨Nat.le_refl 1, rfl, rfl⟩ ?_
          (conv => whnf)
          refine AppN.grow 5 (strC ns) [.string (bs t6)] rfl rfl ⟨Nat.le_refl 1, ⟨by show (ns.length + 1) * 16 ≤ _; omega, by omega⟩, by decide⟩ fun nb' nc' g1 g2 => ?_
          (first | refine wX ?_ | exact wZ)
          refine EffW.appTo (i := 8) (q := 3) (ys := [_]) (cellC ⟨⟨8, 0, t, ns ++ [t6], l⟩, some ⟨nb', 0, none⟩, nc', ia, ic⟩) 5 rfl rfl rfl rfl rfl rfl rfl (Nat.le_of_ble_eq_true rfl) (by simp [cellC]) rfl ?_
          (first | refine wXD ?_ | exact wZD)
          refine DrawN.planC (fun w => SlAt (some ⟨kb, 0, none⟩) 5 (cellC ⟨⟨8, 0, t, ns ++ [t6], l⟩, some ⟨nb', 0, none⟩, nc', ia, ic⟩) w) [0, 2] [(1, 1), (3, 0), (4, 0), (5, 0), (6, 2)] [(7, 0)] (by decide +kernel) (fun w hw => hw.2.2.2.2.2.2.2.1) ?_
          -- fun w hw => hw.2.2.2.2.2.2.2.1: why the kind holds
          ((conv => whnf); (repeat ((first | refine Nd.mk (fun w hw => hw.2.2.2.2.2.2.2.1) ?_ | refine RwN.own ?_ | refine VrN.norm (wrap_i64 (by omega)) ?_ | refine VrN.keep ?_ | refine Nd.mk (by decide +kernel) ?_ | refine Nd.mk (by omega) ?_ | refine RdN.intro _ rfl (by rfl) ?_); (conv => whnf))))
          refine ReadC.one (a := some ⟨kb, 0, none⟩) (q := 4) (.slice ia l.length ic) rfl rfl rfl (fun w hw => hw) rfl ?_
          -- fun w hw => hw.2.2.2.2.2.2.2.1: why the kind holds
          ((conv => whnf); (repeat ((first | refine Nd.mk (fun w hw => hw.2.2.2.2.2.2.2.1) ?_ | refine RwN.own ?_ | refine VrN.norm (wrap_i64 (by omega)) ?_ | refine VrN.keep ?_ | refine Nd.mk (by decide +kernel) ?_ | refine Nd.mk (by omega) ?_ | refine RdN.intro _ rfl (by rfl) ?_); (conv => whnf))))
          refine callG (hc rb (s6) p6 ok7 b7 d5) [0, 1, 2, 3, 4] rfl ⟨rfl, rfl, rfl, rfl, rfl, trivial⟩ rfl fun p7 hp7 => ?_
          have hle := htk.le (s6)
          have hlt := htk.lt (s6)
          have hdd := cell_dead_e (n := n) (st := s6)
          generalize cellM n (s6) = r at h1 hp7 hle hlt hdd ⊢
          obtain ⟨z, s7⟩ := r
          simp only at h1 hp7 hle hlt hdd
          -- fun w hw => hw.2.2.2.2.2.2.2.1: why the kind holds
          ((conv => whnf); (repeat ((first | refine Nd.mk (fun w hw => hw.2.2.2.2.2.2.2.1) ?_ | refine RwN.own ?_ | refine VrN.norm (wrap_i64 (by omega)) ?_ | refine VrN.keep ?_ | refine Nd.mk (by decide +kernel) ?_ | refine Nd.mk (by omega) ?_ | refine RdN.intro _ rfl (by rfl) ?_); (conv => whnf))))
          refine Nd.mk ⟨Nat.le_refl 1, rfl, rfl⟩ ?_
          (conv => whnf)
          refine AppN.grow 6 (iC l) [.int .i64 z] rfl rfl ⟨Nat.le_refl 1, ⟨by show (l.length + 1) * 8 ≤ _; omega, by omega⟩, by decide⟩ fun ib' ic' g3 g4 => ?_
          -- fun w hw => hw.2.2.2.2.2.2.2.1: why the kind holds
          ((conv => whnf); (repeat ((first | refine Nd.mk (fun w hw => hw.2.2.2.2.2.2.2.1) ?_ | refine RwN.own ?_ | refine VrN.norm (wrap_i64 (by omega)) ?_ | refine VrN.keep ?_ | refine Nd.mk (by decide +kernel) ?_ | refine Nd.mk (by omega) ?_ | refine RdN.intro _ rfl (by rfl) ?_); (conv => whnf))))
          have e1 : iC l ++ [.int .i64 z] = iC (l ++ [z]) := by simp [iC]
          have e2 : l.length + 1 = (l ++ [z]).length := by simp
          have e3 : strC ns ++ [.string (bs t6)] = strC (ns ++ [t6]) := by simp [strC]
          have e4 : ns.length + 1 = (ns ++ [t6]).length := by simp
          refine EffW.appTo (i := 8) (q := 4) (ys := [_]) (cellC ⟨⟨8, 0, t, ns ++ [t6], l ++ [z]⟩, some ⟨nb', 0, none⟩, nc', some ⟨ib', 0, none⟩, ic'⟩) 5 rfl rfl rfl rfl rfl rfl rfl (Nat.le_of_ble_eq_true rfl) (by simp [cellC]) rfl ?_
          -- fun w hw => hw.2.2.2.2.2.2.2.1: why the kind holds
          ((conv => whnf); (repeat ((first | refine Nd.mk (fun w hw => hw.2.2.2.2.2.2.2.1) ?_ | refine RwN.own ?_ | refine VrN.norm (wrap_i64 (by omega)) ?_ | refine VrN.keep ?_ | refine Nd.mk (by decide +kernel) ?_ | refine Nd.mk (by omega) ?_ | refine RdN.intro _ rfl (by rfl) ?_); (conv => whnf))))
          ((conv => whnf); (repeat ((first | refine BoxN.own ?_ | refine VrN.norm (wrap_i64 (by omega)) ?_ | refine VrN.keep ?_ | refine DrawN.calm (by decide +kernel) ?_ | refine Nd.mk (by decide +kernel) ?_ | refine Nd.mk (by omega) ?_ | (refine Nd.mk ?_ ?_; focus ((repeat' (first | exact trivial | exact wkE_refl _ | refine And.intro ?_ ?_)); done)) | refine RdN.intro _ rfl (by rfl) ?_); (conv => whnf))))
          rw [e1, e2, e3, e4]
          refine ⟨(i + 1, ns ++ [t6], l ++ [z], s7, ⟨p7, some ⟨nb', 0, none⟩, nc', some ⟨ib', 0, none⟩, ic'⟩), ⟨by rw [← h1, show m - (i + 1) = k by omega], by show i + 1 ≤ m; omega, hp7, b7.le hle, ?_, ?_, by simp; omega, (fun h => by cases h), (fun h => by cases h), by rw [← e4]; exact g1, by rw [← e2]; exact g3, ?_⟩, ?_, ?_, ?_⟩
          · rcases d5 with h | h
            · exact .inl (Nat.lt_of_le_of_lt hle.s h)
            · refine .inr ?_
              exact hdd h
          · rw [List.length_append, List.length_singleton]
            have hs := hle.s
            have hs5 := l5.s
            unfold liv at h6 ⊢
            rw [if_pos he5] at h6
            split
            · rename_i h9
              have := hlt h9
              omega
            · omega
          · intro y hy
            rcases List.mem_append.1 hy with h | h
            · exact h12 y h
            · rw [List.mem_singleton.1 h]; exact tl5
          · show (if s7.e = 0 then s7.s.length + 1 else 0) < if st5.e = 0 then st5.s.length + 1 else 0
            rw [if_pos he5]
            have hs5 := l5.s
            split
            · rename_i h9
              have := hlt h9
              omega
            · omega
          · (repeat' (first | exact trivial | refine And.intro (by with_reducible rfl) ?_ | (with_reducible exact wkC_refl _) | (with_reducible exact wkCs_refl _) | refine And.intro ?_ ?_))
            all_goals first | rfl | exact av_int (by rw [wrap_i64 (by omega)]; omega)
          · exact ⟨wkE_refl _, wkE_refl _, wkE_refl _, wkE_refl _, wkE_refl _, wkE_refl _, wkE_refl _, wkE_refl _, wkE_refl _, by (repeat' (first | exact trivial | exact wkE_refl _ | refine And.intro ?_ ?_))⟩
      · rw [show (st5.e == 0) = false by simpa using he5]
        rw [if_neg he5] at h1
        subst h1
        subst hR
        ((conv => whnf); (repeat ((first | refine BoxN.own ?_ | refine VrN.norm (wrap_i64 (by omega)) ?_ | refine VrN.keep ?_ | refine DrawN.calm (by decide +kernel) ?_ | refine Nd.mk (by decide +kernel) ?_ | refine Nd.mk (by omega) ?_ | (refine Nd.mk ?_ ?_; focus ((repeat' (first | exact trivial | exact wkE_refl _ | refine And.intro ?_ ?_)); done)) | refine RdN.intro _ rfl (by rfl) ?_); (conv => whnf))))
        refine LdN.agg (a := some ⟨kb, 0, none⟩) (q := 0) (cellC ⟨⟨8, 0, t, ns, l⟩, na, nc, ia, ic⟩) rfl (fun w hw => hw.2.2.2.2.2.2.2.1) rfl (fun j _ => by rw [Nat.zero_add]) ?_
        ((conv => whnf); (repeat ((first | refine BoxN.own ?_ | refine VrN.norm (wrap_i64 (by omega)) ?_ | refine VrN.keep ?_ | refine DrawN.calm (by decide +kernel) ?_ | refine Nd.mk (by decide +kernel) ?_ | refine Nd.mk (by omega) ?_ | (refine Nd.mk ?_ ?_; focus ((repeat' (first | exact trivial | exact wkE_refl _ | refine And.intro ?_ ?_)); done)) | refine RdN.intro _ rfl (by rfl) ?_); (conv => whnf))))
        exact ⟨⟨p5, na, nc, ia, ic⟩, ⟨h3, ⟨h8, h9, by show ns.length ≤ _; omega, by show l.length ≤ _; omega, fun s hs => Nat.le_trans (h12 s hs) (by omega), by show t.length ≤ _; omega, h10, h11⟩⟩, rfl, wkE_refl _, wkE_refl _, wkE_refl _, wkE_refl _, wkE_refl _, wkE_refl _, wkE_refl _, wkH_nil _⟩
    · rw [show decide ((i : Int) < (m : Int)) = false by simpa using hi]
      rw [show m - i = 0 by omega] at h1
      have h1 : ((ns, l), st5) = R2 := h1
      subst h1
      subst hR
      ((conv => whnf); (repeat ((first | refine BoxN.own ?_ | refine VrN.norm (wrap_i64 (by omega)) ?_ | refine VrN.keep ?_ | refine DrawN.calm (by decide +kernel) ?_ | refine Nd.mk (by decide +kernel) ?_ | refine Nd.mk (by omega) ?_ | (refine Nd.mk ?_ ?_; focus ((repeat' (first | exact trivial | exact wkE_refl _ | refine And.intro ?_ ?_)); done)) | refine RdN.intro _ rfl (by rfl) ?_); (conv => whnf))))
      refine LdN.agg (a := some ⟨kb, 0, none⟩) (q := 0) (cellC ⟨⟨8, 0, t, ns, l⟩, na, nc, ia, ic⟩) rfl (fun w hw => hw.2.2.2.2.2.2.2.1) rfl (fun j _ => by rw [Nat.zero_add]) ?_
      ((conv => whnf); (repeat ((first | refine BoxN.own ?_ | refine VrN.norm (wrap_i64 (by omega)) ?_ | refine VrN.keep ?_ | refine DrawN.calm (by decide +kernel) ?_ | refine Nd.mk (by decide +kernel) ?_ | refine Nd.mk (by omega) ?_ | (refine Nd.mk ?_ ?_; focus ((repeat' (first | exact trivial | exact wkE_refl _ | refine And.intro ?_ ?_)); done)) | refine RdN.intro _ rfl (by rfl) ?_); (conv => whnf))))
      exact ⟨⟨p5, na, nc, ia, ic⟩, ⟨h3, ⟨h8, h9, by show ns.length ≤ _; omega, by show l.length ≤ _; omega, fun s hs => Nat.le_trans (h12 s hs) (by omega), by show t.length ≤ _; omega, h10, h11⟩⟩, rfl, wkE_refl _, wkE_refl _, wkE_refl _, wkE_refl _, wkE_refl _, wkE_refl _, wkE_refl _, wkH_nil _⟩
end Go.Proofs.YtgogonnnojcioaaGreatDoor

/-
  Contracts: what stands behind the byte that begins a cell is read (program).
-/
namespace Go.Proofs.YtgogonnnojcioaaGreatDoor
open Go.AX Go.RowKit Go.Core Go.Marshal
set_option maxRecDepth 20000

theorem ok_leaf {c : Cell} (hn : c.names = []) (hi : c.items = []) (ht : c.text.length ≤ 30000) : CellOk ⟨c, none, 0, none, 0⟩ :=
  ⟨fun _ => hn, fun _ => hi, by rw [hn]; exact Nat.zero_le _, by rw [hi]; exact Nat.zero_le _, (fun s hs => by rw [hn] at hs; cases hs), by show c.text.length ≤ _; omega, by rw [hn]; exact Nat.le_refl _, by rw [hi]; exact Nat.le_refl _⟩
theorem inner_rd (n : Nat) (hc : CellC n) (rb : Nat) (st : PS) (p : RdP) (ok : RdOk st p) (bd : Bd st) (hn : st.s.length < n ∨ st.e ≠ 0) (x : UInt8) (hx : x ∈ begins) : SpecH Tryz.prog 89 [.c (.v (.pointer (some ⟨rb, 0, none⟩))), .c (.v (.int .u8 (x.toNat : Int)))] (rdE rb st p) (RetG (ι := ObP) (fun i => RdOk (innerM (cellM n) x st).2 i.p ∧ CellOk ⟨(innerM (cellM n) x st).1, i.na, i.nc, i.ia, i.ic⟩) (fun i => cellV ⟨(innerM (cellM n) x st).1, i.na, i.nc, i.ia, i.ic⟩) fun i => rdE rb (innerM (cellM n) x st).2 i.p ++ [ownS (innerM (cellM n) x st).1.names i.na i.nc, ownI (innerM (cellM n) x st).1.items i.ia i.ic]) := by
  have bp := bd.pot
  have htk := cell_takes n
  simp only [begins, List.mem_cons, List.not_mem_nil, or_false] at hx
  rcases hx with rfl | rfl | rfl | rfl | rfl | rfl | rfl | rfl | rfl | rfl
  · refine SpecH.pad [.app 9 1 [] none 0 0, .app 3 1 [] none 0 0] rfl ?_
    refine ownC hm Tryz.func89 (by kernel_rfl) rfl rfl (fun _ _ => okHB_eq rfl) (fun _ _ => Nat.le_of_ble_eq_true rfl) ?_
    (first | refine wX ?_ | exact wZ)
    exact ⟨⟨p, none, 0, none, 0⟩, ⟨ok, ok_leaf rfl rfl (Nat.zero_le _)⟩, rfl, wkE_refl _, wkE_refl _, wkE_refl _, wkE_refl _, wkE_refl _, wkE_refl _, wkE_refl _, wkH_nil _⟩
  · refine SpecH.pad [.app 9 1 [] none 0 0, .app 3 1 [] none 0 0] rfl ?_
    refine ownC hm Tryz.func89 (by kernel_rfl) rfl rfl (fun _ _ => okHB_eq rfl) (fun _ _ => Nat.le_of_ble_eq_true rfl) ?_
    (first | refine wX ?_ | exact wZ)
    exact ⟨⟨p, none, 0, none, 0⟩, ⟨ok, ok_leaf rfl rfl (Nat.zero_le _)⟩, rfl, wkE_refl _, wkE_refl _, wkE_refl _, wkE_refl _, wkE_refl _, wkE_refl _, wkE_refl _, wkH_nil _⟩
  · refine SpecH.pad [.app 9 1 [] none 0 0, .app 3 1 [] none 0 0] rfl ?_
    refine ownC hm Tryz.func89 (by kernel_rfl) rfl rfl (fun _ _ => okHB_eq rfl) (fun _ _ => Nat.le_of_ble_eq_true rfl) ?_
    (first | refine wX ?_ | exact wZ)
    exact ⟨⟨p, none, 0, none, 0⟩, ⟨ok, ok_leaf rfl rfl (Nat.zero_le _)⟩, rfl, wkE_refl _, wkE_refl _, wkE_refl _, wkE_refl _, wkE_refl _, wkE_refl _, wkE_refl _, wkH_nil _⟩
  · have hk := num_keep (2 * maxN) st
    have hmo := num_most (2 * maxN) st
    have hnum := number_m rb st p (2 * maxN) (by decide)
    have e : innerM (cellM n) 105 st = (⟨3, unsgn (numM (2 * maxN) st).1, [], [], []⟩, (numM (2 * maxN) st).2) := rfl
    rw [e]
    clear e
    generalize numM (2 * maxN) st = q at hk hmo hnum ⊢
    obtain ⟨m, s2⟩ := q
    simp only at hk hmo hnum
    have hmo : m ≤ 2000000000000000 := hmo
    refine SpecH.pad [.app 9 1 [] none 0 0, .app 3 1 [] none 0 0] rfl ?_
    refine ownC hm Tryz.func89 (by kernel_rfl) rfl rfl (fun _ _ => okHB_eq rfl) (fun _ _ => Nat.le_of_ble_eq_true rfl) ?_
    (first | refine wX ?_ | exact wZ)
    -- the contract hnum is called
    refine callG (hnum) [0, 1, 2, 3, 4] rfl ⟨rfl, rfl, rfl, rfl, rfl, trivial⟩ rfl fun _ _ => ?_
    (first | refine wX ?_ | exact wZ)
    have em : (m : Int).tmod 2 = ((m % 2 : Nat) : Int) := (Int.ofNat_tmod m 2).symm
    have ed : (m : Int).tdiv 2 = ((m / 2 : Nat) : Int) := (Int.ofNat_tdiv m 2).symm
    refine brd_eq (fun h => ?_) (fun h => ?_)
    · have hu : unsgn m = -(((m + 1) / 2 : Nat) : Int) := by unfold unsgn; rw [if_pos (by omega)]
      (first | refine wX ?_ | exact wZ)
      rw [show IntKind.i64.wrap ((IntKind.i64.wrap (0 - IntKind.i64.wrap ((m : Int) + 1))).tdiv 2) = unsgn m by
        rw [wrap_i64 (x := (m : Int) + 1) (by omega), wrap_i64 (x := 0 - ((m : Int) + 1)) (by omega), show (0 : Int) - ((m : Int) + 1) = -(((m + 1 : Nat)) : Int) by omega, Int.neg_tdiv, show ((m + 1 : Nat) : Int).tdiv 2 = (((m + 1) / 2 : Nat) : Int) from (Int.ofNat_tdiv (m + 1) 2).symm, wrap_i64 (by omega), hu]]
      exact ⟨⟨p, none, 0, none, 0⟩, ⟨ok.same hk, ok_leaf rfl rfl (Nat.zero_le _)⟩, rfl, wkE_refl _, wkE_refl _, wkE_refl _, wkE_refl _, wkE_refl _, wkE_refl _, wkE_refl _, wkH_nil _⟩
    · have hu : unsgn m = ((m / 2 : Nat) : Int) := by unfold unsgn; rw [if_neg (by omega)]
      (first | refine wX ?_ | exact wZ)
      rw [show IntKind.i64.wrap ((m : Int).tdiv 2) = unsgn m by rw [ed, wrap_i64 (by omega), hu]]
      exact ⟨⟨p, none, 0, none, 0⟩, ⟨ok.same hk, ok_leaf rfl rfl (Nat.zero_le _)⟩, rfl, wkE_refl _, wkE_refl _, wkE_refl _, wkE_refl _, wkE_refl _, wkE_refl _, wkE_refl _, wkH_nil _⟩
  · have hk := text_keep maxN st
    have hl := text_len maxN st
    have ht := text_rd rb st p maxN
    have e : innerM (cellM n) 34 st = (⟨4, 0, (textM maxN st).1, [], []⟩, (textM maxN st).2) := rfl
    rw [e]
    clear e
    generalize textM maxN st = q at hk hl ht ⊢
    obtain ⟨t, s2⟩ := q
    simp only at hk hl ht
    refine SpecH.pad [.app 9 1 [] none 0 0, .app 3 1 [] none 0 0] rfl ?_
    refine ownC hm Tryz.func89 (by kernel_rfl) rfl rfl (fun _ _ => okHB_eq rfl) (fun _ _ => Nat.le_of_ble_eq_true rfl) ?_
    (first | refine wX ?_ | exact wZ)
    -- the contract ht is called
    refine callG (ht) [0, 1, 2, 3, 4] rfl ⟨rfl, rfl, rfl, rfl, rfl, trivial⟩ rfl fun _ _ => ?_
    (first | refine wX ?_ | exact wZ)
    exact ⟨⟨p, none, 0, none, 0⟩, ⟨ok.same hk, ok_leaf rfl rfl (by show t.length ≤ _; omega)⟩, rfl, wkE_refl _, wkE_refl _, wkE_refl _, wkE_refl _, wkE_refl _, wkE_refl _, wkE_refl _, wkH_nil _⟩
  · have hs := symbol_rd rb 58 st p ok (by omega)
    have ho := fun i hi => ok.sym (by omega) 58 (i := i) hi
    have hl := symM_len 58 st (by omega) ok.sw
    have e : innerM (cellM n) 58 st = (⟨5, 0, (symM 58 st).1, [], []⟩, (symM 58 st).2) := rfl
    rw [e]
    clear e
    generalize symM 58 st = q at hs ho hl ⊢
    obtain ⟨t, s2⟩ := q
    simp only at hs ho hl
    refine SpecH.pad [.app 9 1 [] none 0 0, .app 3 1 [] none 0 0] rfl ?_
    refine ownC hm Tryz.func89 (by kernel_rfl) rfl rfl (fun _ _ => okHB_eq rfl) (fun _ _ => Nat.le_of_ble_eq_true rfl) ?_
    (first | refine wX ?_ | exact wZ)
    refine callG hs [0, 1, 2, 3, 4] rfl ⟨rfl, rfl, rfl, rfl, rfl, trivial⟩ rfl fun i hi => ?_
    (first | refine wX ?_ | exact wZ)
    exact ⟨⟨{ p with sa := i.1, sc := i.2 }, none, 0, none, 0⟩, ⟨ho i hi, ok_leaf rfl rfl hl⟩, rfl, wkE_refl _, wkE_refl _, wkE_refl _, wkE_refl _, wkE_refl _, wkE_refl _, wkE_refl _, wkH_nil _⟩
  · have hs := symbol_rd rb 59 st p ok (by omega)
    have ho := fun i hi => ok.sym (by omega) 59 (i := i) hi
    have hl := symM_len 59 st (by omega) ok.sw
    have e : innerM (cellM n) 59 st = (⟨5, 0, (symM 59 st).1, [], []⟩, (symM 59 st).2) := rfl
    rw [e]
    clear e
    generalize symM 59 st = q at hs ho hl ⊢
    obtain ⟨t, s2⟩ := q
    simp only at hs ho hl
    refine SpecH.pad [.app 9 1 [] none 0 0, .app 3 1 [] none 0 0] rfl ?_
    refine ownC hm Tryz.func89 (by kernel_rfl) rfl rfl (fun _ _ => okHB_eq rfl) (fun _ _ => Nat.le_of_ble_eq_true rfl) ?_
    (first | refine wX ?_ | exact wZ)
    refine callG hs [0, 1, 2, 3, 4] rfl ⟨rfl, rfl, rfl, rfl, rfl, trivial⟩ rfl fun i hi => ?_
    (first | refine wX ?_ | exact wZ)
    exact ⟨⟨{ p with sa := i.1, sc := i.2 }, none, 0, none, 0⟩, ⟨ho i hi, ok_leaf rfl rfl hl⟩, rfl, wkE_refl _, wkE_refl _, wkE_refl _, wkE_refl _, wkE_refl _, wkE_refl _, wkE_refl _, wkH_nil _⟩
  · have hnum := number_m rb st p maxN (by decide)
    have hk := num_keep maxN st
    have hmo := num_most maxN st
    have hle := num_le maxN st
    have hnn := fuel_keep hn (num_le maxN st) (fun h => by rw [num_dead h])
    have e : innerM (cellM n) 91 st = (⟨6, 0, [], [], (itemsM (cellM n) ((numM maxN st).1) [] (numM maxN st).2).1⟩, (itemsM (cellM n) ((numM maxN st).1) [] (numM maxN st).2).2) := rfl
    rw [e]
    clear e
    generalize numM maxN st = q at hnum hk hmo hle hnn ⊢
    obtain ⟨m, s2⟩ := q
    simp only at hnum hk hmo hle hnn
    have hmo : m ≤ 1000000000000000 := hmo
    have b2 := bd.le hle
    have hit := items_rd n hc rb s2 p (ok.same hk) b2 hnn (m) (by omega)
    have hil := (items_le htk (m) [] s2).2
    simp only
    generalize itemsM (cellM n) (m) [] s2 = r at hit hil ⊢
    obtain ⟨l, s3⟩ := r
    simp only at hit hil
    have hll : l.length ≤ 30001 := by
      have := b2.pot
      have h9 : liv s2 ≤ 1 := by unfold liv; split <;> omega
      have h8 : ([] : List Int).length = 0 := rfl
      omega
    refine SpecH.pad [.app 9 1 [] none 0 0, .app 3 1 [] none 0 0] rfl ?_
    refine ownC hm Tryz.func89 (by kernel_rfl) rfl rfl (fun _ _ => okHB_eq rfl) (fun _ _ => Nat.le_of_ble_eq_true rfl) ?_
    (first | refine wX ?_ | exact wZ)
    -- the contract hnum is called
    refine callG (hnum) [0, 1, 2, 3, 4] rfl ⟨rfl, rfl, rfl, rfl, rfl, trivial⟩ rfl fun _ _ => ?_
    (first | refine wX ?_ | exact wZ)
    refine callG hit [0, 1, 2, 3, 4, 6] rfl ⟨rfl, rfl, rfl, rfl, rfl, rfl, trivial⟩ rfl fun i hi => ?_
    (first | refine wX ?_ | exact wZ)
    exact ⟨⟨i.1, none, 0, i.2.1, i.2.2⟩, ⟨hi.1, ⟨fun _ => rfl, hi.2.1, Nat.zero_le _, by show l.length ≤ _; omega, (fun s hs => by cases hs), Nat.zero_le _, Nat.le_refl _, hi.2.2⟩⟩, rfl, wkE_refl _, wkE_refl _, wkE_refl _, wkE_refl _, wkE_refl _, wkE_refl _, wkE_refl _, wkH_nil _⟩
  · have hnum := number_m rb st p maxN (by decide)
    have hk := num_keep maxN st
    have hmo := num_most maxN st
    have hle := num_le maxN st
    have hnn := fuel_keep hn (num_le maxN st) (fun h => by rw [num_dead h])
    have e : innerM (cellM n) 123 st = (⟨7, 0, [], [], (itemsM (cellM n) (2 * (numM maxN st).1) [] (numM maxN st).2).1⟩, (itemsM (cellM n) (2 * (numM maxN st).1) [] (numM maxN st).2).2) := rfl
    rw [e]
    clear e
    generalize numM maxN st = q at hnum hk hmo hle hnn ⊢
    obtain ⟨m, s2⟩ := q
    simp only at hnum hk hmo hle hnn
    have hmo : m ≤ 1000000000000000 := hmo
    have b2 := bd.le hle
    have hit := items_rd n hc rb s2 p (ok.same hk) b2 hnn (2 * m) (by omega)
    have hil := (items_le htk (2 * m) [] s2).2
    simp only
    generalize itemsM (cellM n) (2 * m) [] s2 = r at hit hil ⊢
    obtain ⟨l, s3⟩ := r
    simp only at hit hil
    have hll : l.length ≤ 30001 := by
      have := b2.pot
      have h9 : liv s2 ≤ 1 := by unfold liv; split <;> omega
      have h8 : ([] : List Int).length = 0 := rfl
      omega
    refine SpecH.pad [.app 9 1 [] none 0 0, .app 3 1 [] none 0 0] rfl ?_
    refine ownC hm Tryz.func89 (by kernel_rfl) rfl rfl (fun _ _ => okHB_eq rfl) (fun _ _ => Nat.le_of_ble_eq_true rfl) ?_
    (first | refine wX ?_ | exact wZ)
    -- the contract hnum is called
    refine callG (hnum) [0, 1, 2, 3, 4] rfl ⟨rfl, rfl, rfl, rfl, rfl, trivial⟩ rfl fun _ _ => ?_
    (first | refine wX ?_ | exact wZ)
    first | rw [show IntKind.i64.wrap (2 * (m : Int)) = ((2 * m : Nat) : Int) by rw [wrap_i64 (by omega)]; omega] | rw [show 2 * (m : Int) = ((2 * m : Nat) : Int) by omega]
    refine callG hit [0, 1, 2, 3, 4, 6] rfl ⟨rfl, rfl, rfl, rfl, rfl, rfl, trivial⟩ rfl fun i hi => ?_
    (first | refine wX ?_ | exact wZ)
    exact ⟨⟨i.1, none, 0, i.2.1, i.2.2⟩, ⟨hi.1, ⟨fun _ => rfl, hi.2.1, Nat.zero_le _, by show l.length ≤ _; omega, (fun s hs => by cases hs), Nat.zero_le _, Nat.le_refl _, hi.2.2⟩⟩, rfl, wkE_refl _, wkE_refl _, wkE_refl _, wkE_refl _, wkE_refl _, wkE_refl _, wkE_refl _, wkH_nil _⟩
  · have hob := object_rd n hc rb st p ok bd hn
    have e : innerM (cellM n) 111 st = objM (cellM n) st := rfl
    rw [e]
    clear e
    generalize objM (cellM n) st = r at hob ⊢
    obtain ⟨c, s3⟩ := r
    simp only at hob
    refine SpecH.pad [.app 9 1 [] none 0 0, .app 3 1 [] none 0 0] rfl ?_
    refine ownC hm Tryz.func89 (by kernel_rfl) rfl rfl (fun _ _ => okHB_eq rfl) (fun _ _ => Nat.le_of_ble_eq_true rfl) ?_
    (first | refine wX ?_ | exact wZ)
    refine callG hob [0, 1, 2, 3, 4, 5, 6] rfl ⟨rfl, rfl, rfl, rfl, rfl, rfl, rfl, trivial⟩ rfl fun i hi => ?_
    (first | refine wX ?_ | exact wZ)
    exact ⟨i, hi, rfl, wkE_refl _, wkE_refl _, wkE_refl _, wkE_refl _, wkE_refl _, wkE_refl _, wkE_refl _, wkH_nil _⟩
end Go.Proofs.YtgogonnnojcioaaGreatDoor
