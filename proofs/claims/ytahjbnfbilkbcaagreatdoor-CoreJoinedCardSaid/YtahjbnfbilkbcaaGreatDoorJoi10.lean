/-
  CoreJoinedCardSaid is proved: of every two lists of numbers and index CoreJoined returns true and leaves its arguments as they were; the listed tables are tied to the program's text.
-/
import Derived.Test.YtahjbnfbilkbcaaGreatDoorCards
import Derived.Test.YtahjbnfbilkbcaaGreatDoorTie
import Derived.Test.YtahjbnfbilkbcaaGreatDoorJoi9
set_option linter.unusedVariables false
set_option linter.unusedSimpArgs false
/-
  Plain: a copy is valid, begins with the cell that was asked for, is the copy of itself, and writes the same text.
-/
namespace Go.Core
open Go.Proofs.YtahjbnfbilkbcaaGreatDoor
theorem reachL_head {g : List Cell} (u : Int) : (reachL g u)[0]? = some u := by
  unfold reachL reachF
  rw [if_neg (by simp), List.nil_append]
  have h : ∀ (n : Nat) (ks l : List Int), ∃ r, ks.foldl (reachF g n) l = l ++ r := by
    intro n ks
    induction ks with
    | nil => exact fun l => ⟨[], by simp⟩
    | cons k ks ih =>
      intro l
      obtain ⟨r, hr⟩ := reach_pre (g := g) n l k
      obtain ⟨r2, hr2⟩ := ih (reachF g n l k)
      exact ⟨r ++ r2, by rw [List.foldl_cons, hr2, hr, List.append_assoc]⟩
  obtain ⟨r, hr⟩ := h g.length (outs g u) [u]
  rw [hr]
  rfl
theorem reachL_facts {g : List Cell} (hg : InG g) {u : Int} (hu : InI g u) : (reachL g u).Nodup ∧ (∀ i ∈ reachL g u, ∀ k ∈ outs g i, k ∈ reachL g u) ∧ (∀ i ∈ reachL g u, InI g i) ∧ (reachL g u).length ≤ g.length ∧ u ∈ reachL g u ∧ place (reachL g u) u = 0 := by
  have hLi : ∀ x, x ∈ reachL g u ↔ To g u x := fun x => reach_iff hg (Nat.lt_succ_self _) hu x
  have hn : (reachL g u).Nodup := reach_nodup _ _ _ List.nodup_nil
  refine ⟨hn, fun x hx y hy => (hLi y).2 (((hLi x).1 hx).trans (.step hy (.refl y))), fun x hx => Go.Core.to_in hg ((hLi x).1 hx) hu, ?_, (hLi u).2 (.refl u), ?_⟩
  · have h1 := reach_len hg (g.length + 1) [] u hu
    have h2 := free_le g []
    unfold reachL
    simp only [List.length_nil] at h1
    omega
  · exact place_at hn (reachL_head u)
theorem leafS_eq (c d : Cell) (h1 : c.kind = d.kind) (h2 : c.num = d.num) (h3 : c.text = d.text) : leafS qL itL c = leafS qL itL d := by
  unfold leafS
  rw [h1, h2, h3]
end Go.Core

/-
  Contract: CoreCopies (law).
-/
namespace Go.Proofs.YtahjbnfbilkbcaaGreatDoor
open Go.AX Go.RowKit Go.Core
set_option maxRecDepth 20000

end Go.Proofs.YtahjbnfbilkbcaaGreatDoor

/-
  Contract: Same (program).
-/
namespace Go.Proofs.YtahjbnfbilkbcaaGreatDoor
open Go.AX Go.RowKit Go.Core
set_option maxRecDepth 20000

set_option maxHeartbeats 4000000 in
theorem Same_c {a b : Option Addr} (ca cb : Nat) {l m : List CellP} (ha : a = none → l = []) (hb : b = none → m = []) (hs : Small l) (ht : Small m) (hok : ∀ p ∈ l, CellOk p) (hom : ∀ p ∈ m, CellOk p) (u v : Int) :
    ∀ H, (∀ w, Facts H w → GrF a l w ∧ GrF b m w) → ∃ e r : Bool, (e = true ↔ AskP (l.map (·.c)) [u] ∧ AskP (m.map (·.c)) [v]) ∧ (r = true ↔ takenS (l.map (·.c)) (reachL (l.map (·.c)) u) = takenS (m.map (·.c)) (reachL (m.map (·.c)) v)) ∧ SpecH Tryz.prog 40 (pvs [.slice a l.length ca, .int .i64 u, .slice b m.length cb, .int .i64 v]) H (Ret (.tuple #[.bool (e && r), errI e]) H) := by
  intro H hH
  obtain ⟨e1, he1⟩ := ask_bool (l.map (·.c)) [u]
  obtain ⟨e2, he2⟩ := ask_bool (m.map (·.c)) [v]
  obtain ⟨r, hr⟩ := same_bool (takenS (l.map (·.c)) (reachL (l.map (·.c)) u)) (takenS (m.map (·.c)) (reachL (m.map (·.c)) v))
  refine ⟨e1 && e2, r, by rw [Bool.and_eq_true, he1, he2], hr, ?_⟩
  refine factC hm Tryz.func40 (by kernel_rfl) rfl rfl ?_ H hH
  ((conv => whnf); (repeat ((first | refine BoxN.own ?_ | refine VrN.norm (wrap_i64 (by omega)) ?_ | refine VrN.keep ?_ | refine DrawN.calm (by decide +kernel) ?_ | refine Nd.mk (by decide +kernel) ?_ | refine Nd.mk (by omega) ?_ | (refine Nd.mk ?_ ?_; focus ((repeat' (first | exact trivial | exact wkE_refl _ | refine And.intro ?_ ?_)); done)) | refine RdN.intro _ rfl (by rfl) ?_); (conv => whnf))))
  refine RwN.known [.int .i64 u] rfl fun rb => ?_
  ((conv => whnf); (repeat ((first | refine BoxN.own ?_ | refine VrN.norm (wrap_i64 (by omega)) ?_ | refine VrN.keep ?_ | refine DrawN.calm (by decide +kernel) ?_ | refine Nd.mk (by decide +kernel) ?_ | refine Nd.mk (by omega) ?_ | (refine Nd.mk ?_ ?_; focus ((repeat' (first | exact trivial | exact wkE_refl _ | refine And.intro ?_ ?_)); done)) | refine RdN.intro _ rfl (by rfl) ?_); (conv => whnf))))
  obtain ⟨t, ht1, ht2⟩ := asked_c a ca l ha hs hok (some ⟨rb, 0, none⟩) 1 [u] (fun h => by cases h) (by simp) [.fact (fun w => GrF a l w ∧ GrF b m w), .app 3 1 [.int .i64 u] (some ⟨rb, 0, none⟩) 1 1] (fun w hw => ⟨hw.1.1, hw.2.1⟩)
  obtain rfl : t = e1 := by rw [Bool.eq_iff_iff, ht1, he1]
  refine call1 ht2 ?_
  cases t with
  | false =>
    ((conv => whnf); (repeat ((first | refine BoxN.own ?_ | refine VrN.norm (wrap_i64 (by omega)) ?_ | refine VrN.keep ?_ | refine DrawN.calm (by decide +kernel) ?_ | refine Nd.mk (by decide +kernel) ?_ | refine Nd.mk (by omega) ?_ | (refine Nd.mk ?_ ?_; focus ((repeat' (first | exact trivial | exact wkE_refl _ | refine And.intro ?_ ?_)); done)) | refine RdN.intro _ rfl (by rfl) ?_); (conv => whnf))))
    rfl
  | true =>
  ((conv => whnf); (repeat ((first | refine BoxN.own ?_ | refine VrN.norm (wrap_i64 (by omega)) ?_ | refine VrN.keep ?_ | refine DrawN.calm (by decide +kernel) ?_ | refine Nd.mk (by decide +kernel) ?_ | refine Nd.mk (by omega) ?_ | (refine Nd.mk ?_ ?_; focus ((repeat' (first | exact trivial | exact wkE_refl _ | refine And.intro ?_ ?_)); done)) | refine RdN.intro _ rfl (by rfl) ?_); (conv => whnf))))
  refine RwN.known [.int .i64 v] rfl fun rb2 => ?_
  ((conv => whnf); (repeat ((first | refine BoxN.own ?_ | refine VrN.norm (wrap_i64 (by omega)) ?_ | refine VrN.keep ?_ | refine DrawN.calm (by decide +kernel) ?_ | refine Nd.mk (by decide +kernel) ?_ | refine Nd.mk (by omega) ?_ | (refine Nd.mk ?_ ?_; focus ((repeat' (first | exact trivial | exact wkE_refl _ | refine And.intro ?_ ?_)); done)) | refine RdN.intro _ rfl (by rfl) ?_); (conv => whnf))))
  obtain ⟨t, ht3, ht4⟩ := asked_c b cb m hb ht hom (some ⟨rb2, 0, none⟩) 1 [v] (fun h => by cases h) (by simp) [.fact (fun w => GrF a l w ∧ GrF b m w), .app 3 1 [.int .i64 u] (some ⟨rb, 0, none⟩) 1 1, .app 3 1 [.int .i64 v] (some ⟨rb2, 0, none⟩) 1 1] (fun w hw => ⟨hw.1.2, hw.2.2.1⟩)
  obtain rfl : t = e2 := by rw [Bool.eq_iff_iff, ht3, he2]
  refine call1 ht4 ?_
  cases t with
  | false =>
    ((conv => whnf); (repeat ((first | refine BoxN.own ?_ | refine VrN.norm (wrap_i64 (by omega)) ?_ | refine VrN.keep ?_ | refine DrawN.calm (by decide +kernel) ?_ | refine Nd.mk (by decide +kernel) ?_ | refine Nd.mk (by omega) ?_ | (refine Nd.mk ?_ ?_; focus ((repeat' (first | exact trivial | exact wkE_refl _ | refine And.intro ?_ ?_)); done)) | refine RdN.intro _ rfl (by rfl) ?_); (conv => whnf))))
    rfl
  | true =>
  have ask1 := he1.1 rfl
  have ask2 := he2.1 rfl
  have in1 := ask1.2 u (by simp)
  have in2 := ask2.2 v (by simp)
  have hg1 := valid_in ask1.1
  have hg2 := valid_in ask2.1
  (first | refine wX ?_ | exact wZ)
  refine factG (fun _ => rfl) (taken_o a ca l ha hs hok hg1 u in1) ?_ ?_
  · exact fun w hw => hw.1.1
  intro st hst
  (first | refine wX ?_ | exact wZ)
  refine factG (fun _ => rfl) (taken_o b cb m hb ht hom hg2 v in2) ?_ ?_
  · exact fun w hw => hw.1.2
  intro st2 hst2
  have len1 : st.m.length ≤ 2000 := by
    have h1 := congrArg List.length hst.c
    have h2 := (reachL_facts hg1 in1).2.2.2.1
    have := hs.1
    unfold takenS at h1
    simp only [List.length_map] at h1 h2
    omega
  have len2 : st2.m.length ≤ 2000 := by
    have h1 := congrArg List.length hst2.c
    have h2 := (reachL_facts hg2 in2).2.2.2.1
    have := ht.1
    unfold takenS at h1
    simp only [List.length_map] at h1 h2
    omega
  (first | refine wX ?_ | exact wZ)
  refine call1 (equalfunc_c st.oa st2.oa st.oc st2.oc st.m st2.m hst.oa hst2.oa len1 len2 hst.ok hst2.ok r (by rw [hr, hst.c, hst2.c]) _ (fun w hw => ⟨hst.gr hw.2.2.2.1 hw.2.2.2.2.1, hst2.gr hw.2.2.2.2.2.1 hw.2.2.2.2.2.2.1⟩)) ?_
  (first | refine wX ?_ | exact wZ)
  rfl
end Go.Proofs.YtahjbnfbilkbcaaGreatDoor

/-
  Plain: in a joined graph a cell of either graph writes the same text, and what it reaches is the same.
-/
namespace Go.Core
open Go.Proofs.YtahjbnfbilkbcaaGreatDoor
theorem text_emb {g t : List Cell} (hg : InG g) (ht : InG t) {φ : Int → Int} {R : Int → Prop} (h : Emb g t φ R) {a : Int} (ha : R a) (hga : InI g a) (hta : InI t (φ a)) : textP (leafS qL itL) t (φ a) = textP (leafS qL itL) g a := by
  rw [text_full, text_full, emb_text leafS_eq hg ht h ha hga hta]
theorem join_at2 {g h : List Cell} {k : Int} (hk : InI h k) : InI (joinS g h) (k + (g.length : Int)) := ⟨by have := hk.1; omega, by rw [join_len]; have := hk.2; omega⟩
theorem text_join2 {g h : List Cell} (hg : InG g) (hh : InG h) {k : Int} (hk : InI h k) : textP (leafS qL itL) (joinS g h) (k + (g.length : Int)) = textP (leafS qL itL) h k :=
  text_emb hh (join_in hg hh) (join_emb2 (g := g) hh) hk hk (join_at2 hk)
theorem taken_join2 {g h : List Cell} (hg : InG g) (hh : InG h) {k : Int} (hk : InI h k) : takenS (joinS g h) (reachL (joinS g h) (k + (g.length : Int))) = takenS h (reachL h k) := by
  obtain ⟨e, hR⟩ := emb_reachL hh (join_in hg hh) (join_emb2 (g := g) hh) hk hk (join_at2 hk)
  have e2 : reachL (joinS g h) (k + (g.length : Int)) = (reachL h k).map fun i => i + (g.length : Int) := e
  rw [e2]
  exact emb_taken (join_emb2 (g := g) hh) hR (reachL_facts hh hk).2.1
end Go.Core

/-
  AX, fifty-fifth text: a function that defers delete of a key of a map; pairs of numbers as keys.
-/
namespace Go.AX
open Go.RowKit

/-! ### The machine -/
/-! ### delete -/
theorem KeysAre.erase {α : Type} [DecidableEq α] {enc : α → Value} {es : List MapEntry} {R : List (α × Value)} (h : KeysAre enc es R) (j : Nat) : KeysAre enc (es.eraseIdx j) (R.eraseIdx j) := by
  unfold KeysAre at *
  have em : ∀ {α β : Type} (f : α → β) (l : List α) (j : Nat), (l.eraseIdx j).map f = (l.map f).eraseIdx j := fun f l => by
    induction l with
    | nil => intro j; rfl
    | cons x l ih =>
      intro j
      cases j with
      | zero => rfl
      | succ j => simp only [List.eraseIdx_cons_succ, List.map_cons, ih]
  rw [em, em, h]
end Go.AX

/-
  Contracts: cmp.Compare, strings.Compare, cmp.Or.
-/
namespace Go.Core
end Go.Core
namespace Go.Proofs.YtahjbnfbilkbcaaGreatDoor
open Go.AX Go.RowKit Go.Core
set_option maxRecDepth 20000

end Go.Proofs.YtahjbnfbilkbcaaGreatDoor

/-
  Contract: Compare's closure (program).
-/
namespace Go.Core
/-- What a list of pairs holds. -/
def lk {α : Type} [DecidableEq α] (k : α) (R : List (α × Value)) : Option Value := R.lookup k
/-- What the map of those found holds. -/
def DoneM (R : List ((Int × Int) × Value)) (d : List (Int × Int)) : Prop := ∀ p, (lk p R).getD (.bool false) = .bool (decide (p ∈ d))
theorem DoneM.put {R : List ((Int × Int) × Value)} {d : List (Int × Int)} (h : DoneM R d) (p : Int × Int) : DoneM (Go.AX.upd p (.bool true) R) (p :: d) := fun q => by
  have h1 := Go.AX.look_upd p q (.bool true) R
  have h2 : lk q (Go.AX.upd p (.bool true) R) = if q = p then some (.bool true) else lk q R := h1
  rw [h2]
  by_cases e : q = p
  · rw [if_pos e]; simp [e]
  · rw [if_neg e, h q]; simp [e]
end Go.Core
namespace Go.Proofs.YtahjbnfbilkbcaaGreatDoor
open Go.AX Go.RowKit Go.Core
set_option maxRecDepth 20000

end Go.Proofs.YtahjbnfbilkbcaaGreatDoor

/-
  Contract: Compare (program).
-/
namespace Go.Core
end Go.Core
namespace Go.Proofs.YtahjbnfbilkbcaaGreatDoor
open Go.AX Go.RowKit Go.Core
set_option maxRecDepth 20000

end Go.Proofs.YtahjbnfbilkbcaaGreatDoor

/-
  Contract: the document's compare.
-/
namespace Go.Core
end Go.Core
namespace Go.Proofs.YtahjbnfbilkbcaaGreatDoor
open Go.AX Go.RowKit Go.Core
set_option maxRecDepth 20000

end Go.Proofs.YtahjbnfbilkbcaaGreatDoor

/-
  Contracts: Compare (document); CoreCompares (law).
-/
namespace Go.Core
end Go.Core
namespace Go.Proofs.YtahjbnfbilkbcaaGreatDoor
open Go.AX Go.RowKit Go.Core
set_option maxRecDepth 20000

end Go.Proofs.YtahjbnfbilkbcaaGreatDoor

/-
  Plain: Compare goes on from one to another; where there is an error the number is 0.
-/
namespace Go.Core
end Go.Core

/-
  Contract: CoreOrder (law).
-/
namespace Go.Proofs.YtahjbnfbilkbcaaGreatDoor
open Go.AX Go.RowKit Go.Core
set_option maxRecDepth 20000

theorem tmod_in {X : Int} {n : Nat} (hX : 0 ≤ X ∧ X < 18446744073709551616) (hn : 0 < n) (h500 : n ≤ 500) : ∃ k : Nat, k < n ∧ IntKind.i64.wrap (X.tmod (IntKind.u64.wrap (n : Int))) = (k : Int) :=
  ⟨X.toNat % n, Nat.mod_lt _ hn, by
    have h2 := Int.emod_lt_of_pos X (show (0 : Int) < n by omega)
    have h3 := Int.emod_nonneg X (show (n : Int) ≠ 0 by omega)
    rw [wrap_u64 (by omega), Int.tmod_eq_emod_of_nonneg hX.1, wrap_i64 (by omega), Int.natCast_emod, Int.toNat_of_nonneg hX.1]⟩

end Go.Proofs.YtahjbnfbilkbcaaGreatDoor

/-
  Contract: CoreJoined (law).
-/
namespace Go.Proofs.YtahjbnfbilkbcaaGreatDoor
open Go.AX Go.RowKit Go.Core
set_option maxRecDepth 20000

theorem valid_nil : ValidP [] := ⟨Nat.zero_le _, fun c h => (by cases h), fun c h => (by cases h)⟩
set_option maxHeartbeats 8000000 in
theorem CoreJoined_c (a1 : Option Addr) (c1 : Nat) (L1 : List Int) (ha1 : a1 = none → L1 = []) (hl1 : L1.length ≤ 200000000000000) (a2 : Option Addr) (c2 : Nat) (L2 : List Int) (ha2 : a2 = none → L2 = []) (hl2 : L2.length ≤ 200000000000000) (z : Int) : ∀ H, (∀ w, Facts H w → (SlAt a1 (L1.length * 1) (iC L1) w ∧ SlAt a2 (L2.length * 1) (iC L2) w) ∧ TabF w) → SpecH Tryz.prog 12 (pvs [.slice a1 L1.length c1, .slice a2 L2.length c2, .int .i64 z]) H (Ret (.bool true) H) := by
  refine factC hm Tryz.func12 (by kernel_rfl) rfl rfl ?_
  (first | refine wX ?_ | exact wZ)
  refine SpecF.call (Grown_c a1 c1 L1 ha1 hl1) (fun w hw => hw.1.1.1) fun v G hv => ?_
  obtain ⟨oa, oc, l, rfl, hoa, hok, hs, hval, h12, hG⟩ := hv
  (first | refine wX ?_ | exact wZ)
  refine SpecF.call (Grown_c a2 c2 L2 ha2 hl2) (fun w hw => hw.1.1.2) fun v2 G2 hv2 => ?_
  obtain ⟨ob, pc, m, rfl, hob, hom, ht, hval2, h12b, hG2⟩ := hv2
  have hv1 : ValidP (l.map (·.c)) := hval.elim (fun h => by rw [h]; exact valid_nil) id
  have hv2 : ValidP (m.map (·.c)) := hval2.elim (fun h => by rw [h]; exact valid_nil) id
  (first | refine wX ?_ | exact wZ)
  refine factG (fun _ => rfl) (Join_o oc pc hoa hob hs ht hok hom hv1 hv2 (by omega)) ?_ ?_
  · exact fun w hw => ⟨hG w hw.2.1, hG2 w hw.2.2.1⟩
  intro st hst
  have hgl : (l.map (·.c)).length = l.length := by simp
  have hgm : (m.map (·.c)).length = m.length := by simp
  have hjl : st.m.length = l.length + m.length := by
    have h1 := congrArg List.length hst.c
    rw [join_len, List.length_map, hgl, hgm] at h1
    exact h1
  (first | refine wX ?_ | exact wZ)
  refine brd_ne (fun h => absurd h (by rw [hjl, wrap_i64 (by omega)]; omega)) (fun _ => ?_)
  (first | refine wX ?_ | exact wZ)
  refine brd_eq (fun h1 => ?_) (fun h1 => ?_)
  · (first | refine wX ?_ | exact wZ)
    refine call1 (sane_c _) ?_
    (first | refine wX ?_ | exact wZ)
  have hpos : 0 < m.length := by omega
  have hg := valid_in hv1
  have hh := valid_in hv2
  have hvj := valid_join hv1 hv2 (by omega)
  have hsj : Small st.m := by
    refine ⟨by omega, fun q hq => ?_⟩
    have hc : q.c ∈ joinS (l.map (·.c)) (m.map (·.c)) := hst.c ▸ List.mem_map_of_mem hq
    rcases List.mem_append.1 hc with hc | hc
    · obtain ⟨p, hp, hpe⟩ := List.mem_map.1 hc
      rw [← hpe]
      exact hs.2 p hp
    · obtain ⟨d, hd, hde⟩ := List.mem_map.1 hc
      obtain ⟨p, hp, hpe⟩ := List.mem_map.1 hd
      rw [← hde, ← hpe]
      exact ⟨(ht.2 p hp).1, by show (p.c.items.map _).length ≤ _; rw [List.length_map]; exact (ht.2 p hp).2⟩
  (first | refine wX ?_ | exact wZ)
  obtain ⟨k, hk, ek⟩ := tmod_in (wrap_u64_bd z) hpos (by omega)
  refine Nd.mk ?_ ?_
  · rw [wrap_u64 (by omega)]; omega
  (first | refine wX ?_ | exact wZ)
  rw [ek]
  clear ek
  have hki : InI (m.map (·.c)) (k : Int) := ⟨by omega, by rw [hgm]; omega⟩
  have hkj := join_at2 (g := l.map (·.c)) hki
  have hkw : IntKind.i64.wrap ((l.length : Int) + (k : Int)) = (k : Int) + ((l.map (·.c)).length : Int) := by rw [wrap_i64 (by omega), hgl]; omega
  obtain ⟨e1, he1, hes1⟩ := Text_c (E := TabF) pc hob ht hom (envL hob ht hom) (k : Int) [.fact (fun w => (SlAt a1 (L1.length * 1) (iC L1) w ∧ SlAt a2 (L2.length * 1) (iC L2) w) ∧ TabF w), .fact G, .fact G2, .dead, .dead, .app 42 5 (grC st.m) st.oa st.m.length st.oc, famE (rowsG st.m)] (fun w hw => ⟨hG2 w hw.2.2.1, hw.1.2⟩)
  obtain rfl : e1 = true := he1.2 ⟨hv2, fun x hx => by rw [List.mem_singleton.1 hx]; exact hki⟩
  rw [show (if true = true then textP (leafS qL itL) (m.map (·.c)) (k : Int) else []) = textP (leafS qL itL) (m.map (·.c)) (k : Int) from rfl] at hes1
  refine call1 hes1 ?_
  (first | refine wX ?_ | exact wZ)
  rw [hkw]
  obtain ⟨e2, he2, hes2⟩ := Text_c (E := TabF) st.oc hst.oa hsj hst.ok (envL hst.oa hsj hst.ok) ((k : Int) + ((l.map (·.c)).length : Int)) [.fact (fun w => (SlAt a1 (L1.length * 1) (iC L1) w ∧ SlAt a2 (L2.length * 1) (iC L2) w) ∧ TabF w), .fact G, .fact G2, .dead, .dead, .app 42 5 (grC st.m) st.oa st.m.length st.oc, famE (rowsG st.m)] (fun w hw => ⟨hst.gr hw.2.2.2.1 hw.2.2.2.2.1, hw.1.2⟩)
  rw [hst.c] at he2 hes2
  obtain rfl : e2 = true := he2.2 ⟨hvj, fun x hx => by rw [List.mem_singleton.1 hx]; exact hkj⟩
  rw [show (if true = true then textP (leafS qL itL) (joinS (l.map (·.c)) (m.map (·.c))) ((k : Int) + ((l.map (·.c)).length : Int)) else []) = textP (leafS qL itL) (joinS (l.map (·.c)) (m.map (·.c))) ((k : Int) + ((l.map (·.c)).length : Int)) from rfl, text_join2 hg hh hki] at hes2
  refine call1 hes2 ?_
  (first | refine wX ?_ | exact wZ)
  rw [hkw]
  obtain ⟨e3, r, he3, hr, hes3⟩ := Same_c pc st.oc hob hst.oa ht hsj hom hst.ok (k : Int) ((k : Int) + ((l.map (·.c)).length : Int)) [.fact (fun w => (SlAt a1 (L1.length * 1) (iC L1) w ∧ SlAt a2 (L2.length * 1) (iC L2) w) ∧ TabF w), .fact G, .fact G2, .dead, .dead, .app 42 5 (grC st.m) st.oa st.m.length st.oc, famE (rowsG st.m)] (fun w hw => ⟨hG2 w hw.2.2.1, hst.gr hw.2.2.2.1 hw.2.2.2.2.1⟩)
  rw [hst.c] at he3 hr
  obtain rfl : e3 = true := he3.2 ⟨⟨hv2, fun x hx => by rw [List.mem_singleton.1 hx]; exact hki⟩, ⟨hvj, fun x hx => by rw [List.mem_singleton.1 hx]; exact hkj⟩⟩
  obtain rfl : r = true := hr.2 (taken_join2 hg hh hki).symm
  refine call1 hes3 ?_
  generalize textP (leafS qL itL) (m.map (·.c)) (k : Int) = T at *
  (first | refine wX ?_ | exact wZ)
  rw [show ((bs T).data.toList == (bs T).data.toList) = true from beq_self_eq_true _]
  (first | refine wX ?_ | exact wZ)
  refine call1 (sane_c _) ?_
  (first | refine wX ?_ | exact wZ)
end Go.Proofs.YtahjbnfbilkbcaaGreatDoor

/-
  CoreJoinedCardSaid is proved: of every two lists of numbers and index CoreJoined returns true and leaves its arguments as they were; the listed tables are tied to the program's text.
-/
namespace Go.Proofs.YtahjbnfbilkbcaaGreatDoor
open Go.ChangeShapes Go.WideShapes Go.ChangeAt Go.RowKit Go.AX Go.Core
set_option maxRecDepth 100000

namespace CoreJoined
theorem own : ownKnob Tryz.prog.godebug = none := own0
theorem walk {H : Type} {enc : TypeId × Value → H} (W : World) (base : Nat) (args : Array Value) (ds : List (DataW H)) (p : List MemPlace) (k : Known enc Tryz.prog Tryz.f12 W base args ds p) (_hL : laidMetH Tryz.prog laid3 W) : Walk Tryz.prog 12 args W := by
  obtain ⟨u, v, z, rfl⟩ := arr3 (trodAll_len k.trod).2
  obtain ⟨n, rfl⟩ := okWide_int Tryz.underlying3 (k.val 2 _ z rfl rfl)
  obtain ⟨a, l, cap, rfl, ⟨_hq, ha, hs⟩, _, _⟩ := k.low.ints (e := 3) (i := .i64) 0 rfl rfl (by kernel_rfl) (by kernel_rfl) (by kernel_rfl) (by decide +kernel)
  obtain ⟨a2, l2, cap2, rfl, ⟨_hq2, ha2, hs2⟩, _, _⟩ := k.low.ints (e := 3) (i := .i64) 1 rfl rfl (by kernel_rfl) (by kernel_rfl) (by kernel_rfl) (by decide +kernel)
  have nil_of : ∀ {a : Option Addr} {l : List Int}, a.isSome = true ∨ l.length = 0 → a = none → l = [] := fun {a l} h e => by
    rcases h with h | h
    · rw [e] at h; cases h
    · exact List.eq_nil_of_length_eq_zero h
  exact walkH [.fact fun w => (SlAt a (l.length * 1) (iC l) w ∧ SlAt a2 (l2.length * 1) (iC l2) w) ∧ TabF w] (fun _ he => ⟨_, List.mem_singleton.1 he, by rw [Nat.mul_one, Nat.mul_one]; exact (hs.and hs2).and (tab_imm (tabL_of _hL))⟩) (CoreJoined_c a cap l (nil_of ha) _hq a2 cap2 l2 (nil_of ha2) _hq2 n _ fun w hw => hw.1)

theorem lifted (os : Os) (started : os.Started) (H : Type) (enc : TypeId × Value → H) :
    ReturnsInHanded {} Tryz.checked os 12 .any (fun w args => (Rows.coreJoinedSpec.pre enc Tryz.prog Tryz.f12 [] false w args ∧ laidMetH Tryz.prog laid3 w) ∧ sizedMet enc Tryz.prog Tryz.f12 (OpenSpec.ofChange Rows.coreJoinedSpec) false w args) (Rows.coreJoinedSpec.post enc Tryz.prog Tryz.f12 false true false false) := by
  refine liftS (C := Tryz.checked) own started (by kernel_rfl) Tryz.func12
    (ChangeSpec.witness_shaped (enc := enc) (C := Tryz.checked) (os := os) (X := fun w _ => laidMetH Tryz.prog laid3 w) false (World.laidAll Tryz.prog os laid3) #[.slice none 0 0, .slice none 0 0, .int .i64 0] 8 (World.laidAll_os _ _ _) (World.shaped_of_ZipB (by kernel_rfl) (by kernel_rfl)) (by kernel_rfl) (by kernel_rfl) (by kernel_rfl) (door_met os _))
    laidOut rfl (t := _) rfl (by kernel_rfl) (by kernel_rfl) ?_ walk
  intro ds hd
  match ds, hd with
  | [d0, d1, d2], _ => rfl

theorem over : Rows.coreJoinedRow.holds Tryz.pinned (OpenSpec.ofChange Rows.coreJoinedSpec) :=
  OpenClaim.holds_of_wide 12 Tryz.f12 rfl rfl rfl rfl rfl rfl rfl ⟨rfl, rfl, rfl, rfl, rfl⟩ rfl rfl rfl rfl rfl (by kernel_rfl) Tryz.func12 (by kernel_rfl)
    (of_decide_eq_true (by kernel_rfl)) (by unfold Func.isWrapper; first | (rw [if_pos (by decide +kernel)]; kernel_rfl) | (rw [if_neg (by decide +kernel)]; exact ⟨rfl, rfl⟩))
    (fun os started H enc _ => lifted os started H enc)

theorem proved : Rows.CoreJoinedCardSaid :=
  Claim7.holds_tied_plain_at .later [] [.data, .data, .data] true (true, "8c46145c91ca01cbbdc693332ca60911ae9d66bc5eabc04f89f5f042d1271d1b") true
    over (fun _ h => by cases h) (by kernel_rfl) (fun _ h => by cases h) coreJoined_row_tie rfl ⟨rfl, rfl⟩ (by kernel_rfl) rfl
    (fun f fn hf hfn => by
      obtain rfl : f = 12 := Option.some.inj ((show Tryz.prog.funcNamed "cabochon/cabochonlaw21.CoreJoined" = some 12 by kernel_rfl).symm.trans hf) |>.symm
      obtain rfl : fn = Tryz.f12 := (Option.some.inj (Tryz.func12.symm.trans hfn)).symm
      exact ⟨by kernel_rfl, fun j t ht => by
        have hm : t ∈ Tryz.f12.params.toList := by simpa using Array.mem_of_getElem? ht
        have hall : (Tryz.f12.params.toList.all fun u => !Tryz.prog.wantsStandIn u) = true := by kernel_rfl
        exact (show Tryz.prog.wantsStandIn t = false by simpa using List.all_eq_true.1 hall t hm)⟩)
    (by kernel_rfl)
#print axioms proved
end CoreJoined
end Go.Proofs.YtahjbnfbilkbcaaGreatDoor
