/-
  CoreSameCardSaid is proved: of every two graphs and cells CoreSame returns true and leaves its argument as it was; the listed tables are tied to the program's text.
-/
import Derived.Test.YtahjbnfbilkbcaaGreatDoorCards
import Derived.Test.YtahjbnfbilkbcaaGreatDoorTie
import Derived.Test.YtahjbnfbilkbcaaGreatDoorSam9
set_option linter.unusedVariables false
set_option linter.unusedSimpArgs false
/-
  Contracts: whether two cells are one (the closure of Same), slices.EqualFunc by it (program).
-/
namespace Go.Core
/-- Whether two cells are one. -/
def cellE (x y : Cell) : Bool := x.kind == y.kind && x.num == y.num && x.text == y.text && decide (x.names = y.names) && decide (x.items = y.items)
theorem cellE_iff {x y : Cell} : cellE x y = true ↔ x = y := by
  unfold cellE
  simp only [Bool.and_eq_true, beq_iff_eq, decide_eq_true_eq]
  constructor
  · intro ⟨⟨⟨⟨h1, h2⟩, h3⟩, h4⟩, h5⟩
    cases x; cases y
    simp only at h1 h2 h3 h4 h5
    subst h1 h2 h3 h4 h5
    rfl
  · intro h
    subst h
    exact ⟨⟨⟨⟨rfl, rfl⟩, rfl⟩, rfl⟩, rfl⟩
end Go.Core
namespace Go.Proofs.YtahjbnfbilkbcaaGreatDoor
open Go.AX Go.RowKit Go.Core
set_option maxRecDepth 20000

set_option maxHeartbeats 4000000 in
theorem samecell_c (p q : CellP) (hp : CellOk p) (hq : CellOk q) : ∀ H, (∀ w, Facts H w → CellF p w ∧ CellF q w) → SpecH Tryz.prog 76 (pvs [cellV p, cellV q]) H (Ret (.bool (cellE p.c q.c)) H) := by
  refine factC hm Tryz.func76 (by kernel_rfl) rfl rfl ?_
  unfold cellE
  (first | refine wX ?_ | exact wZ)
  cases h1 : p.c.kind == q.c.kind with
  | false =>
    (first | refine wX ?_ | exact wZ)
    rfl
  | true =>
  (first | refine wX ?_ | exact wZ)
  cases h2 : p.c.num == q.c.num with
  | false =>
    (first | refine wX ?_ | exact wZ)
    rfl
  | true =>
  (first | refine wX ?_ | exact wZ)
  rw [txt_eq]
  cases h3 : p.c.text == q.c.text with
  | false =>
    (first | refine wX ?_ | exact wZ)
    rfl
  | true =>
  (first | refine wX ?_ | exact wZ)
  refine call1 (equalT_c p.na q.na p.nc q.nc p.c.names q.c.names hp.na hq.na hp.nl hq.nl _ (fun w hw => ⟨hw.1.1.1, hw.1.2.1⟩)) ?_
  (first | refine wX ?_ | exact wZ)
  cases h4 : decide (p.c.names = q.c.names) with
  | false =>
    (first | refine wX ?_ | exact wZ)
    rfl
  | true =>
  (first | refine wX ?_ | exact wZ)
  refine call1 (equalI_c p.ia q.ia p.ic q.ic p.c.items q.c.items hp.ia hq.ia hp.il hq.il _ (fun w hw => ⟨hw.1.1.2, hw.1.2.2⟩)) ?_
  (first | refine wX ?_ | exact wZ)
  rfl
theorem same_bool (l m : List Cell) : ∃ r : Bool, r = true ↔ l = m := by
  by_cases h : l = m
  · exact ⟨true, fun _ => h, fun _ => rfl⟩
  · exact ⟨false, fun e => (by cases e), fun e => absurd e h⟩
theorem bool_no {r : Bool} {P : Prop} (hr : r = true ↔ P) (h : ¬ P) : false = r := by
  cases r with
  | false => rfl
  | true => exact absurd (hr.1 rfl) h
set_option maxHeartbeats 4000000 in
theorem equalfunc_c (a b : Option Addr) (ca cb : Nat) (l m : List CellP) (ha : a = none → l = []) (hb : b = none → m = []) (hl : l.length ≤ 2000) (hml : m.length ≤ 2000) (hol : ∀ p ∈ l, CellOk p) (hom : ∀ p ∈ m, CellOk p) (r : Bool) (hr : r = true ↔ l.map (·.c) = m.map (·.c)) :
    ∀ H, (∀ w, Facts H w → GrF a l w ∧ GrF b m w) → SpecH Tryz.prog 75 (pvs [.slice a l.length ca, .slice b m.length cb, .func (.func 76) #[] #[]]) H (Ret (.bool r) H) := by
  refine factC hm Tryz.func75 (by kernel_rfl) rfl rfl ?_
  (first | refine wX ?_ | exact wZ)
  refine brd_ne (fun h0 => ?_) (fun h0 => ?_)
  · (first | refine wX ?_ | exact wZ)
    exact out_bool (bool_no hr fun e => h0 (by have := congrArg List.length e; simp only [List.length_map] at this; omega))
  have hlen : l.length = m.length := by omega
  (first | refine wX ?_ | exact wZ)
  refine loopS Nat (fun i => i ≤ l.length ∧ (l.map (·.c)).take i = (m.map (·.c)).take i) (fun i => mkS Tryz.f75.ntmps 0 [(1, .c (.v (.slice b m.length cb))), (2, .c (.v (.func (.func 76) #[] #[]))), (15, .c (.v (.slice a l.length ca))), (16, .c (.v (.int .i64 (l.length : Int)))), (17, .c (.v (.int .i64 (i : Int))))]) (fun i => l.length - i) rfl (fun _ => rfl) 0 ⟨Nat.zero_le _, rfl⟩ ?_ ?_
  · (repeat' (first | exact trivial | refine And.intro (by with_reducible rfl) ?_ | (with_reducible exact wkC_refl _) | (with_reducible exact wkCs_refl _) | refine And.intro ?_ ?_))
    all_goals rfl
  intro i ⟨hi, he⟩
  (first | refine wX ?_ | exact wZ)
  refine brd_dec (fun h1 => ?_) (fun h1 => ?_)
  · obtain ⟨p, hp⟩ : ∃ p, l[i]? = some p := ⟨_, List.getElem?_eq_getElem (by omega)⟩
    obtain ⟨q, hq⟩ : ∃ q, m[i]? = some q := ⟨_, List.getElem?_eq_getElem (by omega)⟩
    have hpm := List.mem_of_getElem? hp
    have hqm := List.mem_of_getElem? hq
    have hpc : (l.map (·.c))[i]? = some p.c := by rw [List.getElem?_map, hp]; rfl
    have hqc : (m.map (·.c))[i]? = some q.c := by rw [List.getElem?_map, hq]; rfl
    have hsa : a.isSome = true := by
      cases a with
      | none => rw [ha rfl] at hp; cases hp
      | some b => rfl
    have hsb : b.isSome = true := by
      cases b with
      | none => rw [hb rfl] at hq; cases hq
      | some b => rfl
    (first | refine wX ?_ | exact wZ)
    refine Nd.mk ⟨hsa, by omega, by omega⟩ ?_
    (first | refine wX ?_ | exact wZ)
    refine LdN.agg (cellC p) rfl (fun w hw => hw.1.1.1) rfl (fun k hk => by rw [Int.toNat_natCast]; exact grC_get l i k hk hp) ?_
    (first | refine wX ?_ | exact wZ)
    refine Nd.mk ⟨hsb, by omega, by omega⟩ ?_
    (first | refine wX ?_ | exact wZ)
    refine LdN.agg (cellC q) rfl (fun w hw => hw.1.2.1) rfl (fun k hk => by rw [Int.toNat_natCast]; exact grC_get m i k hk hq) ?_
    (first | refine wX ?_ | exact wZ)
    refine call1 (samecell_c p q (hol p hpm) (hom q hqm) _ (fun w hw => ⟨hw.1.1.2 p hpm, hw.1.2.2 q hqm⟩)) ?_
    cases hc : cellE p.c q.c with
    | false =>
      (first | refine wX ?_ | exact wZ)
      exact out_bool (bool_no hr fun e => by
        rw [e] at hpc
        have h2 := cellE_iff.2 (Option.some.inj (hpc.symm.trans hqc))
        rw [hc] at h2
        cases h2)
    | true =>
      (first | refine wX ?_ | exact wZ)
      refine ⟨i + 1, ⟨by omega, take_next he hpc hqc (cellE_iff.1 hc)⟩, by omega, ?_, by (repeat' (first | exact trivial | exact wkE_refl _ | refine And.intro ?_ ?_))⟩
      (repeat' (first | exact trivial | refine And.intro (by with_reducible rfl) ?_ | (with_reducible exact wkC_refl _) | (with_reducible exact wkCs_refl _) | refine And.intro ?_ ?_))
      all_goals first | rfl | exact av_int (by rw [wrap_i64 (by omega)]; omega)
  · obtain rfl : i = l.length := by omega
    rw [List.take_of_length_le (by simp), List.take_of_length_le (by simp; omega)] at he
    (first | refine wX ?_ | exact wZ)
    exact out_bool (hr.2 he).symm
end Go.Proofs.YtahjbnfbilkbcaaGreatDoor

/-
  Plain: the text of an array is that of its items.
-/
namespace Go.Core
theorem text_full (lf : Cell → List UInt8) (g : List Cell) (u : Int) : Go.Proofs.YtahjbnfbilkbcaaGreatDoor.textP lf g u = (fullL lf g u).take 20000 := by
  unfold Go.Proofs.YtahjbnfbilkbcaaGreatDoor.textP fullL
  have h := write_full (M := 20000) (leafT := lf) (g := g) (g.length + 2) [] [] u
  rw [h, List.nil_append]
end Go.Core

/-
  Plain: a copy is valid, begins with the cell that was asked for, is the copy of itself, and writes the same text.
-/
namespace Go.Core
open Go.Proofs.YtahjbnfbilkbcaaGreatDoor
theorem reachL_head {g : List Cell} (u : Int) : (reachL g u)[0]? = some u := by
  unfold reachL reachF
  rw [if_neg (by simp), List.nil_append]
  have h : ∀ (n : Nat) (ks l : List Int), ∃ r, ks.foldl (reachF g n) l = l ++ r := by
    intro n ks
    induction ks with
    | nil => exact fun l => ⟨[], by simp⟩
    | cons k ks ih =>
      intro l
      obtain ⟨r, hr⟩ := reach_pre (g := g) n l k
      obtain ⟨r2, hr2⟩ := ih (reachF g n l k)
      exact ⟨r ++ r2, by rw [List.foldl_cons, hr2, hr, List.append_assoc]⟩
  obtain ⟨r, hr⟩ := h g.length (outs g u) [u]
  rw [hr]
  rfl
structure CopyP (g : List Cell) (u : Int) (t : List Cell) : Prop where
  valid : ValidP t
  zero : InI t 0
  twice : takenS t (reachL t 0) = t
  text : ∀ lf : Cell → List UInt8, (∀ c d : Cell, c.kind = d.kind → c.num = d.num → c.text = d.text → lf c = lf d) → textP lf t 0 = textP lf g u
theorem reachL_facts {g : List Cell} (hg : InG g) {u : Int} (hu : InI g u) : (reachL g u).Nodup ∧ (∀ i ∈ reachL g u, ∀ k ∈ outs g i, k ∈ reachL g u) ∧ (∀ i ∈ reachL g u, InI g i) ∧ (reachL g u).length ≤ g.length ∧ u ∈ reachL g u ∧ place (reachL g u) u = 0 := by
  have hLi : ∀ x, x ∈ reachL g u ↔ To g u x := fun x => reach_iff hg (Nat.lt_succ_self _) hu x
  have hn : (reachL g u).Nodup := reach_nodup _ _ _ List.nodup_nil
  refine ⟨hn, fun x hx y hy => (hLi y).2 (((hLi x).1 hx).trans (.step hy (.refl y))), fun x hx => Go.Core.to_in hg ((hLi x).1 hx) hu, ?_, (hLi u).2 (.refl u), ?_⟩
  · have h1 := reach_len hg (g.length + 1) [] u hu
    have h2 := free_le g []
    unfold reachL
    simp only [List.length_nil] at h1
    omega
  · exact place_at hn (reachL_head u)
theorem copyP {g : List Cell} (hv : ValidP g) {u : Int} (hu : InI g u) : CopyP g u (takenS g (reachL g u)) := by
  have hg := valid_in hv
  obtain ⟨hn, hc, hi, hl, hm, h0⟩ := reachL_facts hg hu
  have hvt : ValidP (takenS g (reachL g u)) := valid_taken hv hc hi (Nat.le_trans hl hv.1)
  have hz : InI (takenS g (reachL g u)) 0 := ⟨Int.le_refl 0, by
    have : 0 < (reachL g u).length := List.length_pos_of_mem hm
    unfold takenS
    rw [List.length_map]
    omega⟩
  have hemb := taken_emb (g := g) hc
  have hz2 : InI (takenS g (reachL g u)) (place (reachL g u) u) := by rw [h0]; exact hz
  refine ⟨hvt, hz, ?_, fun lf hlf => ?_⟩
  · have h := (emb_reachL hg (valid_in hvt) hemb hm hu hz2).1
    rw [h0] at h
    have h2 : reachL (takenS g (reachL g u)) 0 = (reachL g u).map (place (reachL g u)) := h
    rw [h2]
    exact taken_twice hn hc
  · have h := emb_text hlf hg (valid_in hvt) hemb hm hu hz2
    rw [h0] at h
    rw [text_full, text_full, h]
theorem leafS_eq (c d : Cell) (h1 : c.kind = d.kind) (h2 : c.num = d.num) (h3 : c.text = d.text) : leafS qL itL c = leafS qL itL d := by
  unfold leafS
  rw [h1, h2, h3]
end Go.Core

/-
  Contract: CoreCopies (law).
-/
namespace Go.Proofs.YtahjbnfbilkbcaaGreatDoor
open Go.AX Go.RowKit Go.Core
set_option maxRecDepth 20000

end Go.Proofs.YtahjbnfbilkbcaaGreatDoor

/-
  Contract: Same (program).
-/
namespace Go.Proofs.YtahjbnfbilkbcaaGreatDoor
open Go.AX Go.RowKit Go.Core
set_option maxRecDepth 20000

set_option maxHeartbeats 4000000 in
theorem Same_c {a b : Option Addr} (ca cb : Nat) {l m : List CellP} (ha : a = none → l = []) (hb : b = none → m = []) (hs : Small l) (ht : Small m) (hok : ∀ p ∈ l, CellOk p) (hom : ∀ p ∈ m, CellOk p) (u v : Int) :
    ∀ H, (∀ w, Facts H w → GrF a l w ∧ GrF b m w) → ∃ e r : Bool, (e = true ↔ AskP (l.map (·.c)) [u] ∧ AskP (m.map (·.c)) [v]) ∧ (r = true ↔ takenS (l.map (·.c)) (reachL (l.map (·.c)) u) = takenS (m.map (·.c)) (reachL (m.map (·.c)) v)) ∧ SpecH Tryz.prog 40 (pvs [.slice a l.length ca, .int .i64 u, .slice b m.length cb, .int .i64 v]) H (Ret (.tuple #[.bool (e && r), errI e]) H) := by
  intro H hH
  obtain ⟨e1, he1⟩ := ask_bool (l.map (·.c)) [u]
  obtain ⟨e2, he2⟩ := ask_bool (m.map (·.c)) [v]
  obtain ⟨r, hr⟩ := same_bool (takenS (l.map (·.c)) (reachL (l.map (·.c)) u)) (takenS (m.map (·.c)) (reachL (m.map (·.c)) v))
  refine ⟨e1 && e2, r, by rw [Bool.and_eq_true, he1, he2], hr, ?_⟩
  refine factC hm Tryz.func40 (by kernel_rfl) rfl rfl ?_ H hH
  ((conv => whnf); (repeat ((first | refine BoxN.own ?_ | refine VrN.norm (wrap_i64 (by omega)) ?_ | refine VrN.keep ?_ | refine DrawN.calm (by decide +kernel) ?_ | refine Nd.mk (by decide +kernel) ?_ | refine Nd.mk (by omega) ?_ | (refine Nd.mk ?_ ?_; focus ((repeat' (first | exact trivial | exact wkE_refl _ | refine And.intro ?_ ?_)); done)) | refine RdN.intro _ rfl (by rfl) ?_); (conv => whnf))))
  refine RwN.known [.int .i64 u] rfl fun rb => ?_
  ((conv => whnf); (repeat ((first | refine BoxN.own ?_ | refine VrN.norm (wrap_i64 (by omega)) ?_ | refine VrN.keep ?_ | refine DrawN.calm (by decide +kernel) ?_ | refine Nd.mk (by decide +kernel) ?_ | refine Nd.mk (by omega) ?_ | (refine Nd.mk ?_ ?_; focus ((repeat' (first | exact trivial | exact wkE_refl _ | refine And.intro ?_ ?_)); done)) | refine RdN.intro _ rfl (by rfl) ?_); (conv => whnf))))
  obtain ⟨t, ht1, ht2⟩ := asked_c a ca l ha hs hok (some ⟨rb, 0, none⟩) 1 [u] (fun h => by cases h) (by simp) [.fact (fun w => GrF a l w ∧ GrF b m w), .app 3 1 [.int .i64 u] (some ⟨rb, 0, none⟩) 1 1] (fun w hw => ⟨hw.1.1, hw.2.1⟩)
  obtain rfl : t = e1 := by rw [Bool.eq_iff_iff, ht1, he1]
  refine call1 ht2 ?_
  cases t with
  | false =>
    ((conv => whnf); (repeat ((first | refine BoxN.own ?_ | refine VrN.norm (wrap_i64 (by omega)) ?_ | refine VrN.keep ?_ | refine DrawN.calm (by decide +kernel) ?_ | refine Nd.mk (by decide +kernel) ?_ | refine Nd.mk (by omega) ?_ | (refine Nd.mk ?_ ?_; focus ((repeat' (first | exact trivial | exact wkE_refl _ | refine And.intro ?_ ?_)); done)) | refine RdN.intro _ rfl (by rfl) ?_); (conv => whnf))))
    rfl
  | true =>
  ((conv => whnf); (repeat ((first | refine BoxN.own ?_ | refine VrN.norm (wrap_i64 (by omega)) ?_ | refine VrN.keep ?_ | refine DrawN.calm (by decide +kernel) ?_ | refine Nd.mk (by decide +kernel) ?_ | refine Nd.mk (by omega) ?_ | (refine Nd.mk ?_ ?_; focus ((repeat' (first | exact trivial | exact wkE_refl _ | refine And.intro ?_ ?_)); done)) | refine RdN.intro _ rfl (by rfl) ?_); (conv => whnf))))
  refine RwN.known [.int .i64 v] rfl fun rb2 => ?_
  ((conv => whnf); (repeat ((first | refine BoxN.own ?_ | refine VrN.norm (wrap_i64 (by omega)) ?_ | refine VrN.keep ?_ | refine DrawN.calm (by decide +kernel) ?_ | refine Nd.mk (by decide +kernel) ?_ | refine Nd.mk (by omega) ?_ | (refine Nd.mk ?_ ?_; focus ((repeat' (first | exact trivial | exact wkE_refl _ | refine And.intro ?_ ?_)); done)) | refine RdN.intro _ rfl (by rfl) ?_); (conv => whnf))))
  obtain ⟨t, ht3, ht4⟩ := asked_c b cb m hb ht hom (some ⟨rb2, 0, none⟩) 1 [v] (fun h => by cases h) (by simp) [.fact (fun w => GrF a l w ∧ GrF b m w), .app 3 1 [.int .i64 u] (some ⟨rb, 0, none⟩) 1 1, .app 3 1 [.int .i64 v] (some ⟨rb2, 0, none⟩) 1 1] (fun w hw => ⟨hw.1.2, hw.2.2.1⟩)
  obtain rfl : t = e2 := by rw [Bool.eq_iff_iff, ht3, he2]
  refine call1 ht4 ?_
  cases t with
  | false =>
    ((conv => whnf); (repeat ((first | refine BoxN.own ?_ | refine VrN.norm (wrap_i64 (by omega)) ?_ | refine VrN.keep ?_ | refine DrawN.calm (by decide +kernel) ?_ | refine Nd.mk (by decide +kernel) ?_ | refine Nd.mk (by omega) ?_ | (refine Nd.mk ?_ ?_; focus ((repeat' (first | exact trivial | exact wkE_refl _ | refine And.intro ?_ ?_)); done)) | refine RdN.intro _ rfl (by rfl) ?_); (conv => whnf))))
    rfl
  | true =>
  have ask1 := he1.1 rfl
  have ask2 := he2.1 rfl
  have in1 := ask1.2 u (by simp)
  have in2 := ask2.2 v (by simp)
  have hg1 := valid_in ask1.1
  have hg2 := valid_in ask2.1
  (first | refine wX ?_ | exact wZ)
  refine factG (fun _ => rfl) (taken_o a ca l ha hs hok hg1 u in1) ?_ ?_
  · exact fun w hw => hw.1.1
  intro st hst
  (first | refine wX ?_ | exact wZ)
  refine factG (fun _ => rfl) (taken_o b cb m hb ht hom hg2 v in2) ?_ ?_
  · exact fun w hw => hw.1.2
  intro st2 hst2
  have len1 : st.m.length ≤ 2000 := by
    have h1 := congrArg List.length hst.c
    have h2 := (reachL_facts hg1 in1).2.2.2.1
    have := hs.1
    unfold takenS at h1
    simp only [List.length_map] at h1 h2
    omega
  have len2 : st2.m.length ≤ 2000 := by
    have h1 := congrArg List.length hst2.c
    have h2 := (reachL_facts hg2 in2).2.2.2.1
    have := ht.1
    unfold takenS at h1
    simp only [List.length_map] at h1 h2
    omega
  (first | refine wX ?_ | exact wZ)
  refine call1 (equalfunc_c st.oa st2.oa st.oc st2.oc st.m st2.m hst.oa hst2.oa len1 len2 hst.ok hst2.ok r (by rw [hr, hst.c, hst2.c]) _ (fun w hw => ⟨hst.gr hw.2.2.2.1 hw.2.2.2.2.1, hst2.gr hw.2.2.2.2.2.1 hw.2.2.2.2.2.2.1⟩)) ?_
  (first | refine wX ?_ | exact wZ)
  rfl
end Go.Proofs.YtahjbnfbilkbcaaGreatDoor

/-
  Contracts: Alike of any two graphs, Same (document).
-/
namespace Go.Proofs.YtahjbnfbilkbcaaGreatDoor
open Go.AX Go.RowKit Go.Core
set_option maxRecDepth 20000

set_option maxHeartbeats 1000000 in
theorem Alike2_c (a b : Option Addr) (ca cb : Nat) (l m : List CellP) (ha : a = none → l = []) (hb : b = none → m = []) (hl : l.length ≤ 200000000000000) (hol : ∀ p ∈ l, CellOk p) (hom : ∀ p ∈ m, CellOk p) (r : Bool) (hr : r = true ↔ l.map (·.c) = m.map (·.c)) :
    ∀ H, (∀ w, Facts H w → GrF a l w ∧ GrF b m w) → SpecH Tryz.prog 19 (pvs [.slice a l.length ca, .slice b m.length cb]) H (Ret (.bool r) H) := by
  refine factC hm Tryz.func19 (by kernel_rfl) rfl rfl ?_
  (first | refine wX ?_ | exact wZ)
  refine brd_ne (fun h0 => ?_) (fun h0 => ?_)
  · (first | refine wX ?_ | exact wZ)
    exact out_bool (bool_no hr fun e => h0 (by have := congrArg List.length e; simp only [List.length_map] at this; omega))
  have hlen : l.length = m.length := by omega
  (first | refine wX ?_ | exact wZ)
  refine loopS Nat (fun i => i ≤ l.length ∧ (l.map (·.c)).take i = (m.map (·.c)).take i) (fun i => mkS Tryz.f19.ntmps 0 [(0, .c (.v (.slice a l.length ca))), (1, .c (.v (.slice b m.length cb))), (5, .c (.v (.int .i64 (i : Int))))]) (fun i => l.length - i) rfl (fun _ => rfl) 0 ⟨Nat.zero_le _, rfl⟩ ?_ ?_
  · (repeat' (first | exact trivial | refine And.intro (by with_reducible rfl) ?_ | (with_reducible exact wkC_refl _) | (with_reducible exact wkCs_refl _) | refine And.intro ?_ ?_))
    all_goals rfl
  intro i ⟨hi, he⟩
  (first | refine wX ?_ | exact wZ)
  refine brd_dec (fun h1 => ?_) (fun h1 => ?_)
  · obtain ⟨p, hp⟩ : ∃ p, l[i]? = some p := ⟨_, List.getElem?_eq_getElem (by omega)⟩
    obtain ⟨q, hq⟩ : ∃ q, m[i]? = some q := ⟨_, List.getElem?_eq_getElem (by omega)⟩
    have hpc : (l.map (·.c))[i]? = some p.c := by rw [List.getElem?_map, hp]; rfl
    have hqc : (m.map (·.c))[i]? = some q.c := by rw [List.getElem?_map, hq]; rfl
    have hno : p.c ≠ q.c → ¬ l.map (·.c) = m.map (·.c) := fun h e => h (by
      rw [e] at hpc
      exact Option.some.inj (hpc.symm.trans hqc))
    have hpo := hol p (List.mem_of_getElem? hp)
    have hqo := hom q (List.mem_of_getElem? hq)
    have hpm := List.mem_of_getElem? hp
    have hqm := List.mem_of_getElem? hq
    have hil := hpo.il
    have hsa : a.isSome = true := by
      cases a with
      | none => rw [ha rfl] at hp; cases hp
      | some b => rfl
    have hsb : b.isSome = true := by
      cases b with
      | none => rw [hb rfl] at hq; cases hq
      | some b => rfl
    (first | refine wX ?_ | exact wZ)
    refine Nd.mk ⟨hsa, by omega, by omega⟩ ?_
    (first | refine wX ?_ | exact wZ)
    refine LdN.agg (cellC p) rfl (fun w hw => hw.1.1.1) rfl (fun k hk => by rw [Int.toNat_natCast]; exact grC_get l i k hk hp) ?_
    (first | refine wX ?_ | exact wZ)
    refine Nd.mk ⟨hsb, by omega, by omega⟩ ?_
    (first | refine wX ?_ | exact wZ)
    refine LdN.agg (cellC q) rfl (fun w hw => hw.1.2.1) rfl (fun k hk => by rw [Int.toNat_natCast]; exact grC_get m i k hk hq) ?_
    (first | refine wX ?_ | exact wZ)
    have hal := alike_c p q hpo hqo
    refine callQ (hal _ ?_) ?_
    · intro w hw
      exact ⟨hw.1.1.2 p hpm, hw.1.2.2 q hqm⟩
    cases hab : alikeB p.c q.c with
    | false =>
      (first | refine wX ?_ | exact wZ)
      exact out_bool (bool_no hr (hno fun e => by
        rw [e, alike_refl] at hab
        cases hab))
    | true =>
    have hal := alike_to hab
    have hil2 := hal.2.2.2.2
    (first | refine wX ?_ | exact wZ)
    refine loopS Nat (fun k => k ≤ p.c.items.length ∧ p.c.items.take k = q.c.items.take k) (fun k => mkS Tryz.f19.ntmps 0 [(0, .c (.v (.slice a l.length ca))), (1, .c (.v (.slice b m.length cb))), (5, .c (.v (.int .i64 (i : Int)))), (6, .c (.v (.int .i64 (k : Int))))]) (fun k => p.c.items.length - k) rfl (fun _ => rfl) 0 ⟨Nat.zero_le _, rfl⟩ ?_ ?_
    · (repeat' (first | exact trivial | refine And.intro (by with_reducible rfl) ?_ | (with_reducible exact wkC_refl _) | (with_reducible exact wkCs_refl _) | refine And.intro ?_ ?_))
      all_goals rfl
    intro k ⟨hk, hke⟩
    (first | refine wX ?_ | exact wZ)
    -- the item's place and value, in both graphs; x: the rest
    refine Nd.mk ⟨hsa, by omega, by omega⟩ ?_
    (first | refine wX ?_ | exact wZ)
    refine LdN.fld (.slice p.ia p.c.items.length p.ic) rfl (fun w hw => hw.1.1.1) (by rw [Int.toNat_natCast]; exact grC_get l i 4 (by decide) hp) ?_
    (first | refine wX ?_ | exact wZ)
    refine brd_dec (fun h2 => ?_) (fun h2 => ?_)
    · obtain ⟨x, hx⟩ : ∃ x, p.c.items[k]? = some x := ⟨_, List.getElem?_eq_getElem (by omega)⟩
      obtain ⟨y, hx2⟩ : ∃ z, q.c.items[k]? = some z := ⟨_, List.getElem?_eq_getElem (by omega)⟩
      have hkq := (List.getElem?_eq_some_iff.1 hx2).1
      have hsi : p.ia.isSome = true := by
        cases hna : p.ia with
        | none => rw [hpo.ia hna] at hx; cases hx
        | some b => rfl
      have hsj : q.ia.isSome = true := by
        cases hna : q.ia with
        | none => rw [hqo.ia hna] at hx2; cases hx2
        | some b => rfl
      (first | refine wX ?_ | exact wZ)
      -- the item's place and value, in both graphs; x: the rest
      refine Nd.mk ⟨hsa, by omega, by omega⟩ ?_
      (first | refine wX ?_ | exact wZ)
      refine LdN.fld (.slice p.ia p.c.items.length p.ic) rfl (fun w hw => hw.1.1.1) (by rw [Int.toNat_natCast]; exact grC_get l i 4 (by decide) hp) ?_
      (first | refine wX ?_ | exact wZ)
      refine Nd.mk ⟨hsi, by omega, by omega⟩ ?_
      (first | refine wX ?_ | exact wZ)
      refine LdN.one (.int .i64 x) rfl (fun w hw => (hw.1.1.2 p hpm).2) (by rw [Int.toNat_natCast]; show (iC p.c.items)[k * 1]? = _; rw [Nat.mul_one]; exact iC_get hx) ?_
      (first | refine wX ?_ | exact wZ)
      refine Nd.mk ⟨hsb, by omega, by omega⟩ ?_
      (first | refine wX ?_ | exact wZ)
      refine LdN.fld (.slice q.ia q.c.items.length q.ic) rfl (fun w hw => hw.1.2.1) (by rw [Int.toNat_natCast]; exact grC_get m i 4 (by decide) hq) ?_
      (first | refine wX ?_ | exact wZ)
      refine Nd.mk ⟨hsj, by omega, by omega⟩ ?_
      (first | refine wX ?_ | exact wZ)
      refine LdN.one (.int .i64 y) rfl (fun w hw => (hw.1.2.2 q hqm).2) (by rw [Int.toNat_natCast]; show (iC q.c.items)[k * 1]? = _; rw [Nat.mul_one]; exact iC_get hx2) ?_
      (first | refine wX ?_ | exact wZ)
      refine brd_ne (fun h => ?_) (fun h => ?_)
      · (first | refine wX ?_ | exact wZ)
        exact out_bool (bool_no hr (hno fun e => h (by
          rw [e] at hx
          exact Option.some.inj (hx.symm.trans hx2))))
      (first | refine wX ?_ | exact wZ)
      refine ⟨k + 1, ⟨by omega, take_next hke hx hx2 h⟩, by omega, ?_, by (repeat' (first | exact trivial | exact wkE_refl _ | refine And.intro ?_ ?_))⟩
      (repeat' (first | exact trivial | refine And.intro (by with_reducible rfl) ?_ | (with_reducible exact wkC_refl _) | (with_reducible exact wkCs_refl _) | refine And.intro ?_ ?_))
      all_goals first | rfl | exact av_int (by rw [wrap_i64 (by omega)]; omega)
    · obtain rfl : k = p.c.items.length := by omega
      rw [List.take_length, hil2, List.take_length] at hke
      have hpq : p.c = q.c := cellE_iff.1 (by
        unfold cellE
        rw [hal.1, hal.2.1, hal.2.2.1, hal.2.2.2.1, hke]
        simp)
      (first | refine wX ?_ | exact wZ)
      refine ⟨i + 1, ⟨by omega, take_next he hpc hqc hpq⟩, by omega, ?_, by (repeat' (first | exact trivial | exact wkE_refl _ | refine And.intro ?_ ?_))⟩
      (repeat' (first | exact trivial | refine And.intro (by with_reducible rfl) ?_ | (with_reducible exact wkC_refl _) | (with_reducible exact wkCs_refl _) | refine And.intro ?_ ?_))
      all_goals first | rfl | exact av_int (by rw [wrap_i64 (by omega)]; omega)
  · obtain rfl : i = l.length := by omega
    rw [List.take_of_length_le (by simp), List.take_of_length_le (by simp; omega)] at he
    (first | refine wX ?_ | exact wZ)
    exact out_bool (hr.2 he).symm
set_option maxHeartbeats 4000000 in
theorem RSame_c {a b : Option Addr} (ca cb : Nat) {l m : List CellP} (ha : a = none → l = []) (hb : b = none → m = []) (hs : Small l) (ht : Small m) (hok : ∀ p ∈ l, CellOk p) (hom : ∀ p ∈ m, CellOk p) (u v : Int) :
    ∀ H, (∀ w, Facts H w → GrF a l w ∧ GrF b m w) → ∃ e r : Bool, (e = true ↔ AskP (l.map (·.c)) [u] ∧ AskP (m.map (·.c)) [v]) ∧ (r = true ↔ takenS (l.map (·.c)) (reachL (l.map (·.c)) u) = takenS (m.map (·.c)) (reachL (m.map (·.c)) v)) ∧ SpecH Tryz.prog 41 (pvs [.slice a l.length ca, .int .i64 u, .slice b m.length cb, .int .i64 v]) H (Ret (.tuple #[.bool (e && r), errI e]) H) := by
  intro H hH
  obtain ⟨e1, he1⟩ := ask_bool (l.map (·.c)) [u]
  obtain ⟨e2, he2⟩ := ask_bool (m.map (·.c)) [v]
  obtain ⟨r, hr⟩ := same_bool (takenS (l.map (·.c)) (reachL (l.map (·.c)) u)) (takenS (m.map (·.c)) (reachL (m.map (·.c)) v))
  refine ⟨e1 && e2, r, by rw [Bool.and_eq_true, he1, he2], hr, ?_⟩
  have hl := hs.1
  have hml := ht.1
  refine factC hm Tryz.func41 (by kernel_rfl) rfl rfl ?_ H hH
  (first | refine wX ?_ | exact wZ)
  obtain ⟨t, ht1, ht2⟩ := RIs_c a ca l ha (by omega) hok u [.fact (fun w => GrF a l w ∧ GrF b m w)] (fun w hw => hw.1.1)
  obtain rfl : t = e1 := by rw [Bool.eq_iff_iff, ht1, he1]
  refine call1 ht2 ?_
  cases t with
  | false =>
    (first | refine wX ?_ | exact wZ)
    rfl
  | true =>
  (first | refine wX ?_ | exact wZ)
  obtain ⟨t, ht3, ht4⟩ := RIs_c b cb m hb (by omega) hom v [.fact (fun w => GrF a l w ∧ GrF b m w)] (fun w hw => hw.1.2)
  obtain rfl : t = e2 := by rw [Bool.eq_iff_iff, ht3, he2]
  refine call1 ht4 ?_
  cases t with
  | false =>
    (first | refine wX ?_ | exact wZ)
    rfl
  | true =>
  have ask1 := he1.1 rfl
  have ask2 := he2.1 rfl
  have in1 := ask1.2 u (by simp)
  have in2 := ask2.2 v (by simp)
  have hg1 := valid_in ask1.1
  have hg2 := valid_in ask2.1
  (first | refine wX ?_ | exact wZ)
  refine factG (fun _ => rfl) (copied_o a ca l ha hs (by have := ask1.1.1; simpa using this) hok hg1 u in1) ?_ ?_
  · exact fun w hw => hw.1.1
  intro st hst
  (first | refine wX ?_ | exact wZ)
  refine factG (fun _ => rfl) (copied_o b cb m hb ht (by have := ask2.1.1; simpa using this) hom hg2 v in2) ?_ ?_
  · exact fun w hw => hw.1.2
  intro st2 hst2
  have len1 : st.m.length ≤ 2000 := by
    have h1 := congrArg List.length hst.c
    have h2 := (reachL_facts hg1 in1).2.2.2.1
    unfold takenS at h1
    simp only [List.length_map] at h1 h2
    omega
  have len2 : st2.m.length ≤ 2000 := by
    have h1 := congrArg List.length hst2.c
    have h2 := (reachL_facts hg2 in2).2.2.2.1
    unfold takenS at h1
    simp only [List.length_map] at h1 h2
    omega
  (first | refine wX ?_ | exact wZ)
  refine call1 (Alike2_c st.oa st2.oa st.oc st2.oc st.m st2.m hst.oa hst2.oa (by omega) hst.ok hst2.ok r (by rw [hr, hst.c, hst2.c]) _ (fun w hw => ⟨hst.gr hw.2.1 hw.2.2.1, hst2.gr hw.2.2.2.1 hw.2.2.2.2.1⟩)) ?_
  (first | refine wX ?_ | exact wZ)
  rfl
end Go.Proofs.YtahjbnfbilkbcaaGreatDoor

/-
  Plain: in a joined graph a cell of either graph writes the same text, and what it reaches is the same.
-/
namespace Go.Core
open Go.Proofs.YtahjbnfbilkbcaaGreatDoor
theorem text_emb {g t : List Cell} (hg : InG g) (ht : InG t) {φ : Int → Int} {R : Int → Prop} (h : Emb g t φ R) {a : Int} (ha : R a) (hga : InI g a) (hta : InI t (φ a)) : textP (leafS qL itL) t (φ a) = textP (leafS qL itL) g a := by
  rw [text_full, text_full, emb_text leafS_eq hg ht h ha hga hta]
theorem join_at2 {g h : List Cell} {k : Int} (hk : InI h k) : InI (joinS g h) (k + (g.length : Int)) := ⟨by have := hk.1; omega, by rw [join_len]; have := hk.2; omega⟩
theorem join_at1 {g h : List Cell} {k : Int} (hk : InI g k) : InI (joinS g h) k := ⟨hk.1, by rw [join_len]; have := hk.2; omega⟩
theorem text_join2 {g h : List Cell} (hg : InG g) (hh : InG h) {k : Int} (hk : InI h k) : textP (leafS qL itL) (joinS g h) (k + (g.length : Int)) = textP (leafS qL itL) h k :=
  text_emb hh (join_in hg hh) (join_emb2 (g := g) hh) hk hk (join_at2 hk)
end Go.Core

/-
  Contract: CoreSame (law).
-/
namespace Go.Proofs.YtahjbnfbilkbcaaGreatDoor
open Go.AX Go.RowKit Go.Core
set_option maxRecDepth 20000

theorem valid_bool (g : List Cell) : ∃ b : Bool, b = true ↔ ValidP g := by
  by_cases h : ValidP g
  · exact ⟨true, fun _ => h, fun _ => rfl⟩
  · exact ⟨false, fun e => (by cases e), fun e => absurd e h⟩
set_option maxHeartbeats 8000000 in
theorem CoreSame_c (a b : Option Addr) (ca cb : Nat) (l m : List CellP) (ha : a = none → l = []) (hb : b = none → m = []) (hl : l.length ≤ 200000000000000) (hml : m.length ≤ 200000000000000) (hok : ∀ p ∈ l, CellOk p) (hom : ∀ p ∈ m, CellOk p) (u v : Int) : ∀ H, (∀ w, Facts H w → (GrF a l w ∧ GrF b m w) ∧ TabF w) → SpecH Tryz.prog 13 (pvs [.agg #[.slice a l.length ca, .slice b m.length cb, .int .i64 u, .int .i64 v]]) H (Ret (.bool true) H) := by
  refine factC hm Tryz.func13 (by kernel_rfl) rfl rfl ?_
  (conv => whnf)
  refine BoxN.known [.slice a l.length ca, .slice b m.length cb, .int .i64 u, .int .i64 v] rfl fun xb => ?_
  (first | refine wXB ?_ | exact wZB)
  -- 0: the field, .slice a l.length ca: the value
  refine LdN.one (a := some ⟨xb, 0, none⟩) (q := 0) (.slice a l.length ca) rfl (fun w hw => hw.2.1) rfl ?_
  (first | refine wXB ?_ | exact wZB)
  refine call1 (large_c a ca l ha hl hok _ (fun w hw => hw.1.1.1)) ?_
  cases hlb : largeB l with
  | true =>
    (first | refine wX ?_ | exact wZ)
    refine call1 (sane_c _) ?_
    (first | refine wX ?_ | exact wZ)
  | false =>
  have hs := small_of hlb
  (first | refine wXB ?_ | exact wZB)
  -- 1: the field, .slice b m.length cb: the value
  refine LdN.one (a := some ⟨xb, 0, none⟩) (q := 1) (.slice b m.length cb) rfl (fun w hw => hw.2.1) rfl ?_
  (first | refine wXB ?_ | exact wZB)
  refine call1 (large_c b cb m hb hml hom _ (fun w hw => hw.1.1.2)) ?_
  cases hlb2 : largeB m with
  | true =>
    (first | refine wX ?_ | exact wZ)
    refine call1 (sane_c _) ?_
    (first | refine wX ?_ | exact wZ)
  | false =>
  have ht := small_of hlb2
  (first | refine wXB ?_ | exact wZB)
  -- 0: the field, .slice a l.length ca: the value
  refine LdN.one (a := some ⟨xb, 0, none⟩) (q := 0) (.slice a l.length ca) rfl (fun w hw => hw.2.1) rfl ?_
  (first | refine wXB ?_ | exact wZB)
  -- 2: the field, .int .i64 u: the value
  refine LdN.one (a := some ⟨xb, 0, none⟩) (q := 2) (.int .i64 u) rfl (fun w hw => hw.2.1) rfl ?_
  (first | refine wXB ?_ | exact wZB)
  -- 1: the field, .slice b m.length cb: the value
  refine LdN.one (a := some ⟨xb, 0, none⟩) (q := 1) (.slice b m.length cb) rfl (fun w hw => hw.2.1) rfl ?_
  (first | refine wXB ?_ | exact wZB)
  -- 3: the field, .int .i64 v: the value
  refine LdN.one (a := some ⟨xb, 0, none⟩) (q := 3) (.int .i64 v) rfl (fun w hw => hw.2.1) rfl ?_
  (first | refine wXB ?_ | exact wZB)
  obtain ⟨e, r, he, hr, hes⟩ := Same_c ca cb ha hb hs ht hok hom u v [.fact (fun w => (GrF a l w ∧ GrF b m w) ∧ TabF w), .app 69 4 [.slice a l.length ca, .slice b m.length cb, .int .i64 u, .int .i64 v] (some ⟨xb, 0, none⟩) 1 1] (fun w hw => hw.1.1)
  refine call1 hes ?_
  ((conv => whnf); (repeat ((first | refine VrN.keep ?_ | refine BoxN.own ?_ | refine RwN.own ?_); (conv => whnf))))
  refine DrawN.plan [0, 3, 5, 8] [(1, 1), (4, 1), (6, 1), (9, 1), (2, 0), (7, 0), (10, 0), (11, 1), (12, 1), (13, 1), (14, 1), (15, 1)] [] (by decide +kernel) ?_
  ((conv => whnf); (repeat ((first | refine VrN.keep ?_ | refine BoxN.own ?_ | refine RwN.own ?_); (conv => whnf))))
  -- 0: the field, .slice a l.length ca: the value
  refine LdN.one (a := some ⟨xb, 0, none⟩) (q := 0) (.slice a l.length ca) rfl (fun w hw => hw.2.1) rfl ?_
  ((conv => whnf); (repeat ((first | refine VrN.keep ?_ | refine BoxN.own ?_ | refine RwN.own ?_); (conv => whnf))))
  -- 2: the field, .int .i64 u: the value
  refine LdN.one (a := some ⟨xb, 0, none⟩) (q := 2) (.int .i64 u) rfl (fun w hw => hw.2.1) rfl ?_
  ((conv => whnf); (repeat ((first | refine VrN.keep ?_ | refine BoxN.own ?_ | refine RwN.own ?_); (conv => whnf))))
  -- 1: the field, .slice b m.length cb: the value
  refine LdN.one (a := some ⟨xb, 0, none⟩) (q := 1) (.slice b m.length cb) rfl (fun w hw => hw.2.1) rfl ?_
  ((conv => whnf); (repeat ((first | refine VrN.keep ?_ | refine BoxN.own ?_ | refine RwN.own ?_); (conv => whnf))))
  -- 3: the field, .int .i64 v: the value
  refine LdN.one (a := some ⟨xb, 0, none⟩) (q := 3) (.int .i64 v) rfl (fun w hw => hw.2.1) rfl ?_
  ((conv => whnf); (repeat ((first | refine VrN.keep ?_ | refine BoxN.own ?_ | refine RwN.own ?_); (conv => whnf))))
  refine SpecF.call (as_c a ca l ha hs hok) (fun w hw => hw.1.1.1) fun v1 G hv1 => ?_
  obtain ⟨ga, gc, gm, rfl, hga, hgc, hgo, hG⟩ := hv1
  have hgs : Small gm := small_as hs hgc
  ((conv => whnf); (repeat ((first | refine VrN.keep ?_ | refine BoxN.own ?_ | refine RwN.own ?_); (conv => whnf))))
  refine Nd.mk ⟨wkE_refl _, wkE_refl _, trivial⟩ ?_
  ((conv => whnf); (repeat ((first | refine VrN.keep ?_ | refine BoxN.own ?_ | refine RwN.own ?_); (conv => whnf))))
  refine SpecF.call (as_c b cb m hb ht hom) (fun w hw => hw.1.1.2) fun v2 G2 hv2 => ?_
  obtain ⟨na, nc, nm, rfl, hna, hnc, hno, hG2⟩ := hv2
  have hns : Small nm := small_as ht hnc
  ((conv => whnf); (repeat ((first | refine VrN.keep ?_ | refine BoxN.own ?_ | refine RwN.own ?_); (conv => whnf))))
  refine Nd.mk ⟨wkE_refl _, wkE_refl _, wkE_refl _, trivial⟩ ?_
  ((conv => whnf); (repeat ((first | refine VrN.keep ?_ | refine BoxN.own ?_ | refine RwN.own ?_); (conv => whnf))))
  obtain ⟨e2, r2, he2, hr2, hes2⟩ := RSame_c gc nc hga hna hgs hns hgo hno u v [.fact (fun w => (GrF a l w ∧ GrF b m w) ∧ TabF w), .app 69 4 [.slice a l.length ca, .slice b m.length cb, .int .i64 u, .int .i64 v] (some ⟨xb, 0, none⟩) 1 1, .fact G, .fact G2] (fun w hw => ⟨hG w hw.2.2.1, hG2 w hw.2.2.2.1⟩)
  rw [hgc, hnc] at he2 hr2
  obtain rfl : e2 = e := by rw [Bool.eq_iff_iff, he, he2]
  obtain rfl : r2 = r := by rw [Bool.eq_iff_iff, hr, hr2]
  refine call1 hes2 ?_
  ((conv => whnf); (repeat ((first | refine VrN.keep ?_ | refine BoxN.own ?_ | refine RwN.own ?_); (conv => whnf))))
  refine Nd.mk ⟨wkE_refl _, wkE_refl _, wkE_refl _, wkE_refl _, trivial⟩ ?_
  ((conv => whnf); (repeat ((first | refine VrN.keep ?_ | refine BoxN.own ?_ | refine RwN.own ?_); (conv => whnf))))
  -- 0: the field, .slice a l.length ca: the value
  refine LdN.one (a := some ⟨xb, 0, none⟩) (q := 0) (.slice a l.length ca) rfl (fun w hw => hw.2.1) rfl ?_
  ((conv => whnf); (repeat ((first | refine VrN.keep ?_ | refine BoxN.own ?_ | refine RwN.own ?_); (conv => whnf))))
  -- 1: the field, .slice b m.length cb: the value
  refine LdN.one (a := some ⟨xb, 0, none⟩) (q := 1) (.slice b m.length cb) rfl (fun w hw => hw.2.1) rfl ?_
  ((conv => whnf); (repeat ((first | refine VrN.keep ?_ | refine BoxN.own ?_ | refine RwN.own ?_); (conv => whnf))))
  obtain ⟨t1, ht1⟩ := valid_bool (l.map (·.c))
  obtain ⟨t2, ht2⟩ := valid_bool (m.map (·.c))
  refine factG (fun _ => rfl) (Join_c ca cb ha hb hs ht hok hom t1 t2 ht1 ht2) ?_ ?_
  · exact fun w hw => hw.1.1
  intro st hst
  ((conv => whnf); (repeat ((first | refine VrN.keep ?_ | refine BoxN.own ?_ | refine RwN.own ?_); (conv => whnf))))
  refine DrawN.plan [0, 3] [(1, 1), (4, 1), (2, 0), (5, 0), (6, 0), (7, 1), (8, 1), (9, 1), (10, 1), (11, 1)] [] (by decide +kernel) ?_
  ((conv => whnf); (repeat ((first | refine VrN.keep ?_ | refine BoxN.own ?_ | refine RwN.own ?_); (conv => whnf))))
  -- 0: the field, .slice a l.length ca: the value
  refine LdN.one (a := some ⟨xb, 0, none⟩) (q := 0) (.slice a l.length ca) rfl (fun w hw => hw.2.1) rfl ?_
  ((conv => whnf); (repeat ((first | refine VrN.keep ?_ | refine BoxN.own ?_ | refine RwN.own ?_); (conv => whnf))))
  -- 1: the field, .slice b m.length cb: the value
  refine LdN.one (a := some ⟨xb, 0, none⟩) (q := 1) (.slice b m.length cb) rfl (fun w hw => hw.2.1) rfl ?_
  ((conv => whnf); (repeat ((first | refine VrN.keep ?_ | refine BoxN.own ?_ | refine RwN.own ?_); (conv => whnf))))
  refine SpecF.call (as_c a ca l ha hs hok) (fun w hw => hw.1.1.1) fun v3 G3 hv3 => ?_
  obtain ⟨ga3, gc3, gm3, rfl, hga3, hgc3, hgo3, hG3⟩ := hv3
  have hgs3 : Small gm3 := small_as hs hgc3
  ((conv => whnf); (repeat ((first | refine VrN.keep ?_ | refine BoxN.own ?_ | refine RwN.own ?_); (conv => whnf))))
  refine Nd.mk (by (repeat' (first | exact trivial | exact wkE_refl _ | refine And.intro ?_ ?_))) ?_
  ((conv => whnf); (repeat ((first | refine VrN.keep ?_ | refine BoxN.own ?_ | refine RwN.own ?_); (conv => whnf))))
  refine SpecF.call (as_c b cb m hb ht hom) (fun w hw => hw.1.1.2) fun v4 G4 hv4 => ?_
  obtain ⟨na4, nc4, nm4, rfl, hna4, hnc4, hno4, hG4⟩ := hv4
  have hns4 : Small nm4 := small_as ht hnc4
  ((conv => whnf); (repeat ((first | refine VrN.keep ?_ | refine BoxN.own ?_ | refine RwN.own ?_); (conv => whnf))))
  refine Nd.mk (by (repeat' (first | exact trivial | exact wkE_refl _ | refine And.intro ?_ ?_))) ?_
  ((conv => whnf); (repeat ((first | refine VrN.keep ?_ | refine BoxN.own ?_ | refine RwN.own ?_); (conv => whnf))))
  have hlen3 : gm3.length = l.length := by have := congrArg List.length hgc3; simpa using this
  have hlen4 : nm4.length = m.length := by have := congrArg List.length hnc4; simpa using this
  have hrj := RJoin_c gc3 nc4 hga3 hna4 hgs3 hns4 hgo3 hno4 t1 t2 (by rw [hgc3]; exact ht1) (by rw [hnc4]; exact ht2)
  rw [hgc3, hnc4, hlen3, hlen4] at hrj
  rw [hlen3, hlen4]
  refine factG (fun _ => rfl) hrj ?_ ?_
  · exact fun w hw => ⟨hG3 w hw.2.2.2.2.2.2.1, hG4 w hw.2.2.2.2.2.2.2.1⟩
  intro st2 hst2
  ((conv => whnf); (repeat ((first | refine VrN.keep ?_ | refine BoxN.own ?_ | refine RwN.own ?_); (conv => whnf))))
  refine Nd.mk (by (repeat' (first | exact trivial | exact wkE_refl _ | refine And.intro ?_ ?_))) ?_
  have hgl : (l.map (·.c)).length = l.length := by simp
  have hgm : (m.map (·.c)).length = m.length := by simp
  have hj5 : joinL t1 t2 (l.length + m.length) (l.map (·.c)) (m.map (·.c)) ≠ [] → joinV t1 t2 (l.length + m.length) = 0 := fun h => by
    unfold joinL at h
    unfold joinV
    by_cases hc : (t1 && t2 && decide (l.length + m.length ≤ 500)) = true
    · rw [Bool.and_eq_true, decide_eq_true_eq] at hc
      rw [if_pos hc.1, if_pos hc.2]
    · rw [if_neg hc] at h
      exact absurd rfl h
  have hj0 : joinV t1 t2 (l.length + m.length) = 0 → (ValidP (l.map (·.c)) ∧ ValidP (m.map (·.c))) ∧ l.length + m.length ≤ 500 ∧ joinL t1 t2 (l.length + m.length) (l.map (·.c)) (m.map (·.c)) = joinS (l.map (·.c)) (m.map (·.c)) := fun h => by
    unfold joinV at h
    by_cases hc : (t1 && t2) = true
    · rw [if_pos hc] at h
      by_cases h5 : l.length + m.length ≤ 500
      · rw [Bool.and_eq_true] at hc
        refine ⟨⟨ht1.1 hc.1, ht2.1 hc.2⟩, h5, ?_⟩
        unfold joinL
        rw [hc.1, hc.2, decide_eq_true h5]
        rfl
      · rw [if_neg h5] at h; cases h
    · rw [if_neg hc] at h; cases h
  have hsj : Small st.m := by
    by_cases hn : joinL t1 t2 (l.length + m.length) (l.map (·.c)) (m.map (·.c)) = []
    · rw [List.map_eq_nil_iff.1 (hst.c.trans hn)]
      exact ⟨Nat.zero_le _, fun p h => by cases h⟩
    · obtain ⟨_, h5, hjs⟩ := hj0 (hj5 hn)
      have hc0 := hst.c
      rw [hjs] at hc0
      refine ⟨by have h1 := congrArg List.length hc0; rw [join_len, List.length_map, hgl, hgm] at h1; omega, fun q hq => ?_⟩
      have hc : q.c ∈ joinS (l.map (·.c)) (m.map (·.c)) := hc0 ▸ List.mem_map_of_mem hq
      rcases List.mem_append.1 hc with hc | hc
      · obtain ⟨p, hp, hpe⟩ := List.mem_map.1 hc
        rw [← hpe]
        exact hs.2 p hp
      · obtain ⟨d, hd, hde⟩ := List.mem_map.1 hc
        obtain ⟨p, hp, hpe⟩ := List.mem_map.1 hd
        rw [← hde, ← hpe]
        exact ⟨(ht.2 p hp).1, by show (p.c.items.map _).length ≤ _; rw [List.length_map]; exact (ht.2 p hp).2⟩
  generalize hJ : joinV t1 t2 (l.length + m.length) = J at *
  unfold errI
  generalize hE : (if e2 = true then (0 : Int) else 1) = E at *
  cases hIs : (e2 && r2) with
  | false =>
    (first | refine wX ?_ | exact wZ)
    refine brd_ne (fun h => absurd rfl h) (fun _ => ?_)
    (first | refine wX ?_ | exact wZ)
    refine brd_ne (fun h => absurd rfl h) (fun _ => ?_)
    (first | refine wX ?_ | exact wZ)
    refine factG (fun _ => rfl) (as_o st.oa st.oc st.m hst.oa hsj hst.ok) ?_ ?_
    · exact fun w hw => hst.gr hw.2.2.2.2.1 hw.2.2.2.2.2.1
    intro st3 hst3
    (first | refine wX ?_ | exact wZ)
    refine call1 (Alike_c st3.oa st2.oa st3.oc st2.oc st3.m st2.m hst3.oa hst2.oa (by have := congrArg List.length hst3.c; have := hsj.1; simp only [List.length_map] at *; omega) hst3.ok hst2.ok (hst3.c.trans (hst.c.trans hst2.c.symm)) _ (fun w hw => ⟨hst3.gr hw.2.2.2.2.2.2.2.2.2.2.1 hw.2.2.2.2.2.2.2.2.2.2.2.1, hst2.gr hw.2.2.2.2.2.2.2.2.1 hw.2.2.2.2.2.2.2.2.2.1⟩)) ?_
    (first | refine wX ?_ | exact wZ)
    refine call1 (sane_c _) ?_
    (first | refine wX ?_ | exact wZ)
  | true =>
    have hEe : e2 = true ∧ r2 = true := by rw [Bool.and_eq_true] at hIs; exact hIs
    obtain ⟨ask1, ask2⟩ := he.1 hEe.1
    have htk := hr.1 hEe.2
    have i1 := ask1.2 u (by simp)
    have i2 := ask2.2 v (by simp)
    have g1 := valid_in ask1.1
    have g2 := valid_in ask2.1
    (first | refine wX ?_ | exact wZ)
    refine brd_ne (fun h => absurd rfl h) (fun _ => ?_)
    (first | refine wX ?_ | exact wZ)
    refine brd_ne (fun h => absurd rfl h) (fun _ => ?_)
    (first | refine wX ?_ | exact wZ)
    refine factG (fun _ => rfl) (as_o st.oa st.oc st.m hst.oa hsj hst.ok) ?_ ?_
    · exact fun w hw => hst.gr hw.2.2.2.2.1 hw.2.2.2.2.2.1
    intro st3 hst3
    (first | refine wX ?_ | exact wZ)
    refine call1 (Alike_c st3.oa st2.oa st3.oc st2.oc st3.m st2.m hst3.oa hst2.oa (by have := congrArg List.length hst3.c; have := hsj.1; simp only [List.length_map] at *; omega) hst3.ok hst2.ok (hst3.c.trans (hst.c.trans hst2.c.symm)) _ (fun w hw => ⟨hst3.gr hw.2.2.2.2.2.2.2.2.2.2.1 hw.2.2.2.2.2.2.2.2.2.2.2.1, hst2.gr hw.2.2.2.2.2.2.2.2.1 hw.2.2.2.2.2.2.2.2.2.1⟩)) ?_
    (first | refine wX ?_ | exact wZ)
    refine brd_eq (fun h9 => ?_) (fun h9 => ?_)
    rotate_left
    · (first | refine wX ?_ | exact wZ)
      refine call1 (sane_c _) ?_
      (first | refine wX ?_ | exact wZ)
    subst h9
    obtain ⟨hvv, h500, hjs⟩ := hj0 rfl
    have hstc : st.m.map (·.c) = joinS (l.map (·.c)) (m.map (·.c)) := hst.c.trans hjs
    have hvj := valid_join ask1.1 ask2.1 (by rw [hgl, hgm]; exact h500)
    have k1 := join_at1 (h := m.map (·.c)) i1
    have k2 := join_at2 (g := l.map (·.c)) i2
    have hvb : 0 ≤ v ∧ v < (m.length : Int) := ⟨i2.1, by have := i2.2; rw [hgm] at this; exact this⟩
    have hkw : IntKind.i64.wrap ((l.length : Int) + v) = v + ((l.map (·.c)).length : Int) := by rw [wrap_i64 (by omega), hgl]; omega
    have hsb : sameB (joinS (l.map (·.c)) (m.map (·.c))) (u, v + ((l.map (·.c)).length : Int)) = true := (same_eqv (p := (u, v + ((l.map (·.c)).length : Int))) (valid_in hvj) ⟨k1, k2⟩ (Nat.lt_succ_self _)).2 (same_join g1 g2 i1 i2 htk)
    ((conv => whnf); (repeat ((first | refine VrN.keep ?_ | refine BoxN.own ?_ | refine RwN.own ?_); (conv => whnf))))
    -- 2: the field, .int .i64 u: the value
    refine LdN.one (a := some ⟨xb, 0, none⟩) (q := 2) (.int .i64 u) rfl (fun w hw => hw.2.1) rfl ?_
    (first | refine wXB ?_ | exact wZB)
    -- 0: the field, .slice a l.length ca: the value
    refine LdN.one (a := some ⟨xb, 0, none⟩) (q := 0) (.slice a l.length ca) rfl (fun w hw => hw.2.1) rfl ?_
    (first | refine wXB ?_ | exact wZB)
    -- 3: the field, .int .i64 v: the value
    refine LdN.one (a := some ⟨xb, 0, none⟩) (q := 3) (.int .i64 v) rfl (fun w hw => hw.2.1) rfl ?_
    (first | refine wXB ?_ | exact wZB)
    rw [hkw]
    obtain ⟨e4, he4, hes4⟩ := Equal_c st.oc hst.oa hsj hst.ok u (v + ((l.map (·.c)).length : Int)) [.fact (fun w => (GrF a l w ∧ GrF b m w) ∧ TabF w), .app 69 4 [.slice a l.length ca, .slice b m.length cb, .int .i64 u, .int .i64 v] (some ⟨xb, 0, none⟩) 1 1, .fact G, .fact G2, .dead, .dead, .app 42 5 (grC st.m) st.oa st.m.length st.oc, famE (rowsG st.m), .fact G3, .fact G4, .app 73 5 (grC st2.m) st2.oa st2.m.length st2.oc, famE (rowsG st2.m), .app 73 5 (grC st3.m) st3.oa st3.m.length st3.oc, famE (rowsG st3.m)] (fun w hw => hst.gr hw.2.2.2.2.1 hw.2.2.2.2.2.1)
    rw [hstc] at he4 hes4
    obtain rfl : e4 = true := he4.2 ⟨hvj, fun x hx => by
      simp only [List.mem_cons, List.not_mem_nil, or_false] at hx
      rcases hx with rfl | rfl
      · exact k1
      · exact k2⟩
    rw [hsb] at hes4
    refine call1 hes4 ?_
    have htx : textP (leafS qL itL) (m.map (·.c)) v = textP (leafS qL itL) (l.map (·.c)) u := by
      rw [← (copyP ask1.1 i1).text _ leafS_eq, ← (copyP ask2.1 i2).text _ leafS_eq, htk]
    (first | refine wXB ?_ | exact wZB)
    -- 0: the field, .slice a l.length ca: the value
    refine LdN.one (a := some ⟨xb, 0, none⟩) (q := 0) (.slice a l.length ca) rfl (fun w hw => hw.2.1) rfl ?_
    (first | refine wXB ?_ | exact wZB)
    -- 2: the field, .int .i64 u: the value
    refine LdN.one (a := some ⟨xb, 0, none⟩) (q := 2) (.int .i64 u) rfl (fun w hw => hw.2.1) rfl ?_
    (first | refine wXB ?_ | exact wZB)
    obtain ⟨e5, he5, hes5⟩ := Text_c (E := TabF) ca ha hs hok (envL ha hs hok) u [.fact (fun w => (GrF a l w ∧ GrF b m w) ∧ TabF w), .app 69 4 [.slice a l.length ca, .slice b m.length cb, .int .i64 u, .int .i64 v] (some ⟨xb, 0, none⟩) 1 1, .fact G, .fact G2, .dead, .dead, .app 42 5 (grC st.m) st.oa st.m.length st.oc, famE (rowsG st.m), .fact G3, .fact G4, .app 73 5 (grC st2.m) st2.oa st2.m.length st2.oc, famE (rowsG st2.m), .app 73 5 (grC st3.m) st3.oa st3.m.length st3.oc, famE (rowsG st3.m)] (fun w hw => ⟨hw.1.1.1, hw.1.2⟩)
    obtain rfl : e5 = true := he5.2 ask1
    rw [show (if true = true then textP (leafS qL itL) (l.map (·.c)) u else []) = textP (leafS qL itL) (l.map (·.c)) u from rfl] at hes5
    refine call1 hes5 ?_
    (first | refine wXB ?_ | exact wZB)
    -- 0: the field, .slice a l.length ca: the value
    refine LdN.one (a := some ⟨xb, 0, none⟩) (q := 0) (.slice a l.length ca) rfl (fun w hw => hw.2.1) rfl ?_
    (first | refine wXB ?_ | exact wZB)
    -- 3: the field, .int .i64 v: the value
    refine LdN.one (a := some ⟨xb, 0, none⟩) (q := 3) (.int .i64 v) rfl (fun w hw => hw.2.1) rfl ?_
    (first | refine wXB ?_ | exact wZB)
    rw [hkw]
    obtain ⟨e6, he6, hes6⟩ := Text_c (E := TabF) st.oc hst.oa hsj hst.ok (envL hst.oa hsj hst.ok) (v + ((l.map (·.c)).length : Int)) [.fact (fun w => (GrF a l w ∧ GrF b m w) ∧ TabF w), .app 69 4 [.slice a l.length ca, .slice b m.length cb, .int .i64 u, .int .i64 v] (some ⟨xb, 0, none⟩) 1 1, .fact G, .fact G2, .dead, .dead, .app 42 5 (grC st.m) st.oa st.m.length st.oc, famE (rowsG st.m), .fact G3, .fact G4, .app 73 5 (grC st2.m) st2.oa st2.m.length st2.oc, famE (rowsG st2.m), .app 73 5 (grC st3.m) st3.oa st3.m.length st3.oc, famE (rowsG st3.m)] (fun w hw => ⟨hst.gr hw.2.2.2.2.1 hw.2.2.2.2.2.1, hw.1.2⟩)
    rw [hstc] at he6 hes6
    obtain rfl : e6 = true := he6.2 ⟨hvj, fun x hx => by rw [List.mem_singleton.1 hx]; exact k2⟩
    rw [show (if true = true then textP (leafS qL itL) (joinS (l.map (·.c)) (m.map (·.c))) (v + ((l.map (·.c)).length : Int)) else []) = textP (leafS qL itL) (joinS (l.map (·.c)) (m.map (·.c))) (v + ((l.map (·.c)).length : Int)) from rfl, text_join2 g1 g2 i2, htx] at hes6
    refine call1 hes6 ?_
    generalize textP (leafS qL itL) (l.map (·.c)) u = T at *
    (first | refine wX ?_ | exact wZ)
    rw [show ((bs T).data.toList == (bs T).data.toList) = true from beq_self_eq_true _]
    (first | refine wX ?_ | exact wZ)
    refine call1 (sane_c _) ?_
    (first | refine wX ?_ | exact wZ)
end Go.Proofs.YtahjbnfbilkbcaaGreatDoor

/-
  CoreSameCardSaid is proved: of every two graphs and cells CoreSame returns true and leaves its argument as it was; the listed tables are tied to the program's text.
-/
namespace Go.Proofs.YtahjbnfbilkbcaaGreatDoor
open Go.ChangeShapes Go.WideShapes Go.ChangeAt Go.RowKit Go.AX Go.Core
set_option maxRecDepth 100000

theorem grF_imm {a : Option Addr} {l : List CellP} {w : World} (h : GrF a l w) : Imm (fun b => b < w.heap.size) w (GrF a l) :=
  h.1.imm.and (Imm.all fun x hx => (SlAt.imm (h.2 x hx).1).and (SlAt.imm (h.2 x hx).2))
namespace CoreSame
theorem own : ownKnob Tryz.prog.godebug = none := own0
theorem walk {H : Type} {enc : TypeId × Value → H} (W : World) (base : Nat) (args : Array Value) (ds : List (DataW H)) (p : List MemPlace) (k : Known enc Tryz.prog Tryz.f13 W base args ds p) (_hL : laidMetH Tryz.prog laid3 W) : Walk Tryz.prog 13 args W := by
  obtain ⟨u, rfl⟩ := arr1 (trodAll_len k.trod).2
  obtain ⟨d, q, hd, n, h⟩ := trodAll_get k.trod 0 _ u rfl rfl
  obtain ⟨cs, rfl, _⟩ := okWide_struct Tryz.underlying69 (k.val 0 _ u rfl rfl)
  obtain ⟨a, b, l, m, c, c2, z1, z2, hcs, hn, hn2, hl, hl2, ho, ho2, hs, hs2⟩ := two_read h (fun x hx => by
    have := List.all_eq_true.1 k.weights x (DataW.weights_mem_each rfl hd x hx)
    simpa using this)
  obtain rfl : cs = #[.slice a l.length c, .slice b m.length c2, .int .i64 z1, .int .i64 z2] := by
    have : cs.toList = [.slice a l.length c, .slice b m.length c2, .int .i64 z1, .int .i64 z2] := by simpa [Value.cells] using hcs
    rw [← Array.toList_inj, this]
  exact walkH [.fact fun w => (GrF a l w ∧ GrF b m w) ∧ TabF w] (fun _ he => ⟨_, List.mem_singleton.1 he, ((grF_imm hs).and (grF_imm hs2)).and (tab_imm (tabL_of _hL))⟩) (CoreSame_c a b c c2 l m hn hn2 hl hl2 ho ho2 z1 z2 _ fun w hw => hw.1)

theorem lifted (os : Os) (started : os.Started) (H : Type) (enc : TypeId × Value → H) :
    ReturnsInHanded {} Tryz.checked os 13 .any (fun w args => (Rows.coreSameSpec.pre enc Tryz.prog Tryz.f13 [] false w args ∧ laidMetH Tryz.prog laid3 w) ∧ sizedMet enc Tryz.prog Tryz.f13 (OpenSpec.ofChange Rows.coreSameSpec) false w args) (Rows.coreSameSpec.post enc Tryz.prog Tryz.f13 false true false false) := by
  refine liftS (C := Tryz.checked) own started (by kernel_rfl) Tryz.func13
    (ChangeSpec.witness_shaped (enc := enc) (C := Tryz.checked) (os := os) (X := fun w _ => laidMetH Tryz.prog laid3 w) false (World.laidAll Tryz.prog os laid3) #[.agg #[.slice none 0 0, .slice none 0 0, .int .i64 0, .int .i64 0]] 8 (World.laidAll_os _ _ _) (World.shaped_of_ZipB (by kernel_rfl) (by kernel_rfl)) (by kernel_rfl) (by kernel_rfl) (by kernel_rfl) (door_met os _))
    laidOut rfl (t := _) rfl (by kernel_rfl) (by kernel_rfl) ?_ walk
  intro ds hd
  match ds, hd with
  | [d0], _ => rfl

theorem over : Rows.coreSameRow.holds Tryz.pinned (OpenSpec.ofChange Rows.coreSameSpec) :=
  OpenClaim.holds_of_wide 13 Tryz.f13 rfl rfl rfl rfl rfl rfl rfl ⟨rfl, rfl, rfl, rfl, rfl⟩ rfl rfl rfl rfl rfl (by kernel_rfl) Tryz.func13 (by kernel_rfl)
    (of_decide_eq_true (by kernel_rfl)) (by unfold Func.isWrapper; first | (rw [if_pos (by decide +kernel)]; kernel_rfl) | (rw [if_neg (by decide +kernel)]; exact ⟨rfl, rfl⟩))
    (fun os started H enc _ => lifted os started H enc)

theorem proved : Rows.CoreSameCardSaid :=
  Claim7.holds_tied_plain_at .later [] [.data, .data, .data] true (true, "8c46145c91ca01cbbdc693332ca60911ae9d66bc5eabc04f89f5f042d1271d1b") true
    over (fun _ h => by cases h) (by kernel_rfl) (fun _ h => by cases h) coreSame_row_tie rfl ⟨rfl, rfl⟩ (by kernel_rfl) rfl
    (fun f fn hf hfn => by
      obtain rfl : f = 13 := Option.some.inj ((show Tryz.prog.funcNamed "cabochon/cabochonlaw21.CoreSame" = some 13 by kernel_rfl).symm.trans hf) |>.symm
      obtain rfl : fn = Tryz.f13 := (Option.some.inj (Tryz.func13.symm.trans hfn)).symm
      exact ⟨by kernel_rfl, fun j t ht => by
        have hm : t ∈ Tryz.f13.params.toList := by simpa using Array.mem_of_getElem? ht
        have hall : (Tryz.f13.params.toList.all fun u => !Tryz.prog.wantsStandIn u) = true := by kernel_rfl
        exact (show Tryz.prog.wantsStandIn t = false by simpa using List.all_eq_true.1 hall t hm)⟩)
    (by kernel_rfl)
#print axioms proved
end CoreSame
end Go.Proofs.YtahjbnfbilkbcaaGreatDoor
