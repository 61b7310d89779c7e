/-
  CoreCopiesCardSaid is proved: of every graph and cell CoreCopies returns true and leaves its arguments as they were; the listed tables are tied to the program's text.
-/
import Derived.Test.YtahjbnfbilkbcaaGreatDoorCards
import Derived.Test.YtahjbnfbilkbcaaGreatDoorTie
import Derived.Test.YtahjbnfbilkbcaaGreatDoorCop8
set_option linter.unusedVariables false
set_option linter.unusedSimpArgs false
/-
  Plain: a graph whose cells are changed one by one, and its rows; graphs in whose arrays b stands for a are valid.
-/
namespace Go.Core
/-- The first k of the items are changed. -/
def mixI (f : Int → Int) (k : Nat) (its : List Int) : List Int := (its.take k).map f ++ its.drop k
theorem mixI_zero (f : Int → Int) (its : List Int) : mixI f 0 its = its := by unfold mixI; simp
theorem mixI_all (f : Int → Int) (its : List Int) : mixI f its.length its = its.map f := by unfold mixI; simp
theorem mixI_len (f : Int → Int) (k : Nat) (its : List Int) : (mixI f k its).length = its.length := by
  unfold mixI
  rw [List.length_append, List.length_map, List.length_take, List.length_drop]
  omega
theorem mix_get {α : Type} {f : α → α} {k : Nat} {l : List α} (h : k < l.length) : ((l.take k).map f ++ l.drop k)[k]? = l[k]? := by
  rw [List.getElem?_append_right (by simp; omega), List.getElem?_drop]
  simp
  congr 1
  omega
theorem mix_set {α : Type} {f : α → α} {k : Nat} {l : List α} {x : α} (h : l[k]? = some x) : ((l.take k).map f ++ l.drop k).set k (f x) = (l.take (k + 1)).map f ++ l.drop (k + 1) := by
  have hk := (List.getElem?_eq_some_iff.1 h).1
  rw [List.set_append_right _ _ (by simp; omega)]
  have e : k - (List.map f (List.take k l)).length = 0 := by simp; omega
  rw [e, List.drop_eq_getElem_cons hk, List.set_cons_zero, List.take_add_one, h]
  simp
theorem set_same {α : Type} {l : List α} {k : Nat} {x : α} (h : l[k]? = some x) : l.set k x = l := by
  obtain ⟨hk, rfl⟩ := List.getElem?_eq_some_iff.1 h
  exact List.set_getElem_self hk
end Go.Core
namespace Go.Proofs.YtahjbnfbilkbcaaGreatDoor
open Go.AX Go.RowKit Go.Core
set_option maxRecDepth 20000

/-- The first i cells are changed. -/
def mxP (F : CellP → CellP) (i : Nat) (m : List CellP) : List CellP := (m.take i).map F ++ m.drop i
theorem mxP_zero (F : CellP → CellP) (m : List CellP) : mxP F 0 m = m := by unfold mxP; simp
theorem mxP_len (F : CellP → CellP) (i : Nat) (m : List CellP) : (mxP F i m).length = m.length := by
  unfold mxP
  rw [List.length_append, List.length_map, List.length_take, List.length_drop]
  omega
/-- The rows of the other cells. -/
def restG (m : List CellP) (i : Nat) : List RowD := rowsG (m.take i) ++ rowsG (m.drop (i + 1))
def rowsN (p : CellP) : List RowD := match p.na with | some ad => [⟨9, 1, p.c.names.length, strC p.c.names, ad.block, p.nc⟩] | none => []
def rowsI (p : CellP) : List RowD := match p.ia with | some ad => [⟨3, 1, p.c.items.length, iC p.c.items, ad.block, p.ic⟩] | none => []
theorem rowsG_at {m : List CellP} {i : Nat} (h : i < m.length) (q : CellP) : (rowsG (m.set i q)).Perm (rowsP q ++ restG m i) := by
  have e : rowsG (m.set i q) = rowsG (m.take i) ++ (rowsP q ++ rowsG (m.drop (i + 1))) := by
    rw [List.set_eq_take_append_cons_drop, if_pos h]
    unfold rowsG
    rw [List.flatMap_append, List.flatMap_cons]
  rw [e]
  unfold restG
  rw [← List.append_assoc, ← List.append_assoc]
  exact List.Perm.append_right _ List.perm_append_comm
theorem rowsG_items {m : List CellP} {i : Nat} (h : i < m.length) {q : CellP} {ad : Addr} (hq : q.ia = some ad) : (rowsG (m.set i q)).Perm (⟨3, 1, q.c.items.length, iC q.c.items, ad.block, q.ic⟩ :: (rowsN q ++ restG m i)) := by
  refine (rowsG_at h q).trans ?_
  have e : rowsP q = rowsN q ++ [⟨3, 1, q.c.items.length, iC q.c.items, ad.block, q.ic⟩] := by unfold rowsP rowsN; rw [hq]; rfl
  rw [e, List.append_assoc]
  exact List.perm_middle
theorem rowsG_names {m : List CellP} {i : Nat} (h : i < m.length) {q : CellP} {ad : Addr} (hq : q.na = some ad) : (rowsG (m.set i q)).Perm (⟨9, 1, q.c.names.length, strC q.c.names, ad.block, q.nc⟩ :: (rowsI q ++ restG m i)) := by
  refine (rowsG_at h q).trans ?_
  have e : rowsP q = [⟨9, 1, q.c.names.length, strC q.c.names, ad.block, q.nc⟩] ++ rowsI q := by unfold rowsP rowsI; rw [hq]; rfl
  rw [e, List.append_assoc]
  exact List.Perm.refl _
theorem setI_self (p : CellP) : setI p p.c.items p.ia p.ic = p := rfl
end Go.Proofs.YtahjbnfbilkbcaaGreatDoor

/-
  Contract: the graph of what is reached (program), with memory of the caller's own.
-/
namespace Go.Proofs.YtahjbnfbilkbcaaGreatDoor
open Go.AX Go.RowKit Go.Core
set_option maxRecDepth 20000

/-- What is known of a graph that was made. -/
structure MInv (t : List Cell) (st : DSt) : Prop where
  oa : st.oa = none → st.m = []
  c : st.m.map (·.c) = t
  ok : ∀ p ∈ st.m, CellOk p
  own : ∀ p ∈ st.m, OwnP p
  cap : st.m.length ≤ st.oc
theorem MInv.gr {t : List Cell} {st : DSt} (h : MInv t st) {w : World} (h1 : SlAt st.oa (st.m.length * 5) (grC st.m) w) (h2 : famF (rowsG st.m) w) : GrF st.oa st.m w := ⟨h1, grF_rows h.ok h.own h2⟩
theorem to_in {g : List Cell} (hg : InG g) {i j : Int} (hi : InI g i) (h : To g i j) : InI g j := by
  induction h with
  | refl => exact hi
  | step hk _ ih => exact ih (outs_in hg hi hk)
/-- The places of the first cells are known. -/
def okL (L : List Int) (j : Nat) (st : Array MapEntry × Nat) : Prop := ∃ R : List (Int × Value), KeysAre (fun k : Int => .int .i64 k) st.1.toList R ∧ ∀ x ∈ L.take j, R.lookup x = some (.int .i64 (place L x))
set_option maxHeartbeats 4000000 in
theorem taken_o (a : Option Addr) (ca : Nat) (l : List CellP) (ha : a = none → l = []) (hs : Small l) (hok : ∀ p ∈ l, CellOk p) (hg : InG (l.map (·.c))) (i0 : Int) (hi0 : InI (l.map (·.c)) i0) : SpecH Tryz.prog 60 (pvs [.slice a l.length ca, .int .i64 i0]) [.fact (GrF a l)] (RetG (MInv (takenS (l.map (·.c)) (reachL (l.map (·.c)) i0))) (fun st => .slice st.oa st.m.length st.oc) (fun st => .dead :: .dead :: .dead :: ownN 42 st)) := by
  obtain ⟨hl, hsm⟩ := hs
  refine ownC hm Tryz.func60 (by kernel_rfl) rfl rfl (fun _ _ => okHB_eq rfl) (fun _ _ => by show 1 ≤ 5; decide) ?_
  (first | refine wX ?_ | exact wZ)
  refine SpecF.call (reach_c ca ha ⟨hl, hsm⟩ hok hg i0 hi0) (fun w hw => hw.1) fun v1 G1 hv1 => ?_
  obtain ⟨ra, rc, rfl, hra, hG1⟩ := hv1
  obtain ⟨L, hL⟩ : ∃ L, L = reachL (l.map (·.c)) i0 := ⟨_, rfl⟩
  have hgl : (l.map (·.c)).length = l.length := by simp
  have hLn : L.Nodup := by rw [hL]; exact reach_nodup _ _ _ List.nodup_nil
  have hLi : ∀ x, x ∈ L ↔ To (l.map (·.c)) i0 x := fun x => by rw [hL]; exact reach_iff hg (Nat.lt_succ_self _) hi0 x
  have hLl : L.length ≤ l.length := by
    have h1 := reach_len hg ((l.map (·.c)).length + 1) [] i0 hi0
    have h2 := free_le (l.map (·.c)) []
    rw [hL]
    unfold reachL
    simp only [List.length_nil] at h1
    omega
  rw [← hL] at hra hG1 ⊢
  clear hL
  (first | refine wX ?_ | exact wZ)
  refine EffW.mkMap rfl fun mb => ?_
  have hLc : ∀ x ∈ L, ∀ y ∈ outs (l.map (·.c)) x, y ∈ L := fun x hx y hy => (hLi y).2 (((hLi x).1 hx).trans (.step hy (.refl y)))
  have hLg : ∀ x ∈ L, InI (l.map (·.c)) x := fun x hx => to_in hg hi0 ((hLi x).1 hx)
  clear hLi
  (first | refine wX ?_ | exact wZ)
  refine LoopN.intro (Nat × (Array MapEntry × Nat)) (fun ⟨j, st⟩ => j ≤ L.length ∧ okL L j st)
    (fun ⟨j, _⟩ => mkS Tryz.f60.ntmps 0 [(0, .c (.v (.slice a l.length ca))), (4, .c (.v (.slice none 0 0))), (5, .c (.v (.slice ra L.length rc))), (6, .c (.v (.map (some mb)))), (19, .c (.v (.slice ra L.length rc))), (20, .c (.v (.int .i64 (L.length : Int)))), (21, .c (.v (.int .i64 (j : Int))))])
    (fun ⟨_, st⟩ => [.fact (GrF a l), .fact G1, .mp mb st.1 st.2]) (fun ⟨j, _⟩ => L.length - j) [] rfl (fun ⟨_, _⟩ => rfl) (fun ⟨_, _⟩ => rfl) (fun ⟨_, _⟩ _ => okHB_eq rfl) ?_ ?_
  · refine ⟨(0, (#[], 0)), ⟨Nat.zero_le _, [], rfl, fun x h => by cases h⟩, ?_, wkE_refl _, wkE_refl _, wkE_refl _, trivial⟩
    (repeat' (first | exact trivial | refine And.intro (by with_reducible rfl) ?_ | (with_reducible exact wkC_refl _) | (with_reducible exact wkCs_refl _) | refine And.intro ?_ ?_))
    all_goals rfl
  rintro ⟨j, ⟨es, c⟩⟩ ⟨hj, R, hR, hval⟩
  (first | refine wX ?_ | exact wZ)
  refine brd_dec (fun h1 => ?_) (fun h1 => ?_)
  · obtain ⟨x, hx⟩ : ∃ x, L[j]? = some x := ⟨_, List.getElem?_eq_getElem (by omega)⟩
    have hra2 : ra.isSome = true := by
      cases ra with
      | none => rw [hra rfl] at hx; cases hx
      | some b => rfl
    (first | refine wX ?_ | exact wZ)
    refine Nd.mk ⟨hra2, by omega, by omega⟩ ?_
    (first | refine wX ?_ | exact wZ)
    refine LdN.one (.int .i64 x) rfl (fun w hw => hG1 w hw.2.1) (by rw [Int.toNat_natCast]; show (iC L)[j * 1]? = _; rw [Nat.mul_one]; exact iC_get hx) ?_
    (first | refine wX ?_ | exact wZ)
    refine EffW.setMap (et := 3) (p := x) 2 R rfl (by kernel_rfl) intT rfl rfl rfl rfl hR fun es4 c4 hk4 => ?_
    (first | refine wX ?_ | exact wZ)
    refine ⟨(j + 1, (es4, c4)), ⟨by omega, _, hk4, fun y hy => ?_⟩, by show L.length - (j + 1) < L.length - j; omega, ?_, wkE_refl _, wkE_refl _, wkE_refl _, trivial⟩
    · rw [look_upd]
      rw [List.take_add_one, hx] at hy
      rcases List.mem_append.1 hy with hy | hy
      · by_cases hxy : y = x
        · rw [if_pos hxy, hxy, place_at hLn hx]
        · rw [if_neg hxy]; exact hval y hy
      · rw [List.mem_singleton.1 hy, if_pos rfl, place_at hLn hx]
    · (repeat' (first | exact trivial | refine And.intro (by with_reducible rfl) ?_ | (with_reducible exact wkC_refl _) | (with_reducible exact wkCs_refl _) | refine And.intro ?_ ?_))
      all_goals first | rfl | exact av_int (by rw [wrap_i64 (by omega)]; omega)
  · have hjl : j = L.length := by omega
    subst hjl
    rw [List.take_length] at hval
    (first | refine wX ?_ | exact wZ)
    refine LoopN.introS DSt (fun ⟨j, oa, oc, m⟩ => j ≤ L.length ∧ (oa = none → m = []) ∧ m.map (·.c) = (L.take j).map (fun k => reNum (place L) (at_ (l.map (·.c)) k)) ∧ (∀ p ∈ m, CellOk p) ∧ (∀ p ∈ m, OwnP p) ∧ m.length ≤ oc)
      (fun ⟨j, oa, oc, m⟩ => mkS Tryz.f60.ntmps 0 [(0, .c (.v (.slice a l.length ca))), (6, .c (.v (.map (some mb)))), (9, .c (.v (.slice oa m.length oc))), (30, .c (.v (.slice ra L.length rc))), (31, .c (.v (.int .i64 (L.length : Int)))), (32, .c (.v (.int .i64 (j : Int))))])
      (fun ⟨_, oa, oc, m⟩ => [.fact (GrF a l), .fact G1, .mp mb es c, .app 42 5 (grC m) oa m.length oc, famE (rowsG m)]) (fun ⟨j, _, _, _⟩ => L.length - j) [.app 42 5 [] none 0 0, .dead] rfl (fun _ => rfl) (fun _ => rfl) (fun _ _ => ⟨trivial, trivial, trivial, trivial, trivial, trivial⟩) ?_ ?_
    · refine ⟨⟨0, none, 0, []⟩, ⟨Nat.zero_le _, fun _ => rfl, rfl, (fun p h => by cases h), (fun p h => by cases h), Nat.le_refl _⟩, ?_, _, (famNew 4 rfl).s, wkE_refl _, wkE_refl _, wkE_refl _, wkE_refl _, wkE_refl _, trivial⟩
      (repeat' (first | exact trivial | refine And.intro (by with_reducible rfl) ?_ | (with_reducible exact wkC_refl _) | (with_reducible exact wkCs_refl _) | refine And.intro ?_ ?_))
      all_goals rfl
    rintro ⟨j, oa, oc, m⟩ ⟨hj, hoa, hmc, hmo, hmw, hoc⟩
    have hml : m.length = j := by
      have := congrArg List.length hmc
      simp only [List.length_map, List.length_take] at this
      omega
    (first | refine wX ?_ | exact wZ)
    refine brd_dec (fun h1 => ?_) (fun h1 => ?_)
    · obtain ⟨x, hx⟩ : ∃ x, L[j]? = some x := ⟨_, List.getElem?_eq_getElem (by omega)⟩
      have hxL := List.mem_of_getElem? hx
      have hxi := hLg x hxL
      have hra2 : ra.isSome = true := by
        cases ra with
        | none => rw [hra rfl] at hx; cases hx
        | some b => rfl
      (first | refine wX ?_ | exact wZ)
      refine Nd.mk ⟨hra2, by omega, by omega⟩ ?_
      (first | refine wX ?_ | exact wZ)
      refine LdN.one (.int .i64 x) rfl (fun w hw => hG1 w hw.2.1) (by rw [Int.toNat_natCast]; show (iC L)[j * 1]? = _; rw [Nat.mul_one]; exact iC_get hx) ?_
      obtain ⟨k, rfl⟩ : ∃ k : Nat, x = (k : Int) := ⟨x.toNat, by have := hxi.1; omega⟩
      have hkl : k < l.length := by have := hxi.2; rw [hgl] at this; omega
      obtain ⟨p, hp⟩ : ∃ p, l[k]? = some p := ⟨_, List.getElem?_eq_getElem hkl⟩
      have hat : at_ (l.map (·.c)) (k : Int) = p.c := at_map hp
      have hpm := List.mem_of_getElem? hp
      have hpo := hok p hpm
      obtain ⟨hnl, hil⟩ := hsm p hpm
      have hsa : a.isSome = true := by
        cases a with
        | none => rw [ha rfl] at hp; cases hp
        | some b => rfl
      (first | refine wX ?_ | exact wZ)
      refine Nd.mk ⟨hsa, by omega, by omega⟩ ?_
      (first | refine wX ?_ | exact wZ)
      refine LdN.agg (cellC p) rfl (fun w hw => hw.1.1) rfl (fun q hq => by rw [Int.toNat_natCast]; exact grC_get l k q hq hp) ?_
      (first | refine wXB ?_ | exact wZB)
      refine BoxN.known [.int .i64 0, .int .i64 0, .string { data := #[] }, .slice none 0 0, .slice none 0 0] rfl fun cb => ?_
      (first | refine wXB ?_ | exact wZB)
      refine EffW.appTo (i := 5) (q := 0) (ys := cellC p) (cellC p) 5 rfl rfl rfl rfl rfl rfl rfl (Nat.le_of_ble_eq_true rfl) rfl rfl ?_
      (first | refine wXB ?_ | exact wZB)
      refine LdN.one (a := some ⟨cb, 0, none⟩) (q := 3) (.slice p.na p.c.names.length p.nc) rfl (fun w hw => hw.2.2.2.2.2.1) rfl ?_
      (first | refine wXB ?_ | exact wZB)
      refine factG (fun _ => rfl) (cloneT p.na p.nc p.c.names hpo.na hnl) ?_ ?_
      · exact fun w hw => (hw.1.2 p hpm).1
      rintro ⟨nb, nc2⟩ ⟨hnb, hnc⟩
      (first | refine wXB ?_ | exact wZB)
      refine EffW.appTo (i := 5) (q := 3) (ys := [.slice (at0 nb) p.c.names.length nc2]) (cellC ⟨p.c, at0 nb, nc2, p.ia, p.ic⟩) 5 rfl rfl rfl rfl rfl rfl rfl (Nat.le_of_ble_eq_true rfl) rfl rfl ?_
      (first | refine wXB ?_ | exact wZB)
      refine LdN.one (a := some ⟨cb, 0, none⟩) (q := 4) (.slice p.ia p.c.items.length p.ic) rfl (fun w hw => hw.2.2.2.2.2.1) rfl ?_
      (first | refine wXB ?_ | exact wZB)
      refine factG (fun _ => rfl) (cloneI p.ia p.ic p.c.items hpo.ia hil) ?_ ?_
      · exact fun w hw => (hw.1.2 p hpm).2
      rintro ⟨ib, ic2⟩ ⟨hib, hic⟩
      (first | refine wXB ?_ | exact wZB)
      refine EffW.appTo (i := 5) (q := 4) (ys := [.slice (at0 ib) p.c.items.length ic2]) (cellC ⟨p.c, at0 nb, nc2, at0 ib, ic2⟩) 5 rfl rfl rfl rfl rfl rfl rfl (Nat.le_of_ble_eq_true rfl) rfl rfl ?_
      (first | refine wXB ?_ | exact wZB)
      refine LdN.one (a := some ⟨cb, 0, none⟩) (q := 4) (.slice (at0 ib) p.c.items.length ic2) rfl (fun w hw => hw.2.2.2.2.2.1) rfl ?_
      (first | refine wXB ?_ | exact wZB)
      refine LoopN.intro Nat (fun t => t ≤ p.c.items.length)
        (fun t => mkS Tryz.f60.ntmps 0 [(0, .c (.v (.slice a l.length ca))), (6, .c (.v (.map (some mb)))), (9, .c (.v (.slice oa m.length oc))), (12, .c (.v (.pointer (some ⟨cb, 0, none⟩)))), (30, .c (.v (.slice ra L.length rc))), (31, .c (.v (.int .i64 (L.length : Int)))), (32, .c (.v (.int .i64 (j : Int)))), (49, .c (.v (.slice (at0 ib) p.c.items.length ic2))), (50, .c (.v (.int .i64 (p.c.items.length : Int)))), (51, .c (.v (.int .i64 (t : Int))))])
        (fun t => [.fact (GrF a l), .fact G1, .mp mb es c, .app 42 5 (grC m) oa m.length oc, famE (rowsG m), .app 42 5 (cellC ⟨p.c, at0 nb, nc2, at0 ib, ic2⟩) (some ⟨cb, 0, none⟩) 1 1, .app 9 1 (strC p.c.names) (at0 nb) p.c.names.length nc2, .app 3 1 (iC (mixI (place L) t p.c.items)) (at0 ib) p.c.items.length ic2]) (fun t => p.c.items.length - t) [] rfl (fun _ => rfl) (fun _ => rfl) (fun _ _ => okHB_eq rfl) ?_ ?_
      · refine ⟨0, Nat.zero_le _, ?_, wkE_refl _, wkE_refl _, wkE_refl _, wkE_refl _, wkE_refl _, wkE_refl _, wkE_refl _, ?_, trivial⟩
        · (repeat' (first | exact trivial | refine And.intro (by with_reducible rfl) ?_ | (with_reducible exact wkC_refl _) | (with_reducible exact wkCs_refl _) | refine And.intro ?_ ?_))
          all_goals rfl
        · rw [mixI_zero]; exact wkE_refl _
      intro t ht
      (first | refine wXB ?_ | exact wZB)
      refine brd_dec (fun h3 => ?_) (fun h3 => ?_)
      · obtain ⟨y, hy⟩ : ∃ y, p.c.items[t]? = some y := ⟨_, List.getElem?_eq_getElem (by omega)⟩
        obtain ⟨ib, rfl⟩ : ∃ b, ib = some b := by
          cases ib with
          | none => rw [hib rfl] at hy; cases hy
          | some b => exact ⟨b, rfl⟩
        have hyL : y ∈ L := hLc (k : Int) hxL y (by unfold outs; rw [hat]; exact List.mem_of_getElem? hy)
        have hms : mixI (place L) (t + 1) p.c.items = (mixI (place L) t p.c.items).set t (place L y) := by
          unfold mixI
          rw [← mix_set (f := place L) hy]
        have hset : (iC (mixI (place L) t p.c.items)).set t (.int .i64 (place L y)) = iC (mixI (place L) (t + 1) p.c.items) := by
          rw [hms]
          unfold iC
          rw [List.map_set]
        have hq1 : t + 1 ≤ p.c.items.length * 1 := by omega
        have hq2 : t < (iC (mixI (place L) t p.c.items)).length := by unfold iC; rw [List.length_map, mixI_len]; omega
        (first | refine wXB ?_ | exact wZB)
        refine Nd.mk ⟨rfl, by omega, by omega⟩ ?_
        (first | refine wXB ?_ | exact wZB)
        refine LdN.one (.int .i64 y) rfl (fun w hw => hw.2.2.2.2.2.2.2.1) (by rw [Int.toNat_natCast]; show (iC (mixI (place L) t p.c.items))[t * 1]? = _; rw [Nat.mul_one]; exact iC_get (by unfold mixI; rw [mix_get (by omega)]; exact hy)) ?_
        (first | refine wXB ?_ | exact wZB)
        refine LdN.one (a := some ⟨cb, 0, none⟩) (q := 4) (.slice (at0 (some ib)) p.c.items.length ic2) rfl (fun w hw => hw.2.2.2.2.2.1) rfl ?_
        (first | refine wXB ?_ | exact wZB)
        refine ReadW.keyMap (et := 3) (p := y) R rfl (by kernel_rfl) intT rfl rfl rfl rfl (fun w hw => hw.2.2.1) hR ?_
        rw [hval y hyL, Option.getD_some]
        (first | refine wXB ?_ | exact wZB)
        refine Nd.mk ⟨rfl, by omega, by omega⟩ ?_
        (first | refine wXB ?_ | exact wZB)
        refine EffW.appTo (i := 7) (q := t) (ys := [.int .i64 (place L y)]) (iC (mixI (place L) (t + 1) p.c.items)) 1 rfl ?_ rfl rfl rfl rfl rfl hq1 (by rw [put_set _ hq2]; exact hset) rfl ?_
        · rw [Int.toNat_natCast]
          show AV.c (CV.v (Value.pointer (some (((⟨ib, 0, none⟩ : Addr)).add (t * 1))))) = _
          rw [Nat.mul_one]
          exact congrArg (fun x => AV.c (CV.v (Value.pointer (some x)))) (add_lit0 ib t)
        (first | refine wXB ?_ | exact wZB)
        refine ⟨t + 1, by omega, by omega, ?_, wkE_refl _, wkE_refl _, wkE_refl _, wkE_refl _, wkE_refl _, wkE_refl _, wkE_refl _, wkE_refl _, trivial⟩
        (repeat' (first | exact trivial | refine And.intro (by with_reducible rfl) ?_ | (with_reducible exact wkC_refl _) | (with_reducible exact wkCs_refl _) | refine And.intro ?_ ?_))
        all_goals first | rfl | exact av_int (by rw [wrap_i64 (by omega)]; omega)
      · obtain rfl : t = p.c.items.length := by omega
        rw [mixI_all]
        (first | refine wXB ?_ | exact wZB)
        refine LdN.agg (a := some ⟨cb, 0, none⟩) (q := 0) (cellC ⟨p.c, at0 nb, nc2, at0 ib, ic2⟩) rfl (fun w hw => hw.2.2.2.2.2.1) rfl (fun q hq => by rw [Nat.zero_add]) ?_
        (first | refine wXB ?_ | exact wZB)
        refine Nd.mk ⟨Nat.le_refl 1, rfl, rfl⟩ ?_
        (conv => whnf)
        have hnr : reNum (place L) p.c = { p.c with items := p.c.items.map (place L) } := rfl
        have hcc : cellC ⟨p.c, at0 nb, nc2, at0 ib, ic2⟩ = cellC ⟨reNum (place L) p.c, at0 nb, nc2, at0 ib, ic2⟩ := by
          unfold cellC reNum
          simp only [List.length_map]
        refine AppN.grow 3 (grC m) (cellC ⟨p.c, at0 nb, nc2, at0 ib, ic2⟩) rfl rfl ⟨Nat.le_refl 1, ⟨by show (m.length + 1) * 80 ≤ _; omega, by omega⟩, by decide⟩ fun ob2 oc2 hoc2 _ => ?_
        (first | refine wXB ?_ | exact wZB)
        obtain ⟨q, hq⟩ : ∃ q : CellP, q = ⟨reNum (place L) p.c, at0 nb, nc2, at0 ib, ic2⟩ := ⟨_, rfl⟩
        have hm2 : m.length + 1 = (m ++ [q]).length := by simp
        have hg2 := grC_snoc m q
        have hqr : rowsP q = optRow 9 1 p.c.names.length (strC p.c.names) nb nc2 ++ optRow 3 1 p.c.items.length (iC (p.c.items.map (place L))) ib ic2 := by
          rw [hq]
          unfold rowsP optRow reNum
          simp only [List.length_map]
          cases nb <;> cases ib <;> rfl
        have hrw := rowsG_snoc m q
        rw [hqr] at hrw
        have hp1 : (optRow 9 1 p.c.names.length (strC p.c.names) nb nc2 ++ rowsG m).Perm (rowsG m ++ optRow 9 1 p.c.names.length (strC p.c.names) nb nc2) := List.perm_append_comm
        have hp2 : (optRow 3 1 p.c.items.length (iC (p.c.items.map (place L))) ib ic2 ++ (rowsG m ++ optRow 9 1 p.c.names.length (strC p.c.names) nb nc2)).Perm (rowsG (m ++ [q])) := by
          rw [hrw, ← List.append_assoc (rowsG m)]
          exact List.perm_append_comm
        rw [hcc, ← hq, ← hg2, hm2]
        refine ⟨⟨j + 1, some ⟨ob2, 0, none⟩, oc2, m ++ [q]⟩, ⟨by omega, (fun h => by cases h), ?_, ?_, ?_, by omega⟩, by show L.length - (j + 1) < L.length - j; omega, ?_, _, ((famPutO 4 6 nb rfl rfl rfl hp1).trans (famPutO 4 7 ib rfl rfl rfl hp2)).s, wkE_refl _, wkE_refl _, wkE_refl _, wkE_refl _, wkE_refl _, trivial⟩
        · rw [List.take_add_one, hx, List.map_append, hmc, List.map_append]
          show _ ++ [q.c] = _ ++ [reNum (place L) (at_ (l.map (·.c)) (k : Int))]
          rw [hat, hq]
        · intro r hr
          rcases List.mem_append.1 hr with hr | hr
          · exact hmo r hr
          · rw [List.mem_singleton.1 hr, hq]
            exact ⟨fun h => hnb (by cases nb with | none => rfl | some b => cases h), fun h => by
              have : p.c.items = [] := hib (by cases ib with | none => rfl | some b => cases h)
              show (reNum (place L) p.c).items = []
              rw [hnr, this]; rfl, hpo.nl, by show (reNum (place L) p.c).items.length ≤ _; rw [hnr]; simp only [List.length_map]; omega, hpo.nw, hpo.tl, hnc, by show (reNum (place L) p.c).items.length ≤ ic2; rw [hnr]; simp only [List.length_map]; exact hic⟩
        · intro r hr
          rcases List.mem_append.1 hr with hr | hr
          · exact hmw r hr
          · rw [List.mem_singleton.1 hr, hq]
            exact ⟨fun ad h => by cases nb with | none => cases h | some b => cases h; rfl, fun ad h => by cases ib with | none => cases h | some b => cases h; rfl⟩
        · (repeat' (first | exact trivial | refine And.intro (by with_reducible rfl) ?_ | (with_reducible exact wkC_refl _) | (with_reducible exact wkCs_refl _) | refine And.intro ?_ ?_))
          all_goals first | rfl | exact av_int (by rw [wrap_i64 (by omega)]; omega)
    · obtain rfl : j = L.length := by omega
      rw [List.take_length] at hmc
      (first | refine wX ?_ | exact wZ)
      exact ⟨⟨0, oa, oc, m⟩, ⟨hoa, hmc, hmo, hmw, hoc⟩, rfl, trivial, trivial, trivial, wkE_refl _, wkE_refl _, trivial⟩
end Go.Proofs.YtahjbnfbilkbcaaGreatDoor

/-
  Contract: the document's list of pairs (equal).
-/
namespace Go.Core
/-- A pair's place among all. -/
def idxP (n : Nat) (p : Int × Int) : Nat := p.1.toNat * n + p.2.toNat
theorem idxP_lt {g : List Cell} {p : Int × Int} (h : InP g p) : idxP g.length p < g.length * g.length := by
  obtain ⟨⟨h1, h2⟩, h3, h4⟩ := h
  unfold idxP
  have : (p.1.toNat + 1) * g.length ≤ g.length * g.length := Nat.mul_le_mul_right _ (by omega)
  rw [Nat.add_mul, Nat.one_mul] at this
  omega
theorem idxP_inj {g : List Cell} {p q : Int × Int} (hp : InP g p) (hq : InP g q) (h : idxP g.length p = idxP g.length q) : p = q := by
  obtain ⟨⟨a1, a2⟩, a3, a4⟩ := hp
  obtain ⟨⟨b1, b2⟩, b3, b4⟩ := hq
  unfold idxP at h
  have m1 : (p.1.toNat * g.length + p.2.toNat) % g.length = p.2.toNat := by rw [Nat.mul_add_mod_self_right]; exact Nat.mod_eq_of_lt (by omega)
  have m2 : (q.1.toNat * g.length + q.2.toNat) % g.length = q.2.toNat := by rw [Nat.mul_add_mod_self_right]; exact Nat.mod_eq_of_lt (by omega)
  have hz : p.2.toNat = q.2.toNat := by rw [← m1, ← m2, h]
  have hx : p.1.toNat = q.1.toNat := Nat.eq_of_mul_eq_mul_right (show 0 < g.length by omega) (by omega)
  exact Prod.ext (by omega) (by omega)
/-- Which pairs were seen. -/
structure SeenS (g : List Cell) (l : List (Int × Int)) (S : List Bool) : Prop where
  len : S.length = g.length * g.length
  get : ∀ p, InP g p → S[idxP g.length p]? = some (decide (p ∈ l))
theorem SeenS.none (g : List Cell) : SeenS g [] (List.replicate (g.length * g.length) false) := ⟨by simp, fun p hp => by rw [List.getElem?_replicate, if_pos (idxP_lt hp)]; simp⟩
theorem SeenS.put {g : List Cell} {l : List (Int × Int)} {S : List Bool} (h : SeenS g l S) {p : Int × Int} (hp : InP g p) : SeenS g (l ++ [p]) (S.set (idxP g.length p) true) := by
  refine ⟨by rw [List.length_set, h.len], fun q hq => ?_⟩
  by_cases e : q = p
  · subst e
    rw [List.getElem?_set_self (by rw [h.len]; exact idxP_lt hq)]
    simp
  · rw [List.getElem?_set_ne (fun he => e (idxP_inj hp hq he).symm), h.get q hq]
    simp [e]
end Go.Core
namespace Go.Proofs.YtahjbnfbilkbcaaGreatDoor
open Go.AX Go.RowKit Go.Core
set_option maxRecDepth 20000

end Go.Proofs.YtahjbnfbilkbcaaGreatDoor

/-
  Contracts: OneKey, Equal (document), OneKey (program); CoreEquals (law).
-/
namespace Go.Core
end Go.Core
namespace Go.Proofs.YtahjbnfbilkbcaaGreatDoor
open Go.AX Go.RowKit Go.Core
set_option maxRecDepth 20000

theorem ask_bool (g : List Cell) (cs : List Int) : ∃ b : Bool, b = true ↔ AskP g cs := by
  by_cases h : AskP g cs
  · exact ⟨true, fun _ => h, fun _ => rfl⟩
  · exact ⟨false, (fun h => by cases h), fun h2 => absurd h2 h⟩
end Go.Proofs.YtahjbnfbilkbcaaGreatDoor

/-
  Contracts: Reach, Circular, Depth (program).
-/
namespace Go.Proofs.YtahjbnfbilkbcaaGreatDoor
open Go.AX Go.RowKit Go.Core
set_option maxRecDepth 20000

end Go.Proofs.YtahjbnfbilkbcaaGreatDoor

/-
  Contract: Copy (program), with memory of the caller's own.
-/
namespace Go.Proofs.YtahjbnfbilkbcaaGreatDoor
open Go.AX Go.RowKit Go.Core
set_option maxRecDepth 20000

/-- The copied graph. -/
def copyL (e : Bool) (g : List Cell) (u : Int) : List Cell := if e then takenS g (reachL g u) else []
set_option maxHeartbeats 4000000 in
theorem Copy_o {a : Option Addr} (ca : Nat) {l : List CellP} (ha : a = none → l = []) (hs : Small l) (hok : ∀ p ∈ l, CellOk p) (u : Int) :
    ∃ e : Bool, (e = true ↔ AskP (l.map (·.c)) [u]) ∧ SpecH Tryz.prog 29 (pvs [.slice a l.length ca, .int .i64 u]) [.fact (GrF a l)] (RetG (MInv (copyL e (l.map (·.c)) u)) (fun st => .tuple #[.slice st.oa st.m.length st.oc, errI e]) (fun st => .dead :: .dead :: .dead :: .dead :: ownN 42 st)) := by
  obtain ⟨e, he⟩ := ask_bool (l.map (·.c)) [u]
  refine ⟨e, he, ?_⟩
  cases e with
  | false =>
    refine SpecH.pad [.dead, .dead, .dead, .app 42 5 [] none 0 0, .dead] rfl ?_
    refine SpecH.turnS (famNew 5 rfl).s ?_
    refine ownC hm Tryz.func29 (by kernel_rfl) rfl rfl (fun _ _ => okHB_eq rfl) (fun _ _ => by show 6 ≤ 6; decide) ?_
    ((conv => whnf); (repeat ((first | refine BoxN.own ?_ | refine VrN.norm (wrap_i64 (by omega)) ?_ | refine VrN.keep ?_ | refine DrawN.calm (by decide +kernel) ?_ | refine Nd.mk (by decide +kernel) ?_ | refine Nd.mk (by omega) ?_ | (refine Nd.mk ?_ ?_; focus ((repeat' (first | exact trivial | exact wkE_refl _ | refine And.intro ?_ ?_)); done)) | refine RdN.intro _ rfl (by rfl) ?_); (conv => whnf))))
    refine RwN.known [.int .i64 u] rfl fun rb => ?_
    ((conv => whnf); (repeat ((first | refine BoxN.own ?_ | refine VrN.norm (wrap_i64 (by omega)) ?_ | refine VrN.keep ?_ | refine DrawN.calm (by decide +kernel) ?_ | refine Nd.mk (by decide +kernel) ?_ | refine Nd.mk (by omega) ?_ | (refine Nd.mk ?_ ?_; focus ((repeat' (first | exact trivial | exact wkE_refl _ | refine And.intro ?_ ?_)); done)) | refine RdN.intro _ rfl (by rfl) ?_); (conv => whnf))))
    obtain ⟨t, ht1, ht2⟩ := asked_c a ca l ha hs hok (some ⟨rb, 0, none⟩) 1 [u] (fun h => by cases h) (by simp) [.fact (GrF a l), .dead, .dead, .dead, .app 42 5 [] none 0 0, famE [], .app 3 1 [.int .i64 u] (some ⟨rb, 0, none⟩) 1 1] (fun w hw => ⟨hw.1, hw.2.2.2.1⟩)
    obtain rfl : t = false := by
      rw [Bool.eq_false_iff]
      exact fun h => by
        have := he.2 (ht1.1 h)
        cases this
    refine call1 ht2 ?_
    (first | refine wX ?_ | exact wZ)
    exact ⟨⟨0, none, 0, []⟩, ⟨fun _ => rfl, rfl, (fun p h => by cases h), (fun p h => by cases h), Nat.le_refl _⟩, rfl, trivial, trivial, trivial, trivial, wkE_refl _, wkE_refl _, trivial⟩
  | true =>
    have hask := he.1 rfl
    have hin := valid_in hask.1
    refine ownC hm Tryz.func29 (by kernel_rfl) rfl rfl (fun _ _ => okHB_eq rfl) (fun _ _ => by show 1 ≤ 6; decide) ?_
    ((conv => whnf); (repeat ((first | refine BoxN.own ?_ | refine VrN.norm (wrap_i64 (by omega)) ?_ | refine VrN.keep ?_ | refine DrawN.calm (by decide +kernel) ?_ | refine Nd.mk (by decide +kernel) ?_ | refine Nd.mk (by omega) ?_ | (refine Nd.mk ?_ ?_; focus ((repeat' (first | exact trivial | exact wkE_refl _ | refine And.intro ?_ ?_)); done)) | refine RdN.intro _ rfl (by rfl) ?_); (conv => whnf))))
    refine RwN.known [.int .i64 u] rfl fun rb => ?_
    ((conv => whnf); (repeat ((first | refine BoxN.own ?_ | refine VrN.norm (wrap_i64 (by omega)) ?_ | refine VrN.keep ?_ | refine DrawN.calm (by decide +kernel) ?_ | refine Nd.mk (by decide +kernel) ?_ | refine Nd.mk (by omega) ?_ | (refine Nd.mk ?_ ?_; focus ((repeat' (first | exact trivial | exact wkE_refl _ | refine And.intro ?_ ?_)); done)) | refine RdN.intro _ rfl (by rfl) ?_); (conv => whnf))))
    obtain ⟨t, ht1, ht2⟩ := asked_c a ca l ha hs hok (some ⟨rb, 0, none⟩) 1 [u] (fun h => by cases h) (by simp) [.fact (GrF a l), .app 3 1 [.int .i64 u] (some ⟨rb, 0, none⟩) 1 1] (fun w hw => ⟨hw.1, hw.2.1⟩)
    obtain rfl : t = true := ht1.2 hask
    refine call1 ht2 ?_
    (first | refine wX ?_ | exact wZ)
    refine factG (fun _ => rfl) (taken_o a ca l ha hs hok hin u (hask.2 u (by simp))) ?_ ?_
    · exact fun w hw => hw.1
    intro st hinv
    (first | refine wX ?_ | exact wZ)
    exact ⟨st, hinv, rfl, trivial, trivial, trivial, trivial, wkE_refl _, wkE_refl _, trivial⟩
end Go.Proofs.YtahjbnfbilkbcaaGreatDoor

/-
  Contracts: what is reached, whether a circle is, how deep (document).
-/
namespace Go.Proofs.YtahjbnfbilkbcaaGreatDoor
open Go.AX Go.RowKit Go.Core
set_option maxRecDepth 20000

def rdH (F : World → Prop) (L : List Int) (o : BSt) : List Ent := [.app 3 1 (iC L) (at0 o.ob) L.length o.cap, .fact F]
theorem rdH_ok (F : World → Prop) (L : List Int) (o : BSt) : okH (rdH F L o).length (rdH F L o) := okHB_eq rfl
set_option maxHeartbeats 4000000 in
theorem reached_c (a : Option Addr) (ca : Nat) (l : List CellP) (ha : a = none → l = []) (hs : Small l) (hok : ∀ p ∈ l, CellOk p) (hg : InG (l.map (·.c))) : ∀ (n : Nat) (L : List Int) (o : BSt) (i : Int), InI (l.map (·.c)) i → freeN (l.map (·.c)) L < n → L.length + freeN (l.map (·.c)) L ≤ 3000 → o.ok L.length →
    SpecH Tryz.prog 68 (pvs [.slice a l.length ca, .int .i64 i, .slice (at0 o.ob) L.length o.cap]) (rdH (GrF a l) L o) (RetG (ι := BSt) (fun o => o.ok (reachF (l.map (·.c)) n L i).length) (fun o => .slice (at0 o.ob) (reachF (l.map (·.c)) n L i).length o.cap) (fun o => rdH (GrF a l) (reachF (l.map (·.c)) n L i) o)) := by
  intro n
  induction n with
  | zero => intro L o i _ h; omega
  | succ n ih =>
    rintro L ⟨ob0, ocap⟩ i0 hi hn hlen ho
    obtain ⟨i, rfl⟩ : ∃ i : Nat, i0 = (i : Int) := ⟨i0.toNat, by have := hi.1; omega⟩
    have hil : i < l.length := by have := hi.2; simp only [List.length_map] at this; omega
    obtain ⟨p, hp⟩ : ∃ x, l[i]? = some x := ⟨_, List.getElem?_eq_getElem hil⟩
    have hpm := List.mem_of_getElem? hp
    have hpo := hok p hpm
    have hps := hs.2 p hpm
    have hl := hs.1
    have hsa : a.isSome = true := by
      cases a with
      | none => rw [ha rfl] at hil; exact absurd hil (Nat.not_lt_zero _)
      | some b => rfl
    refine ownC hm Tryz.func68 (by kernel_rfl) rfl rfl (fun _ _ => rdH_ok _ _ _) (fun _ _ => Nat.le_refl _) ?_
    (first | refine wX ?_ | exact wZ)
    refine call1 (rHas_c (at0 ob0) ocap L (i : Int) (fun h => by cases ob0 with | none => exact List.eq_nil_of_length_eq_zero (ho.1 rfl).1 | some b => cases h) (by omega) _ (fun w hw => hw.1)) ?_
    cases hmem : decide ((i : Int) ∈ L) with
    | true =>
      have hsf : reachF (l.map (·.c)) (n + 1) L (i : Int) = L := by unfold reachF; rw [if_pos (of_decide_eq_true hmem)]
      rw [hsf]
      (first | refine wX ?_ | exact wZ)
      exact ⟨⟨ob0, ocap⟩, ho, rfl, wkH_refl _⟩
    | false =>
    have hmem2 : ¬ (i : Int) ∈ L := of_decide_eq_false hmem
    have hsf : reachF (l.map (·.c)) (n + 1) L (i : Int) = (outs (l.map (·.c)) (i : Int)).foldl (reachF (l.map (·.c)) n) (L ++ [(i : Int)]) := by
      conv => lhs; unfold reachF
      rw [if_neg hmem2]
    rw [hsf, show outs (l.map (·.c)) (i : Int) = p.c.items by unfold outs; rw [at_map hp]]
    have hlt := free_lt hi hmem2 (t := L ++ [(i : Int)]) (fun x hx => by simp [hx]) (by simp)
    (first | refine wX ?_ | exact wZ)
    try refine Nd.mk ⟨Nat.le_refl 1, rfl, rfl⟩ ?_
    (conv => whnf)
    refine AppN.grow 0 (iC L) [.int .i64 (i : Int)] rfl rfl ⟨Nat.le_refl 1, ⟨by show (L.length + 1) * 8 ≤ _; omega, by omega⟩, Nat.one_ne_zero⟩ fun wb wc hwc _ => ?_
    have hcl : iC L ++ [.int .i64 (i : Int)] = iC (L ++ [(i : Int)]) := by simp [iC]
    have hll : L.length + 1 = (L ++ [(i : Int)]).length := by simp
    have hlen2 : (L ++ [(i : Int)]).length + freeN (l.map (·.c)) (L ++ [(i : Int)]) ≤ 3000 := by rw [← hll]; omega
    rw [hcl, hll]
    have hwc2 : (L ++ [(i : Int)]).length ≤ wc := by rw [← hll]; exact hwc
    generalize L ++ [(i : Int)] = L2 at *
    have hitem : ∀ x ∈ p.c.items, InI (l.map (·.c)) x := fun x hx => outs_in hg hi (by unfold outs; rw [at_map hp]; exact hx)
    obtain ⟨f, hf⟩ : ∃ f, f = reachF (l.map (·.c)) n := ⟨_, rfl⟩
    have hfl : ∀ k, ((p.c.items.take k).foldl f L2).length + freeN (l.map (·.c)) ((p.c.items.take k).foldl f L2) ≤ 3000 := fun k => by
      rw [hf]
      have := fold_len (g := l.map (·.c)) (fun L k hk => reach_len hg n L k hk) (p.c.items.take k) L2 (fun x hx => hitem x (List.mem_of_mem_take hx))
      omega
    have hff : ∀ k, freeN (l.map (·.c)) ((p.c.items.take k).foldl f L2) < n := fun k => by
      rw [hf]
      have := free_mono (g := l.map (·.c)) (s := L2) (t := (p.c.items.take k).foldl (reachF (l.map (·.c)) n) L2) (fun x hx => fold_sub _ n x _ _ hx)
      omega
    rw [← hf] at ih ⊢
    (first | refine wX ?_ | exact wZ)
    refine LoopN.intro (Nat × BSt) (fun ⟨k, o⟩ => k ≤ p.c.items.length ∧ o.ok ((p.c.items.take k).foldl f L2).length)
      (fun ⟨k, o⟩ => mkS Tryz.f68.ntmps 0 [(0, .c (.v (.slice a l.length ca))), (1, .c (.v (.int .i64 (i : Int)))), (2, .c (.v (.slice (at0 o.ob) ((p.c.items.take k).foldl f L2).length o.cap))), (7, .c (.v (.int .i64 (k : Int))))])
      (fun ⟨k, o⟩ => rdH (GrF a l) ((p.c.items.take k).foldl f L2) o ++ [.dead]) (fun ⟨k, _⟩ => p.c.items.length - k) [] rfl (fun ⟨_, _⟩ => rfl) (fun ⟨_, _⟩ => rfl) (fun ⟨_, _⟩ _ => okHB_eq rfl) ?_ ?_
    · refine ⟨(0, ⟨some wb, wc⟩), ⟨Nat.zero_le _, (fun h => by cases h), hwc2, fun h => by have : wc = 0 := h; omega⟩, ?_, wkE_refl _, wkE_refl _, trivial, trivial⟩
      (repeat' (first | exact trivial | refine And.intro (by with_reducible rfl) ?_ | (with_reducible exact wkC_refl _) | (with_reducible exact wkCs_refl _) | refine And.intro ?_ ?_))
      all_goals rfl
    rintro ⟨k, o⟩ ⟨hk3, hst⟩
    (first | refine wX ?_ | exact wZ)
    refine Nd.mk ⟨hsa, by omega, by omega⟩ ?_
    (first | refine wX ?_ | exact wZ)
    refine LdN.fld (.slice p.ia p.c.items.length p.ic) rfl (fun w hw => hw.2.1.1) (by rw [Int.toNat_natCast]; exact grC_get l i 4 (by decide) hp) ?_
    (first | refine wX ?_ | exact wZ)
    refine brd_dec (fun h1 => ?_) (fun h1 => ?_)
    · obtain ⟨x, hx⟩ : ∃ z, p.c.items[k]? = some z := ⟨_, List.getElem?_eq_getElem (by omega)⟩
      have hxa : p.ia.isSome = true := by
        cases hq : p.ia with
        | none => rw [hpo.ia hq] at hx; cases hx
        | some b => rfl
      (first | refine wX ?_ | exact wZ)
      refine Nd.mk ⟨hsa, by omega, by omega⟩ ?_
      (first | refine wX ?_ | exact wZ)
      refine LdN.fld (.slice p.ia p.c.items.length p.ic) rfl (fun w hw => hw.2.1.1) (by rw [Int.toNat_natCast]; exact grC_get l i 4 (by decide) hp) ?_
      (first | refine wX ?_ | exact wZ)
      refine Nd.mk ⟨hxa, by omega, by omega⟩ ?_
      (first | refine wX ?_ | exact wZ)
      refine LdN.one (.int .i64 x) rfl (fun w hw => (hw.2.1.2 p hpm).2) (by rw [Int.toNat_natCast]; show (iC p.c.items)[k * 1]? = _; rw [Nat.mul_one]; exact iC_get hx) ?_
      (first | refine wX ?_ | exact wZ)
      refine callG (ih ((p.c.items.take k).foldl f L2) o x (hitem x (List.mem_of_getElem? hx)) (hff k) (hfl k) hst) [0, 1] rfl ⟨rfl, rfl, trivial⟩ rfl fun o2 hst2 => ?_
      have hnx : f ((p.c.items.take k).foldl f L2) x = (p.c.items.take (k + 1)).foldl f L2 := (foldl_take hx).symm
      rw [hnx] at hst2 ⊢
      (first | refine wX ?_ | exact wZ)
      refine ⟨(k + 1, o2), ⟨by omega, hst2⟩, by show p.c.items.length - (k + 1) < p.c.items.length - k; omega, ?_, wkH_refl _⟩
      (repeat' (first | exact trivial | refine And.intro (by with_reducible rfl) ?_ | (with_reducible exact wkC_refl _) | (with_reducible exact wkCs_refl _) | refine And.intro ?_ ?_))
      all_goals first | rfl | exact av_int (by rw [wrap_i64 (by omega)]; omega)
    · have hkl : k = p.c.items.length := by omega
      subst hkl
      rw [List.take_length] at hst ⊢
      (first | refine wX ?_ | exact wZ)
      exact ⟨o, hst, rfl, wkE_refl _, wkE_refl _, trivial⟩
end Go.Proofs.YtahjbnfbilkbcaaGreatDoor

/-
  Contract: whether a circle is reached (document).
-/
namespace Go.Core
end Go.Core
namespace Go.Proofs.YtahjbnfbilkbcaaGreatDoor
open Go.AX Go.RowKit Go.Core
set_option maxRecDepth 20000

end Go.Proofs.YtahjbnfbilkbcaaGreatDoor

/-
  Contract: how deep (document).
-/
namespace Go.Core
/-- What is known already. -/
def KnD (g : List Cell) (S : List Int) : Prop := S.length = g.length ∧ ∀ (j : Nat) (v : Int), S[j]? = some v → v = 0 ∨ (v = (dep g (j : Int) : Int) ∧ 0 < v)
theorem KnD.none (g : List Cell) : KnD g (List.replicate g.length 0) := ⟨by simp, fun j v h => by
  rw [List.getElem?_replicate] at h
  split at h
  · exact .inl (Option.some.inj h).symm
  · cases h⟩
theorem KnD.put {g : List Cell} {S : List Int} (h : KnD g S) {i : Nat} (hp : 0 < dep g (i : Int)) : KnD g (S.set i (dep g (i : Int) : Int)) := by
  refine ⟨by rw [List.length_set, h.1], fun j v hj => ?_⟩
  by_cases e : i = j
  · subst e
    rw [List.getElem?_set] at hj
    simp only [if_true] at hj
    split at hj
    · cases hj; exact .inr ⟨rfl, by omega⟩
    · cases hj
  · rw [List.getElem?_set_ne e] at hj
    exact h.2 j v hj
end Go.Core
namespace Go.Proofs.YtahjbnfbilkbcaaGreatDoor
open Go.AX Go.RowKit Go.Core
set_option maxRecDepth 20000

end Go.Proofs.YtahjbnfbilkbcaaGreatDoor

/-
  Contracts: Reach, Circular, Depth (document); CoreReaches (law).
-/
namespace Go.Proofs.YtahjbnfbilkbcaaGreatDoor
open Go.AX Go.RowKit Go.Core
set_option maxRecDepth 20000

end Go.Proofs.YtahjbnfbilkbcaaGreatDoor

/-
  Contract: own, copied, Copy (document), with memory of the caller's own.
-/
namespace Go.Proofs.YtahjbnfbilkbcaaGreatDoor
open Go.AX Go.RowKit Go.Core
set_option maxRecDepth 20000

set_option maxHeartbeats 4000000 in
theorem own_o (p : CellP) (hpo : CellOk p) (hnl : p.c.names.length ≤ 2000) (hil : p.c.items.length ≤ 2000) : SpecH Tryz.prog 79 (pvs [cellV p]) [.fact (CellF p)] (RetG (ι := Nat × Nat × Nat × Nat) (fun o => p.c.names.length ≤ o.2.1 ∧ p.c.items.length ≤ o.2.2.2) (fun o => cellV ⟨p.c, some ⟨o.1, 0, none⟩, o.2.1, some ⟨o.2.2.1, 0, none⟩, o.2.2.2⟩) (fun o => [.dead, .dead, .dead, .app 9 1 (strC p.c.names) (some ⟨o.1, 0, none⟩) p.c.names.length o.2.1, .app 3 1 (iC p.c.items) (some ⟨o.2.2.1, 0, none⟩) p.c.items.length o.2.2.2])) := by
  refine ownC hm Tryz.func79 (by kernel_rfl) rfl rfl (fun _ _ => okHB_eq rfl) (fun _ _ => by show 1 ≤ 5; decide) ?_
  ((conv => whnf); (repeat ((first | refine VrN.norm (wrap_i64 (by omega)) ?_ | refine VrN.keep ?_ | refine DrawN.calm (by decide +kernel) ?_ | refine Nd.mk (by decide +kernel) ?_ | refine Nd.mk (by omega) ?_ | refine RdN.intro _ rfl (by rfl) ?_); (conv => whnf))))
  refine BoxN.known (cellC p) rfl fun cb => ?_
  ((conv => whnf); (repeat ((first | refine VrN.norm (wrap_i64 (by omega)) ?_ | refine VrN.keep ?_ | refine DrawN.calm (by decide +kernel) ?_ | refine Nd.mk (by decide +kernel) ?_ | refine Nd.mk (by omega) ?_ | refine RdN.intro _ rfl (by rfl) ?_); (conv => whnf))))
  refine BoxN.own ?_
  ((conv => whnf); (repeat ((first | refine VrN.norm (wrap_i64 (by omega)) ?_ | refine VrN.keep ?_ | refine DrawN.calm (by decide +kernel) ?_ | refine Nd.mk (by decide +kernel) ?_ | refine Nd.mk (by omega) ?_ | refine RdN.intro _ rfl (by rfl) ?_); (conv => whnf))))
  refine RwN.known [] rfl fun nb => ?_
  ((conv => whnf); (repeat ((first | refine VrN.norm (wrap_i64 (by omega)) ?_ | refine VrN.keep ?_ | refine DrawN.calm (by decide +kernel) ?_ | refine Nd.mk (by decide +kernel) ?_ | refine Nd.mk (by omega) ?_ | refine RdN.intro _ rfl (by rfl) ?_); (conv => whnf))))
  refine LdN.one (a := some ⟨cb, 0, none⟩) (q := 3) (.slice p.na p.c.names.length p.nc) rfl (fun w hw => hw.2.1) rfl ?_
  ((conv => whnf); (repeat ((first | refine VrN.norm (wrap_i64 (by omega)) ?_ | refine VrN.keep ?_ | refine DrawN.calm (by decide +kernel) ?_ | refine Nd.mk (by decide +kernel) ?_ | refine Nd.mk (by omega) ?_ | refine RdN.intro _ rfl (by rfl) ?_); (conv => whnf))))
  refine app_any 3 [] (strC p.c.names) rfl (Nat.le_refl _) (fun h => by cases hq : p.na with | none => rw [hpo.na hq] at h; cases h | some b => rfl) (by show (strC p.c.names).length = p.c.names.length * 1; simp [strC]) (fun u hu => by obtain ⟨x, _, rfl⟩ := List.mem_map.1 hu; rfl) (fun w hw j v hv => hw.1.1.cell hv) ⟨⟨by show (0 + p.c.names.length) * 16 ≤ _; omega, by omega⟩, Nat.one_ne_zero⟩ fun nb2 nc2 hnc2 => ?_
  rw [Nat.zero_add, List.nil_append]
  ((conv => whnf); (repeat ((first | refine VrN.norm (wrap_i64 (by omega)) ?_ | refine VrN.keep ?_ | refine DrawN.calm (by decide +kernel) ?_ | refine Nd.mk (by decide +kernel) ?_ | refine Nd.mk (by omega) ?_ | refine RdN.intro _ rfl (by rfl) ?_); (conv => whnf))))
  refine EffW.appTo (i := 1) (q := 3) (ys := [.slice (some ⟨nb2, 0, none⟩) p.c.names.length nc2]) (cellC ⟨p.c, some ⟨nb2, 0, none⟩, nc2, p.ia, p.ic⟩) 5 rfl rfl rfl rfl rfl rfl rfl (Nat.le_of_ble_eq_true rfl) rfl rfl ?_
  ((conv => whnf); (repeat ((first | refine VrN.norm (wrap_i64 (by omega)) ?_ | refine VrN.keep ?_ | refine DrawN.calm (by decide +kernel) ?_ | refine Nd.mk (by decide +kernel) ?_ | refine Nd.mk (by omega) ?_ | refine RdN.intro _ rfl (by rfl) ?_); (conv => whnf))))
  refine RwN.known [] rfl fun ib => ?_
  ((conv => whnf); (repeat ((first | refine VrN.norm (wrap_i64 (by omega)) ?_ | refine VrN.keep ?_ | refine DrawN.calm (by decide +kernel) ?_ | refine Nd.mk (by decide +kernel) ?_ | refine Nd.mk (by omega) ?_ | refine RdN.intro _ rfl (by rfl) ?_); (conv => whnf))))
  refine LdN.one (a := some ⟨cb, 0, none⟩) (q := 4) (.slice p.ia p.c.items.length p.ic) rfl (fun w hw => hw.2.1) rfl ?_
  ((conv => whnf); (repeat ((first | refine VrN.norm (wrap_i64 (by omega)) ?_ | refine VrN.keep ?_ | refine DrawN.calm (by decide +kernel) ?_ | refine Nd.mk (by decide +kernel) ?_ | refine Nd.mk (by omega) ?_ | refine RdN.intro _ rfl (by rfl) ?_); (conv => whnf))))
  refine app_any 4 [] (iC p.c.items) rfl (Nat.le_refl _) (fun h => by cases hq : p.ia with | none => rw [hpo.ia hq] at h; cases h | some b => rfl) (by show (iC p.c.items).length = p.c.items.length * 1; simp [iC]) (fun u hu => by obtain ⟨x, _, rfl⟩ := List.mem_map.1 hu; rfl) (fun w hw j v hv => hw.1.2.cell hv) ⟨⟨by show (0 + p.c.items.length) * 8 ≤ _; omega, by omega⟩, Nat.one_ne_zero⟩ fun ib2 ic2 hic2 => ?_
  rw [Nat.zero_add, List.nil_append]
  ((conv => whnf); (repeat ((first | refine VrN.norm (wrap_i64 (by omega)) ?_ | refine VrN.keep ?_ | refine DrawN.calm (by decide +kernel) ?_ | refine Nd.mk (by decide +kernel) ?_ | refine Nd.mk (by omega) ?_ | refine RdN.intro _ rfl (by rfl) ?_); (conv => whnf))))
  refine EffW.appTo (i := 1) (q := 4) (ys := [.slice (some ⟨ib2, 0, none⟩) p.c.items.length ic2]) (cellC ⟨p.c, some ⟨nb2, 0, none⟩, nc2, some ⟨ib2, 0, none⟩, ic2⟩) 5 rfl rfl rfl rfl rfl rfl rfl (Nat.le_of_ble_eq_true rfl) rfl rfl ?_
  ((conv => whnf); (repeat ((first | refine VrN.norm (wrap_i64 (by omega)) ?_ | refine VrN.keep ?_ | refine DrawN.calm (by decide +kernel) ?_ | refine Nd.mk (by decide +kernel) ?_ | refine Nd.mk (by omega) ?_ | refine RdN.intro _ rfl (by rfl) ?_); (conv => whnf))))
  refine LdN.agg (a := some ⟨cb, 0, none⟩) (q := 0) (cellC ⟨p.c, some ⟨nb2, 0, none⟩, nc2, some ⟨ib2, 0, none⟩, ic2⟩) rfl (fun w hw => hw.2.1) rfl (fun q hq => by rw [Nat.zero_add]) ?_
  ((conv => whnf); (repeat ((first | refine VrN.norm (wrap_i64 (by omega)) ?_ | refine VrN.keep ?_ | refine DrawN.calm (by decide +kernel) ?_ | refine Nd.mk (by decide +kernel) ?_ | refine Nd.mk (by omega) ?_ | refine RdN.intro _ rfl (by rfl) ?_); (conv => whnf))))
  exact ⟨(nb2, nc2, ib2, ic2), ⟨by show p.c.names.length ≤ nc2; omega, by show p.c.items.length ≤ ic2; omega⟩, rfl, trivial, trivial, trivial, wkE_refl _, wkE_refl _, trivial⟩
/-- The places of the first cells are noted. -/
def okP (n : Nat) (L : List Int) (j : Nat) (P : List Int) : Prop := P.length = n ∧ ∀ x ∈ L.take j, P[x.toNat]? = some (place L x)
set_option maxHeartbeats 4000000 in
theorem copied_o (a : Option Addr) (ca : Nat) (l : List CellP) (ha : a = none → l = []) (hs : Small l) (h500 : l.length ≤ 500) (hok : ∀ p ∈ l, CellOk p) (hg : InG (l.map (·.c))) (i0 : Int) (hi0 : InI (l.map (·.c)) i0) : SpecH Tryz.prog 61 (pvs [.slice a l.length ca, .int .i64 i0]) [.fact (GrF a l)] (RetG (MInv (takenS (l.map (·.c)) (reachL (l.map (·.c)) i0))) (fun st => .slice st.oa st.m.length st.oc) (fun st => .dead :: .dead :: .dead :: ownN 73 st)) := by
  have hs0 := hs
  obtain ⟨hl, hsm⟩ := hs
  refine ownC hm Tryz.func61 (by kernel_rfl) rfl rfl (fun _ _ => okHB_eq rfl) (fun _ _ => by show 1 ≤ 5; decide) ?_
  (first | refine wX ?_ | exact wZ)
  have hfr := free_le (l.map (·.c)) []
  have hgl : (l.map (·.c)).length = l.length := by simp
  refine SpecH.pad [.app 3 1 [] none 0 0] rfl ?_
  refine callG (reached_c a ca l ha hs0 hok hg ((l.map (·.c)).length + 1) [] ⟨none, 0⟩ i0 hi0 (by omega) (by simp only [List.length_nil]; omega) ⟨fun _ => ⟨rfl, rfl⟩, Nat.le_refl _, fun _ => rfl⟩) [1, 0] rfl ⟨rfl, rfl, trivial⟩ rfl fun o ho => ?_
  obtain ⟨rb, rc⟩ := o
  rw [show reachF (l.map (·.c)) ((l.map (·.c)).length + 1) [] i0 = reachL (l.map (·.c)) i0 from rfl] at ho ⊢
  obtain ⟨L, hL⟩ : ∃ L, L = reachL (l.map (·.c)) i0 := ⟨_, rfl⟩
  have hLn : L.Nodup := by rw [hL]; exact reach_nodup _ _ _ List.nodup_nil
  have hLi : ∀ x, x ∈ L ↔ To (l.map (·.c)) i0 x := fun x => by rw [hL]; exact reach_iff hg (Nat.lt_succ_self _) hi0 x
  have hLl : L.length ≤ l.length := by
    have h1 := reach_len hg ((l.map (·.c)).length + 1) [] i0 hi0
    rw [hL]
    unfold reachL
    simp only [List.length_nil] at h1
    omega
  rw [← hL] at ho ⊢
  clear hL
  have hLc : ∀ x ∈ L, ∀ y ∈ outs (l.map (·.c)) x, y ∈ L := fun x hx y hy => (hLi y).2 (((hLi x).1 hx).trans (.step hy (.refl y)))
  have hLg : ∀ x ∈ L, InI (l.map (·.c)) x := fun x hx => to_in hg hi0 ((hLi x).1 hx)
  clear hLi
  (first | refine wX ?_ | exact wZ)
  refine EffW.mkRow (e := 3) l.length (iC (List.replicate l.length 0)) rfl (by kernel_rfl) rfl rfl rfl rfl rfl rfl ⟨by omega, by decide⟩ (by unfold iC; rw [List.map_replicate]) fun kb => ?_
  (first | refine wX ?_ | exact wZ)
  refine LoopN.intro (Nat × List Int) (fun ⟨j, P⟩ => j ≤ L.length ∧ okP l.length L j P)
    (fun ⟨j, _⟩ => mkS Tryz.f61.ntmps 0 [(0, .c (.v (.slice a l.length ca))), (5, .c (.v (.slice (at0 rb) L.length rc))), (6, .c (.v (.slice (some ⟨kb, 0, none⟩) l.length l.length))), (7, .c (.v (.int .i64 (j : Int))))])
    (fun ⟨_, P⟩ => [.fact (GrF a l), .app 3 1 (iC L) (at0 rb) L.length rc, .app 3 1 (iC P) (some ⟨kb, 0, none⟩) l.length l.length]) (fun ⟨j, _⟩ => L.length - j) [] rfl (fun ⟨_, _⟩ => rfl) (fun ⟨_, _⟩ => rfl) (fun ⟨_, _⟩ _ => okHB_eq rfl) ?_ ?_
  · refine ⟨(0, List.replicate l.length 0), ⟨Nat.zero_le _, by simp, fun x h => by cases h⟩, ?_, wkE_refl _, wkE_refl _, wkE_refl _, trivial⟩
    (repeat' (first | exact trivial | refine And.intro (by with_reducible rfl) ?_ | (with_reducible exact wkC_refl _) | (with_reducible exact wkCs_refl _) | refine And.intro ?_ ?_))
    all_goals rfl
  rintro ⟨j, P⟩ ⟨hj, hPl, hP⟩
  have hrs : ∀ {x : Int}, x ∈ L → (at0 rb).isSome = true := fun {x} h => by
    cases rb with
    | none => rw [List.eq_nil_of_length_eq_zero (ho.1 rfl).1] at h; cases h
    | some b => rfl
  (first | refine wX ?_ | exact wZ)
  refine brd_dec (fun h1 => ?_) (fun h1 => ?_)
  · obtain ⟨x, hx⟩ : ∃ x, L[j]? = some x := ⟨_, List.getElem?_eq_getElem (by omega)⟩
    have hxL := List.mem_of_getElem? hx
    have hra2 := hrs hxL
    have hxi := hLg x hxL
    have hx2 : x < (l.length : Int) := by have := hxi.2; rw [hgl] at this; exact this
    have hx1 := hxi.1
    (first | refine wX ?_ | exact wZ)
    refine Nd.mk ⟨hra2, by omega, by omega⟩ ?_
    (first | refine wX ?_ | exact wZ)
    refine LdN.one (.int .i64 x) rfl (fun w hw => hw.2.1) (by rw [Int.toNat_natCast]; show (iC L)[j * 1]? = _; rw [Nat.mul_one]; exact iC_get hx) ?_
    (first | refine wX ?_ | exact wZ)
    refine Nd.mk ⟨rfl, by omega, by omega⟩ ?_
    (first | refine wX ?_ | exact wZ)
    have hq1 : x.toNat + 1 ≤ l.length * 1 := by omega
    have hq2 : x.toNat < (iC P).length := by unfold iC; rw [List.length_map, hPl]; omega
    have hset : (iC P).set x.toNat (.int .i64 (j : Int)) = iC (P.set x.toNat (j : Int)) := by
      unfold iC
      rw [List.map_set]
    refine EffW.appTo (i := 2) (q := x.toNat) (ys := [.int .i64 (j : Int)]) (iC (P.set x.toNat (j : Int))) 1 rfl ?_ rfl rfl rfl rfl rfl hq1 (by rw [put_set _ hq2]; exact hset) rfl ?_
    · show AV.c (CV.v (Value.pointer (some ((⟨kb, 0, none⟩ : Addr).add (x.toNat * 1))))) = _
      rw [Nat.mul_one]
      exact congrArg (fun x => AV.c (CV.v (Value.pointer (some x)))) (add_lit0 kb x.toNat)
    (first | refine wX ?_ | exact wZ)
    refine ⟨(j + 1, P.set x.toNat (j : Int)), ⟨by omega, by rw [List.length_set]; exact hPl, fun y hy => ?_⟩, by show L.length - (j + 1) < L.length - j; omega, ?_, wkE_refl _, wkE_refl _, wkE_refl _, trivial⟩
    · rw [List.take_add_one, hx] at hy
      by_cases hxy : y = x
      · rw [hxy, List.getElem?_set_self (by omega), place_at hLn hx]
      · have hyL : y ∈ L.take j := by
          rcases List.mem_append.1 hy with hy | hy
          · exact hy
          · exact absurd (List.mem_singleton.1 hy) hxy
        have hyi := hLg y (List.mem_of_mem_take hyL)
        rw [List.getElem?_set_ne (fun e => hxy (by have := hyi.1; omega))]
        exact hP y hyL
    · (repeat' (first | exact trivial | refine And.intro (by with_reducible rfl) ?_ | (with_reducible exact wkC_refl _) | (with_reducible exact wkCs_refl _) | refine And.intro ?_ ?_))
      all_goals first | rfl | exact av_int (by rw [wrap_i64 (by omega)]; omega)
  · have hjl : j = L.length := by omega
    subst hjl
    rw [List.take_length] at hP
    (first | refine wX ?_ | exact wZ)
    refine LoopN.introS DSt (fun ⟨j, oa, oc, m⟩ => j ≤ L.length ∧ (oa = none → m = []) ∧ m.map (·.c) = (L.take j).map (fun k => reNum (place L) (at_ (l.map (·.c)) k)) ∧ (∀ p ∈ m, CellOk p) ∧ (∀ p ∈ m, OwnP p) ∧ m.length ≤ oc)
      (fun ⟨j, oa, oc, m⟩ => mkS Tryz.f61.ntmps 0 [(0, .c (.v (.slice a l.length ca))), (5, .c (.v (.slice (at0 rb) L.length rc))), (6, .c (.v (.slice (some ⟨kb, 0, none⟩) l.length l.length))), (8, .c (.v (.slice oa m.length oc))), (9, .c (.v (.int .i64 (j : Int))))])
      (fun ⟨_, oa, oc, m⟩ => [.fact (GrF a l), .app 3 1 (iC L) (at0 rb) L.length rc, .app 3 1 (iC P) (some ⟨kb, 0, none⟩) l.length l.length, .app 73 5 (grC m) oa m.length oc, famE (rowsG m)]) (fun ⟨j, _, _, _⟩ => L.length - j) [.app 73 5 [] none 0 0, .dead] rfl (fun _ => rfl) (fun _ => rfl) (fun _ _ => ⟨trivial, trivial, trivial, trivial, trivial, trivial⟩) ?_ ?_
    · refine ⟨⟨0, none, 0, []⟩, ⟨Nat.zero_le _, fun _ => rfl, rfl, (fun p h => by cases h), (fun p h => by cases h), Nat.le_refl _⟩, ?_, _, (famNew 4 rfl).s, wkE_refl _, wkE_refl _, wkE_refl _, wkE_refl _, wkE_refl _, trivial⟩
      (repeat' (first | exact trivial | refine And.intro (by with_reducible rfl) ?_ | (with_reducible exact wkC_refl _) | (with_reducible exact wkCs_refl _) | refine And.intro ?_ ?_))
      all_goals rfl
    rintro ⟨j, oa, oc, m⟩ ⟨hj, hoa, hmc, hmo, hmw, hoc⟩
    have hml : m.length = j := by
      have := congrArg List.length hmc
      simp only [List.length_map, List.length_take] at this
      omega
    (first | refine wX ?_ | exact wZ)
    refine brd_dec (fun h1 => ?_) (fun h1 => ?_)
    · obtain ⟨x, hx⟩ : ∃ x, L[j]? = some x := ⟨_, List.getElem?_eq_getElem (by omega)⟩
      have hxL := List.mem_of_getElem? hx
      have hxi := hLg x hxL
      have hra2 := hrs hxL
      (first | refine wX ?_ | exact wZ)
      refine Nd.mk ⟨hra2, by omega, by omega⟩ ?_
      (first | refine wX ?_ | exact wZ)
      refine LdN.one (.int .i64 x) rfl (fun w hw => hw.2.1) (by rw [Int.toNat_natCast]; show (iC L)[j * 1]? = _; rw [Nat.mul_one]; exact iC_get hx) ?_
      obtain ⟨k, rfl⟩ : ∃ k : Nat, x = (k : Int) := ⟨x.toNat, by have := hxi.1; omega⟩
      have hkl : k < l.length := by have := hxi.2; rw [hgl] at this; omega
      obtain ⟨p, hp⟩ : ∃ p, l[k]? = some p := ⟨_, List.getElem?_eq_getElem hkl⟩
      have hat : at_ (l.map (·.c)) (k : Int) = p.c := at_map hp
      have hpm := List.mem_of_getElem? hp
      have hpo := hok p hpm
      obtain ⟨hnl, hil⟩ := hsm p hpm
      have hsa : a.isSome = true := by
        cases a with
        | none => rw [ha rfl] at hp; cases hp
        | some b => rfl
      (first | refine wX ?_ | exact wZ)
      refine Nd.mk ⟨hsa, by omega, by omega⟩ ?_
      (first | refine wX ?_ | exact wZ)
      refine LdN.agg (cellC p) rfl (fun w hw => hw.1.1) rfl (fun q hq => by rw [Int.toNat_natCast]; exact grC_get l k q hq hp) ?_
      (first | refine wX ?_ | exact wZ)
      refine factG (fun _ => rfl) (own_o p hpo hnl hil) ?_ ?_
      · exact fun w hw => hw.1.2 p hpm
      rintro ⟨nb, nc2, ib, ic2⟩ ⟨hnc, hic⟩
      (first | refine wX ?_ | exact wZ)
      refine LoopN.intro Nat (fun t => t ≤ p.c.items.length)
        (fun t => mkS Tryz.f61.ntmps 0 [(0, .c (.v (.slice a l.length ca))), (5, .c (.v (.slice (at0 rb) L.length rc))), (6, .c (.v (.slice (some ⟨kb, 0, none⟩) l.length l.length))), (8, .c (.v (.slice oa m.length oc))), (9, .c (.v (.int .i64 (j : Int)))), (10, .c (.lp 9 0)), (11, .c (.v (.int .i64 (t : Int))))])
        (fun t => [.fact (GrF a l), .app 3 1 (iC L) (at0 rb) L.length rc, .app 3 1 (iC P) (some ⟨kb, 0, none⟩) l.length l.length, .app 73 5 (grC m) oa m.length oc, famE (rowsG m), .dead, .dead, .app 9 1 (strC p.c.names) (some ⟨nb, 0, none⟩) p.c.names.length nc2, .app 3 1 (iC (mixI (place L) t p.c.items)) (some ⟨ib, 0, none⟩) p.c.items.length ic2, .blk 73 (vs (cellC ⟨p.c, some ⟨nb, 0, none⟩, nc2, some ⟨ib, 0, none⟩, ic2⟩))]) (fun t => p.c.items.length - t) [] rfl (fun _ => rfl) (fun _ => rfl) (fun _ _ => okHB_eq rfl) ?_ ?_
      · refine ⟨0, Nat.zero_le _, ?_, wkE_refl _, wkE_refl _, wkE_refl _, wkE_refl _, wkE_refl _, trivial, trivial, wkE_refl _, ?_, wkE_refl _, trivial⟩
        · (repeat' (first | exact trivial | refine And.intro (by with_reducible rfl) ?_ | (with_reducible exact wkC_refl _) | (with_reducible exact wkCs_refl _) | refine And.intro ?_ ?_))
          all_goals rfl
        · rw [mixI_zero]; exact wkE_refl _
      intro t ht
      (first | refine wX ?_ | exact wZ)
      refine brd_dec (fun h3 => ?_) (fun h3 => ?_)
      · have h3 : (t : Int) < (p.c.items.length : Int) := h3
        obtain ⟨y, hy⟩ : ∃ y, p.c.items[t]? = some y := ⟨_, List.getElem?_eq_getElem (by omega)⟩
        have hyL : y ∈ L := hLc (k : Int) hxL y (by unfold outs; rw [hat]; exact List.mem_of_getElem? hy)
        have hyi := hLg y hyL
        have hy2 : y < (l.length : Int) := by have := hyi.2; rw [hgl] at this; exact this
        have hy1 := hyi.1
        have hpy := hP y hyL
        have hms : mixI (place L) (t + 1) p.c.items = (mixI (place L) t p.c.items).set t (place L y) := by
          unfold mixI
          rw [← mix_set (f := place L) hy]
        have hset : (iC (mixI (place L) t p.c.items)).set t (.int .i64 (place L y)) = iC (mixI (place L) (t + 1) p.c.items) := by
          rw [hms]
          unfold iC
          rw [List.map_set]
        have hq1 : t + 1 ≤ p.c.items.length * 1 := by omega
        have hq2 : t < (iC (mixI (place L) t p.c.items)).length := by unfold iC; rw [List.length_map, mixI_len]; omega
        (first | refine wX ?_ | exact wZ)
        refine DrawN.plan [0, 2, 3, 4, 6] [(1, 1), (5, 1), (7, 1), (8, 1), (9, 1), (10, 1), (11, 1)] [(12, 0)] (by decide +kernel) ?_
        (first | refine wX ?_ | exact wZ)
        refine Nd.mk ⟨rfl, by omega, h3⟩ ?_
        (first | refine wX ?_ | exact wZ)
        refine LdN.one (.int .i64 y) rfl (fun w hw => hw.2.2.2.2.2.2.1) (by rw [Int.toNat_natCast]; show (iC (mixI (place L) t p.c.items))[t * 1]? = _; rw [Nat.mul_one]; exact iC_get (by unfold mixI; rw [mix_get (by omega)]; exact hy)) ?_
        (first | refine wX ?_ | exact wZ)
        refine Nd.mk ⟨rfl, by omega, by omega⟩ ?_
        (first | refine wX ?_ | exact wZ)
        refine LdN.one (.int .i64 (place L y)) rfl (fun w hw => hw.2.2.1) (by show (iC P)[y.toNat * 1]? = _; rw [Nat.mul_one]; exact iC_get hpy) ?_
        (first | refine wX ?_ | exact wZ)
        refine Nd.mk ⟨rfl, by omega, h3⟩ ?_
        (first | refine wX ?_ | exact wZ)
        refine EffW.appTo (i := 8) (q := t) (ys := [.int .i64 (place L y)]) (iC (mixI (place L) (t + 1) p.c.items)) 1 rfl ?_ rfl rfl rfl rfl rfl hq1 (by rw [put_set _ hq2]; exact hset) rfl ?_
        · rw [Int.toNat_natCast]
          show AV.c (CV.v (Value.pointer (some (((⟨ib, 0, none⟩ : Addr)).add (t * 1))))) = _
          rw [Nat.mul_one]
          exact congrArg (fun x => AV.c (CV.v (Value.pointer (some x)))) (add_lit0 ib t)
        (first | refine wX ?_ | exact wZ)
        refine ⟨t + 1, by omega, by omega, ?_, wkE_refl _, wkE_refl _, wkE_refl _, wkE_refl _, wkE_refl _, trivial, trivial, wkE_refl _, wkE_refl _, wkE_refl _, trivial⟩
        (repeat' (first | exact trivial | refine And.intro (by with_reducible rfl) ?_ | (with_reducible exact wkC_refl _) | (with_reducible exact wkCs_refl _) | refine And.intro ?_ ?_))
        all_goals first | rfl | exact av_int (by rw [wrap_i64 (by omega)]; omega)
      · have h3 : ¬ (t : Int) < (p.c.items.length : Int) := h3
        obtain rfl : t = p.c.items.length := by omega
        rw [mixI_all]
        (first | refine wX ?_ | exact wZ)
        refine Nd.mk ⟨Nat.le_refl 1, rfl, rfl⟩ ?_
        (conv => whnf)
        have hnr : reNum (place L) p.c = { p.c with items := p.c.items.map (place L) } := rfl
        obtain ⟨q, hq⟩ : ∃ q : CellP, q = ⟨reNum (place L) p.c, some ⟨nb, 0, none⟩, nc2, some ⟨ib, 0, none⟩, ic2⟩ := ⟨_, rfl⟩
        have hcc : cellC ⟨p.c, some ⟨nb, 0, none⟩, nc2, some ⟨ib, 0, none⟩, ic2⟩ = cellC q := by
          rw [hq]
          unfold cellC reNum
          simp only [List.length_map]
        refine AppN.grow 3 (grC m) (cellC ⟨p.c, some ⟨nb, 0, none⟩, nc2, some ⟨ib, 0, none⟩, ic2⟩) rfl rfl ⟨Nat.le_refl 1, ⟨by show (m.length + 1) * 80 ≤ _; omega, by omega⟩, by decide⟩ fun ob2 oc2 hoc2 _ => ?_
        (first | refine wX ?_ | exact wZ)
        have hm2 : m.length + 1 = (m ++ [q]).length := by simp
        have hg2 := grC_snoc m q
        have hrw := rowsG_snoc m q
        rw [show rowsP q = [⟨9, 1, p.c.names.length, strC p.c.names, nb, nc2⟩] ++ [⟨3, 1, p.c.items.length, iC (p.c.items.map (place L)), ib, ic2⟩] by rw [hq]; unfold rowsP reNum; simp only [List.length_map], ← List.append_assoc] at hrw
        rw [hcc, ← hg2, hm2]
        refine ⟨⟨j + 1, some ⟨ob2, 0, none⟩, oc2, m ++ [q]⟩, ⟨by omega, (fun h => by cases h), ?_, ?_, ?_, by omega⟩, by show L.length - (j + 1) < L.length - j; omega, ?_, _, ((famPut 4 7 rfl rfl rfl (List.perm_append_singleton _ _).symm).trans (famPut 4 8 rfl rfl rfl (List.perm_append_singleton _ _).symm)).s, wkE_refl _, wkE_refl _, wkE_refl _, wkE_refl _, ?_, trivial⟩
        · rw [List.take_add_one, hx, List.map_append, hmc, List.map_append]
          show _ ++ [q.c] = _ ++ [reNum (place L) (at_ (l.map (·.c)) (k : Int))]
          rw [hat, hq]
        · intro r hr
          rcases List.mem_append.1 hr with hr | hr
          · exact hmo r hr
          · rw [List.mem_singleton.1 hr, hq]
            exact ⟨(fun h => by cases h), (fun h => by cases h), hpo.nl, by show (reNum (place L) p.c).items.length ≤ _; rw [hnr]; simp only [List.length_map]; omega, hpo.nw, hpo.tl, hnc, by show (reNum (place L) p.c).items.length ≤ ic2; rw [hnr]; simp only [List.length_map]; exact hic⟩
        · intro r hr
          rcases List.mem_append.1 hr with hr | hr
          · exact hmw r hr
          · rw [List.mem_singleton.1 hr, hq]
            exact ⟨fun ad h => by cases h; rfl, fun ad h => by cases h; rfl⟩
        · (repeat' (first | exact trivial | refine And.intro (by with_reducible rfl) ?_ | (with_reducible exact wkC_refl _) | (with_reducible exact wkCs_refl _) | refine And.intro ?_ ?_))
          all_goals first | rfl | exact av_int (by rw [wrap_i64 (by omega)]; omega)
        · rw [hrw]; exact wkE_refl _
    · obtain rfl : j = L.length := by omega
      rw [List.take_length] at hmc
      (first | refine wX ?_ | exact wZ)
      exact ⟨⟨0, oa, oc, m⟩, ⟨hoa, hmc, hmo, hmw, hoc⟩, rfl, trivial, trivial, trivial, wkE_refl _, wkE_refl _, trivial⟩
end Go.Proofs.YtahjbnfbilkbcaaGreatDoor

/-
  Contract: Copy (document), with memory of the caller's own.
-/
namespace Go.Proofs.YtahjbnfbilkbcaaGreatDoor
open Go.AX Go.RowKit Go.Core
set_option maxRecDepth 20000

set_option maxHeartbeats 4000000 in
theorem RCopy_o {a : Option Addr} (ca : Nat) {l : List CellP} (ha : a = none → l = []) (hs : Small l) (hok : ∀ p ∈ l, CellOk p) (u : Int) :
    ∃ e : Bool, (e = true ↔ AskP (l.map (·.c)) [u]) ∧ SpecH Tryz.prog 30 (pvs [.slice a l.length ca, .int .i64 u]) [.fact (GrF a l)] (RetG (MInv (copyL e (l.map (·.c)) u)) (fun st => .tuple #[.slice st.oa st.m.length st.oc, errI e]) (fun st => .dead :: .dead :: .dead :: ownN 73 st)) := by
  obtain ⟨e, he⟩ := ask_bool (l.map (·.c)) [u]
  refine ⟨e, he, ?_⟩
  have hl := hs.1
  cases e with
  | false =>
    refine SpecH.pad [.dead, .dead, .app 73 5 [] none 0 0, .dead] rfl ?_
    refine SpecH.turnS (famNew 4 rfl).s ?_
    refine ownC hm Tryz.func30 (by kernel_rfl) rfl rfl (fun _ _ => okHB_eq rfl) (fun _ _ => by show 5 ≤ 5; decide) ?_
    (first | refine wX ?_ | exact wZ)
    obtain ⟨t, ht1, ht2⟩ := RIs_c a ca l ha (by omega) hok u [.fact (GrF a l), .dead, .dead, .app 73 5 [] none 0 0, famE []] (fun w hw => hw.1)
    obtain rfl : t = false := by
      rw [Bool.eq_false_iff]
      exact fun h => by
        have := he.2 (ht1.1 h)
        cases this
    refine call1 ht2 ?_
    (first | refine wX ?_ | exact wZ)
    exact ⟨⟨0, none, 0, []⟩, ⟨fun _ => rfl, rfl, (fun p h => by cases h), (fun p h => by cases h), Nat.le_refl _⟩, rfl, trivial, trivial, trivial, wkE_refl _, wkE_refl _, trivial⟩
  | true =>
    have hask := he.1 rfl
    have hin := valid_in hask.1
    refine ownC hm Tryz.func30 (by kernel_rfl) rfl rfl (fun _ _ => okHB_eq rfl) (fun _ _ => by show 1 ≤ 5; decide) ?_
    (first | refine wX ?_ | exact wZ)
    obtain ⟨t, ht1, ht2⟩ := RIs_c a ca l ha (by omega) hok u [.fact (GrF a l)] (fun w hw => hw.1)
    obtain rfl : t = true := ht1.2 hask
    refine call1 ht2 ?_
    (first | refine wX ?_ | exact wZ)
    refine factG (fun _ => rfl) (copied_o a ca l ha hs (by have := hask.1.1; simpa using this) hok hin u (hask.2 u (by simp))) ?_ ?_
    · exact fun w hw => hw.1
    intro st hinv
    (first | refine wX ?_ | exact wZ)
    exact ⟨st, hinv, rfl, trivial, trivial, trivial, wkE_refl _, wkE_refl _, trivial⟩
end Go.Proofs.YtahjbnfbilkbcaaGreatDoor

/-
  Plain: the text of an array is that of its items.
-/
namespace Go.Core
theorem text_full (lf : Cell → List UInt8) (g : List Cell) (u : Int) : Go.Proofs.YtahjbnfbilkbcaaGreatDoor.textP lf g u = (fullL lf g u).take 20000 := by
  unfold Go.Proofs.YtahjbnfbilkbcaaGreatDoor.textP fullL
  have h := write_full (M := 20000) (leafT := lf) (g := g) (g.length + 2) [] [] u
  rw [h, List.nil_append]
end Go.Core

/-
  Plain: a copy is valid, begins with the cell that was asked for, is the copy of itself, and writes the same text.
-/
namespace Go.Core
open Go.Proofs.YtahjbnfbilkbcaaGreatDoor
theorem reachL_head {g : List Cell} (u : Int) : (reachL g u)[0]? = some u := by
  unfold reachL reachF
  rw [if_neg (by simp), List.nil_append]
  have h : ∀ (n : Nat) (ks l : List Int), ∃ r, ks.foldl (reachF g n) l = l ++ r := by
    intro n ks
    induction ks with
    | nil => exact fun l => ⟨[], by simp⟩
    | cons k ks ih =>
      intro l
      obtain ⟨r, hr⟩ := reach_pre (g := g) n l k
      obtain ⟨r2, hr2⟩ := ih (reachF g n l k)
      exact ⟨r ++ r2, by rw [List.foldl_cons, hr2, hr, List.append_assoc]⟩
  obtain ⟨r, hr⟩ := h g.length (outs g u) [u]
  rw [hr]
  rfl
structure CopyP (g : List Cell) (u : Int) (t : List Cell) : Prop where
  valid : ValidP t
  zero : InI t 0
  twice : takenS t (reachL t 0) = t
  text : ∀ lf : Cell → List UInt8, (∀ c d : Cell, c.kind = d.kind → c.num = d.num → c.text = d.text → lf c = lf d) → textP lf t 0 = textP lf g u
theorem reachL_facts {g : List Cell} (hg : InG g) {u : Int} (hu : InI g u) : (reachL g u).Nodup ∧ (∀ i ∈ reachL g u, ∀ k ∈ outs g i, k ∈ reachL g u) ∧ (∀ i ∈ reachL g u, InI g i) ∧ (reachL g u).length ≤ g.length ∧ u ∈ reachL g u ∧ place (reachL g u) u = 0 := by
  have hLi : ∀ x, x ∈ reachL g u ↔ To g u x := fun x => reach_iff hg (Nat.lt_succ_self _) hu x
  have hn : (reachL g u).Nodup := reach_nodup _ _ _ List.nodup_nil
  refine ⟨hn, fun x hx y hy => (hLi y).2 (((hLi x).1 hx).trans (.step hy (.refl y))), fun x hx => Go.Core.to_in hg ((hLi x).1 hx) hu, ?_, (hLi u).2 (.refl u), ?_⟩
  · have h1 := reach_len hg (g.length + 1) [] u hu
    have h2 := free_le g []
    unfold reachL
    simp only [List.length_nil] at h1
    omega
  · exact place_at hn (reachL_head u)
theorem copyP {g : List Cell} (hv : ValidP g) {u : Int} (hu : InI g u) : CopyP g u (takenS g (reachL g u)) := by
  have hg := valid_in hv
  obtain ⟨hn, hc, hi, hl, hm, h0⟩ := reachL_facts hg hu
  have hvt : ValidP (takenS g (reachL g u)) := valid_taken hv hc hi (Nat.le_trans hl hv.1)
  have hz : InI (takenS g (reachL g u)) 0 := ⟨Int.le_refl 0, by
    have : 0 < (reachL g u).length := List.length_pos_of_mem hm
    unfold takenS
    rw [List.length_map]
    omega⟩
  have hemb := taken_emb (g := g) hc
  have hz2 : InI (takenS g (reachL g u)) (place (reachL g u) u) := by rw [h0]; exact hz
  refine ⟨hvt, hz, ?_, fun lf hlf => ?_⟩
  · have h := (emb_reachL hg (valid_in hvt) hemb hm hu hz2).1
    rw [h0] at h
    have h2 : reachL (takenS g (reachL g u)) 0 = (reachL g u).map (place (reachL g u)) := h
    rw [h2]
    exact taken_twice hn hc
  · have h := emb_text hlf hg (valid_in hvt) hemb hm hu hz2
    rw [h0] at h
    rw [text_full, text_full, h]
theorem leafS_eq (c d : Cell) (h1 : c.kind = d.kind) (h2 : c.num = d.num) (h3 : c.text = d.text) : leafS qL itL c = leafS qL itL d := by
  unfold leafS
  rw [h1, h2, h3]
end Go.Core

/-
  Contract: CoreCopies (law).
-/
namespace Go.Proofs.YtahjbnfbilkbcaaGreatDoor
open Go.AX Go.RowKit Go.Core
set_option maxRecDepth 20000

theorem small_len {l m : List CellP} (hs : Small l) (h : ∀ q ∈ m, ∃ p ∈ l, q.c.names.length = p.c.names.length ∧ q.c.items.length = p.c.items.length) (hl : m.length ≤ 2000) : Small m :=
  ⟨hl, fun q hq => by obtain ⟨p, hp, h1, h2⟩ := h q hq; rw [h1, h2]; exact hs.2 p hp⟩
/-- A copy is small. -/
theorem small_taken {l m : List CellP} (hs : Small l) {L : List Int} (hL : ∀ x ∈ L, InI (l.map (·.c)) x) (hn : L.length ≤ 2000) (h : m.map (·.c) = takenS (l.map (·.c)) L) : Small m := by
  have hlen : m.length = L.length := by
    have := congrArg List.length h
    unfold takenS at this
    simpa using this
  refine small_len hs (fun q hq => ?_) (by omega)
  have hc : q.c ∈ takenS (l.map (·.c)) L := h ▸ List.mem_map_of_mem hq
  obtain ⟨x, hx, hxe⟩ := List.mem_map.1 hc
  obtain ⟨p, hp, hpe⟩ := List.mem_map.1 (at_mem (hL x hx))
  refine ⟨p, hp, ?_, ?_⟩
  · rw [← hxe]; show (at_ (l.map (·.c)) x).names.length = _; rw [← hpe]
  · rw [← hxe]; show ((at_ (l.map (·.c)) x).items.map _).length = _; rw [List.length_map, ← hpe]
def setN (p : CellP) (ns : List (List UInt8)) : CellP := ⟨{ p.c with names := ns }, p.na, p.nc, p.ia, p.ic⟩
def mixT (f : List UInt8 → List UInt8) (k : Nat) (its : List (List UInt8)) : List (List UInt8) := (its.take k).map f ++ its.drop k
theorem mixT_len (f : List UInt8 → List UInt8) (k : Nat) (its : List (List UInt8)) : (mixT f k its).length = its.length := by
  unfold mixT
  rw [List.length_append, List.length_map, List.length_take, List.length_drop]
  omega
theorem mixT_zero (f : List UInt8 → List UInt8) (its : List (List UInt8)) : mixT f 0 its = its := by unfold mixT; simp
theorem mixT_all (f : List UInt8 → List UInt8) (its : List (List UInt8)) : mixT f its.length its = its.map f := by unfold mixT; simp
/-- All that a cell has is written over. -/
def wipeP (p : CellP) : CellP := setN (setI p (p.c.items.map fun _ => -1) p.ia p.ic) (p.c.names.map fun _ => [120])
set_option maxHeartbeats 8000000 in
theorem CoreCopies_c (a : Option Addr) (ca : Nat) (l : List CellP) (ha : a = none → l = []) (hl : l.length ≤ 200000000000000) (hok : ∀ p ∈ l, CellOk p) (u : Int) : ∀ H, (∀ w, Facts H w → gF a l TabF w) → SpecH Tryz.prog 8 (pvs [.slice a l.length ca, .int .i64 u]) H (Ret (.bool true) H) := by
  refine factC hm Tryz.func8 (by kernel_rfl) rfl rfl ?_
  (first | refine wX ?_ | exact wZ)
  refine call1 (large_c a ca l ha hl hok _ (fun w hw => hw.1.1)) ?_
  cases hlb : largeB l with
  | true =>
    (first | refine wX ?_ | exact wZ)
    refine call1 (sane_c _) ?_
    (first | refine wX ?_ | exact wZ)
  | false =>
    have hs := small_of hlb
    obtain ⟨e, he, hes⟩ := Copy_o ca ha hs hok u
    (first | refine wX ?_ | exact wZ)
    refine factG (fun _ => rfl) hes ?_ ?_
    · exact fun w hw => hw.1.1
    intro st hst
    (first | refine wX ?_ | exact wZ)
    refine SpecF.call (as_c a ca l ha hs hok) (fun w hw => hw.1.1) fun v1 G hv => ?_
    obtain ⟨ga, gc, gm, rfl, hga, hgc, hgo, hG⟩ := hv
    have hgs : Small gm := small_as hs hgc
    obtain ⟨e2, he2, hes2⟩ := RCopy_o gc hga hgs hgo u
    rw [hgc] at he2 hes2
    obtain rfl : e2 = e := by rw [Bool.eq_iff_iff, he, he2]
    (first | refine wX ?_ | exact wZ)
    refine factG (fun _ => rfl) hes2 ?_ ?_
    · exact fun w hw => hG w hw.2.2.2.1
    intro st2 hst2
    have hss : Small st.m := by
      cases e2 with
      | false => rw [List.map_eq_nil_iff.1 (hst.c : st.m.map (·.c) = [])]; exact ⟨Nat.zero_le _, fun p h => by cases h⟩
      | true =>
        have hask := he.1 rfl
        obtain ⟨_, _, h3, h4, _, _⟩ := reachL_facts (valid_in hask.1) (hask.2 u (by simp))
        have h500 := hask.1.1
        exact small_taken hs h3 (by omega) hst.c
    have h12 : st.m.map (·.c) = st2.m.map (·.c) := hst.c.trans hst2.c.symm
    have hml : st.m.length ≤ 200000000000000 := by have := hss.1; omega
    cases e2 with
    | false =>
      have hm0 : st.m = [] := List.map_eq_nil_iff.1 (hst.c : st.m.map (·.c) = [])
      (first | refine wX ?_ | exact wZ)
      refine factG (fun _ => rfl) (as_o st.oa st.oc st.m hst.oa hss hst.ok) ?_ ?_
      · exact fun w hw => hst.gr hw.2.1 hw.2.2.1
      intro st3 hst3
      (first | refine wX ?_ | exact wZ)
      refine call1 (Alike_c st3.oa st2.oa st3.oc st2.oc st3.m st2.m hst3.oa hst2.oa (by have := congrArg List.length hst3.c; simp only [List.length_map] at this; omega) hst3.ok hst2.ok (hst3.c.trans h12) _ (fun w hw => ⟨hst3.gr hw.2.2.2.2.2.2.1 hw.2.2.2.2.2.2.2.1, hst2.gr hw.2.2.2.2.1 hw.2.2.2.2.2.1⟩)) ?_
      (first | refine wX ?_ | exact wZ)
      rw [hm0]
      (first | refine wX ?_ | exact wZ)
      refine call1 (sane_c _) ?_
      (first | refine wX ?_ | exact wZ)
    | true =>
      (first | refine wX ?_ | exact wZ)
      refine factG (fun _ => rfl) (as_o st.oa st.oc st.m hst.oa hss hst.ok) ?_ ?_
      · exact fun w hw => hst.gr hw.2.1 hw.2.2.1
      intro st3 hst3
      (first | refine wX ?_ | exact wZ)
      refine call1 (Alike_c st3.oa st2.oa st3.oc st2.oc st3.m st2.m hst3.oa hst2.oa (by have := congrArg List.length hst3.c; simp only [List.length_map] at this; omega) hst3.ok hst2.ok (hst3.c.trans h12) _ (fun w hw => ⟨hst3.gr hw.2.2.2.2.2.2.1 hw.2.2.2.2.2.2.2.1, hst2.gr hw.2.2.2.2.1 hw.2.2.2.2.2.1⟩)) ?_
      (first | refine wX ?_ | exact wZ)
      have hask := he.1 rfl
      have hv := hask.1
      have hui := hask.2 u (by simp)
      have hcp := copyP hv hui
      have hstc : st.m.map (·.c) = takenS (l.map (·.c)) (reachL (l.map (·.c)) u) := hst.c
      have hst2c : st2.m.map (·.c) = takenS (l.map (·.c)) (reachL (l.map (·.c)) u) := hst2.c
      obtain ⟨t, ht⟩ : ∃ t, t = takenS (l.map (·.c)) (reachL (l.map (·.c)) u) := ⟨_, rfl⟩
      rw [← ht] at hcp hstc hst2c
      obtain ⟨e3, he3, hes3⟩ := Copy_o st.oc hst.oa hss hst.ok 0
      rw [hstc] at he3 hes3
      have ask0 : AskP t [0] := ⟨hcp.valid, fun x hx => by rw [List.mem_singleton.1 hx]; exact hcp.zero⟩
      obtain rfl : e3 = true := he3.2 ask0
      refine factG (fun _ => rfl) hes3 ?_ ?_
      · exact fun w hw => hst.gr hw.2.1 hw.2.2.1
      intro st4 hst4
      have hst4c : st4.m.map (·.c) = t := hst4.c.trans hcp.twice
      (first | refine wX ?_ | exact wZ)
      obtain ⟨e5, he5, hes5⟩ := Text_c (E := TabF) ca ha hs hok (envL ha hs hok) u [.fact (gF a l TabF), .dead, .dead, .dead, .app 42 5 (grC st.m) st.oa st.m.length st.oc, famE (rowsG st.m), .fact G, .dead, .dead, .app 73 5 (grC st2.m) st2.oa st2.m.length st2.oc, famE (rowsG st2.m), .app 73 5 (grC st3.m) st3.oa st3.m.length st3.oc, famE (rowsG st3.m), .dead, .dead, .dead, .app 42 5 (grC st4.m) st4.oa st4.m.length st4.oc, famE (rowsG st4.m)] (fun w hw => hw.1)
      obtain rfl : e5 = true := he5.2 hask
      rw [show (if true = true then textP (leafS qL itL) (l.map (·.c)) u else []) = textP (leafS qL itL) (l.map (·.c)) u from rfl] at hes5
      refine call1 hes5 ?_
      (first | refine wX ?_ | exact wZ)
      obtain ⟨e6, he6, hes6⟩ := Text_c (E := TabF) st.oc hst.oa hss hst.ok (envL hst.oa hss hst.ok) 0 [.fact (gF a l TabF), .dead, .dead, .dead, .app 42 5 (grC st.m) st.oa st.m.length st.oc, famE (rowsG st.m), .fact G, .dead, .dead, .app 73 5 (grC st2.m) st2.oa st2.m.length st2.oc, famE (rowsG st2.m), .app 73 5 (grC st3.m) st3.oa st3.m.length st3.oc, famE (rowsG st3.m), .dead, .dead, .dead, .app 42 5 (grC st4.m) st4.oa st4.m.length st4.oc, famE (rowsG st4.m)] (fun w hw => ⟨hst.gr hw.2.1 hw.2.2.1, hw.1.2⟩)
      rw [hstc] at he6 hes6
      obtain rfl : e6 = true := he6.2 ask0
      rw [show (if true = true then textP (leafS qL itL) t 0 else []) = textP (leafS qL itL) t 0 from rfl, hcp.text (leafS qL itL) leafS_eq] at hes6
      refine call1 hes6 ?_
      generalize textP (leafS qL itL) (l.map (·.c)) u = T at *
      (first | refine wX ?_ | exact wZ)
      rw [show ((bs T).data.toList == (bs T).data.toList) = true from beq_self_eq_true _]
      (first | refine wX ?_ | exact wZ)
      have hs4 : Small st4.m := small_as hss (hst4c.trans hstc.symm)
      refine factG (fun _ => rfl) (as_o st4.oa st4.oc st4.m hst4.oa hs4 hst4.ok) ?_ ?_
      · exact fun w hw => hst4.gr hw.2.2.2.2.2.2.2.2.1 hw.2.2.2.2.2.2.2.2.2.1
      intro st5 hst5
      (first | refine wX ?_ | exact wZ)
      refine call1 (Alike_c st5.oa st2.oa st5.oc st2.oc st5.m st2.m hst5.oa hst2.oa (by have := congrArg List.length hst5.c; have := hs4.1; simp only [List.length_map] at *; omega) hst5.ok hst2.ok (hst5.c.trans (hst4c.trans hst2c.symm)) _ (fun w hw => ⟨hst5.gr hw.2.2.2.2.2.2.2.2.2.2.1 hw.2.2.2.2.2.2.2.2.2.2.2.1, hst2.gr hw.2.2.2.2.1 hw.2.2.2.2.2.1⟩)) ?_
      (first | refine wX ?_ | exact wZ)
      refine SpecF.call (as_c a ca l ha hs hok) (fun w hw => hw.1.1) fun v6 G6 hv6 => ?_
      obtain ⟨wa, wc, wm, rfl, hwa, hwc, hwo, hG6⟩ := hv6
      have hwl : wm.length ≤ 200000000000000 := by have := congrArg List.length hwc; have := hs.1; simp only [List.length_map] at *; omega
      (first | refine wX ?_ | exact wZ)
      refine LoopN.introS Nat (fun i => i ≤ st.m.length) (fun i => mkS Tryz.f8.ntmps 0 [(0, .c (.v (.slice a l.length ca))), (5, .c (.v (.slice st.oa st.m.length st.oc))), (15, .c (.v (.slice wa wm.length wc))), (16, .c (.v (.int .i64 (i : Int))))])
        (fun i => [.fact (gF a l TabF), .dead, .dead, .dead, .app 42 5 (grC st.m) st.oa st.m.length st.oc, famE (rowsG (mxP wipeP i st.m)), .dead, .dead, .dead, .dead, .dead, .dead, .dead, .dead, .dead, .dead, .dead, .dead, .dead, .dead, .fact G6]) (fun i => st.m.length - i) [] rfl (fun _ => rfl) (fun _ => rfl) (fun _ _ => ⟨trivial, trivial, trivial, trivial, trivial, trivial, trivial, trivial, trivial, trivial, trivial, trivial, trivial, trivial, trivial, trivial, trivial, trivial, trivial, trivial, trivial, trivial⟩) ?_ ?_
      · refine ⟨0, Nat.zero_le _, ?_, _, turn_refl _, wkE_refl _, trivial, trivial, trivial, wkE_refl _, ?_, trivial, trivial, trivial, trivial, trivial, trivial, trivial, trivial, trivial, trivial, trivial, trivial, trivial, trivial, wkE_refl _, trivial⟩
        · (repeat' (first | exact trivial | refine And.intro (by with_reducible rfl) ?_ | (with_reducible exact wkC_refl _) | (with_reducible exact wkCs_refl _) | refine And.intro ?_ ?_))
          all_goals rfl
        · rw [mxP_zero]; exact wkE_refl _
      intro i hi
      (first | refine wX ?_ | exact wZ)
      refine brd_dec (fun h2 => ?_) (fun h2 => ?_)
      · have hin2 : i < st.m.length := by omega
        obtain ⟨p, hp⟩ : ∃ p, st.m[i]? = some p := ⟨_, List.getElem?_eq_getElem hin2⟩
        have hpm := List.mem_of_getElem? hp
        have hpo := hst.ok p hpm
        have hpw := hst.own p hpm
        have hsa : st.oa.isSome = true := by
          cases hq : st.oa with
          | none => rw [hst.oa hq] at hp; cases hp
          | some b => rfl
        have hil := hpo.il
        have hnl := hpo.nl
        have hsl := hss.1
        have hMl : i < (mxP wipeP i st.m).length := by rw [mxP_len]; exact hin2
        have hMp : (mxP wipeP i st.m)[i]? = some p := by unfold mxP; rw [mix_get hin2]; exact hp
        have hMs : (mxP wipeP i st.m).set i (wipeP p) = mxP wipeP (i + 1) st.m := mix_set hp
        have hM0 : (mxP wipeP i st.m).set i p = mxP wipeP i st.m := set_same hMp
        generalize mxP wipeP i st.m = M at *
        (first | refine wX ?_ | exact wZ)
        refine LoopN.introS Nat (fun k => k ≤ p.c.items.length) (fun k => mkS Tryz.f8.ntmps 0 [(0, .c (.v (.slice a l.length ca))), (5, .c (.v (.slice st.oa st.m.length st.oc))), (15, .c (.v (.slice wa wm.length wc))), (16, .c (.v (.int .i64 (i : Int)))), (17, .c (.v (.int .i64 (k : Int))))])
          (fun k => [.fact (gF a l TabF), .dead, .dead, .dead, .app 42 5 (grC st.m) st.oa st.m.length st.oc, famE (rowsG (M.set i (setI p (mixI (fun _ => -1) k p.c.items) p.ia p.ic))), .dead, .dead, .dead, .dead, .dead, .dead, .dead, .dead, .dead, .dead, .dead, .dead, .dead, .dead, .fact G6]) (fun k => p.c.items.length - k) [] rfl (fun _ => rfl) (fun _ => rfl) (fun _ _ => ⟨trivial, trivial, trivial, trivial, trivial, trivial, trivial, trivial, trivial, trivial, trivial, trivial, trivial, trivial, trivial, trivial, trivial, trivial, trivial, trivial, trivial, trivial⟩) ?_ ?_
        · refine ⟨0, Nat.zero_le _, ?_, _, turn_refl _, wkE_refl _, trivial, trivial, trivial, wkE_refl _, ?_, trivial, trivial, trivial, trivial, trivial, trivial, trivial, trivial, trivial, trivial, trivial, trivial, trivial, trivial, wkE_refl _, trivial⟩
          · (repeat' (first | exact trivial | refine And.intro (by with_reducible rfl) ?_ | (with_reducible exact wkC_refl _) | (with_reducible exact wkCs_refl _) | refine And.intro ?_ ?_))
            all_goals rfl
          · rw [mixI_zero, setI_self, hM0]; exact wkE_refl _
        intro k hk
        (first | refine wX ?_ | exact wZ)
        refine Nd.mk ⟨hsa, by omega, by omega⟩ ?_
        (first | refine wX ?_ | exact wZ)
        refine LdN.fld (.slice p.ia p.c.items.length p.ic) rfl (fun w hw => hw.2.1) (by rw [Int.toNat_natCast]; exact grC_get st.m i 4 (by decide) hp) ?_
        (first | refine wX ?_ | exact wZ)
        refine brd_dec (fun h3 => ?_) (fun h3 => ?_)
        · obtain ⟨y, hy⟩ : ∃ y, p.c.items[k]? = some y := ⟨_, List.getElem?_eq_getElem (by omega)⟩
          obtain ⟨ab, had⟩ : ∃ ab, p.ia = some ⟨ab, 0, none⟩ := by
            cases hq : p.ia with
            | none => rw [hpo.ia hq] at hy; cases hy
            | some ad => exact ⟨ad.block, by rw [← hpw.ia ad hq]⟩
          have hya : p.ia.isSome = true := by rw [had]; rfl
          have hset : (iC (mixI (fun _ => -1) k p.c.items)).set k (.int .i64 (-1)) = iC (mixI (fun _ => -1) (k + 1) p.c.items) := by
            unfold mixI iC
            rw [← List.map_set, mix_set (f := fun _ : Int => (-1 : Int)) hy]
          have hmll : (iC (mixI (fun _ => -1) k p.c.items)).length = p.c.items.length := by
            unfold iC
            rw [List.length_map, mixI_len]
          have hpk : ∀ k, (rowsG (M.set i (setI p (mixI (fun _ => -1) k p.c.items) p.ia p.ic))).Perm (⟨3, 1, p.c.items.length, iC (mixI (fun _ => -1) k p.c.items), ab, p.ic⟩ :: (rowsN p ++ restG M i)) := fun k => by
            have h := rowsG_items (m := M) (i := i) hMl (q := setI p (mixI (fun _ => -1) k p.c.items) p.ia p.ic) (ad := ⟨ab, 0, none⟩) had
            have e : (setI p (mixI (fun _ => -1) k p.c.items) p.ia p.ic).c.items.length = p.c.items.length := mixI_len _ _ _
            rw [e] at h
            exact h
          have hq1 : k + 1 ≤ p.c.items.length * 1 := by omega
          have hq2 : k < (iC (mixI (fun _ => -1) k p.c.items)).length := by omega
          (first | refine wX ?_ | exact wZ)
          refine Nd.mk ⟨hsa, by omega, by omega⟩ ?_
          (first | refine wX ?_ | exact wZ)
          refine LdN.fld (.slice p.ia p.c.items.length p.ic) rfl (fun w hw => hw.2.1) (by rw [Int.toNat_natCast]; exact grC_get st.m i 4 (by decide) hp) ?_
          (first | refine wX ?_ | exact wZ)
          refine Nd.mk ⟨hya, by omega, by omega⟩ ?_
          (first | refine wX ?_ | exact wZ)
          refine EffW.turn [.dead] rfl (famTake 5 21 ⟨3, 1, p.c.items.length, iC (mixI (fun _ => -1) k p.c.items), ab, p.ic⟩ rfl rfl rfl (hpk k)) (EffW.appTo (i := 21) (q := k) (ys := [.int .i64 (-1)]) (iC (mixI (fun _ => -1) (k + 1) p.c.items)) 1 rfl ?_ rfl rfl rfl rfl rfl hq1 (by rw [put_set _ hq2]; exact hset) rfl ?_)
          · rw [Int.toNat_natCast]
            show AV.c (CV.v (Value.pointer (some ((p.ia.getD default).add (k * 1))))) = _
            rw [had, Nat.mul_one]
            exact congrArg (fun x => AV.c (CV.v (Value.pointer (some x)))) (add_lit0 ab k)
          (first | refine wX ?_ | exact wZ)
          refine ⟨k + 1, by omega, by omega, ?_, _, (famPut 5 21 rfl rfl rfl (hpk (k + 1)).symm).s, wkE_refl _, trivial, trivial, trivial, wkE_refl _, wkE_refl _, trivial, trivial, trivial, trivial, trivial, trivial, trivial, trivial, trivial, trivial, trivial, trivial, trivial, trivial, wkE_refl _, trivial⟩
          (repeat' (first | exact trivial | refine And.intro (by with_reducible rfl) ?_ | (with_reducible exact wkC_refl _) | (with_reducible exact wkCs_refl _) | refine And.intro ?_ ?_))
          all_goals first | rfl | exact av_int (by rw [wrap_i64 (by omega)]; omega)
        · obtain rfl : k = p.c.items.length := by omega
          rw [mixI_all]
          (first | refine wX ?_ | exact wZ)
          refine LoopN.introS Nat (fun k => k ≤ p.c.names.length) (fun k => mkS Tryz.f8.ntmps 0 [(0, .c (.v (.slice a l.length ca))), (5, .c (.v (.slice st.oa st.m.length st.oc))), (15, .c (.v (.slice wa wm.length wc))), (16, .c (.v (.int .i64 (i : Int)))), (18, .c (.v (.int .i64 (k : Int))))])
            (fun k => [.fact (gF a l TabF), .dead, .dead, .dead, .app 42 5 (grC st.m) st.oa st.m.length st.oc, famE (rowsG (M.set i (setN (setI p (p.c.items.map fun _ => -1) p.ia p.ic) (mixT (fun _ => [120]) k p.c.names)))), .dead, .dead, .dead, .dead, .dead, .dead, .dead, .dead, .dead, .dead, .dead, .dead, .dead, .dead, .fact G6]) (fun k => p.c.names.length - k) [] rfl (fun _ => rfl) (fun _ => rfl) (fun _ _ => ⟨trivial, trivial, trivial, trivial, trivial, trivial, trivial, trivial, trivial, trivial, trivial, trivial, trivial, trivial, trivial, trivial, trivial, trivial, trivial, trivial, trivial, trivial⟩) ?_ ?_
          · refine ⟨0, Nat.zero_le _, ?_, _, turn_refl _, wkE_refl _, trivial, trivial, trivial, wkE_refl _, ?_, trivial, trivial, trivial, trivial, trivial, trivial, trivial, trivial, trivial, trivial, trivial, trivial, trivial, trivial, wkE_refl _, trivial⟩
            · (repeat' (first | exact trivial | refine And.intro (by with_reducible rfl) ?_ | (with_reducible exact wkC_refl _) | (with_reducible exact wkCs_refl _) | refine And.intro ?_ ?_))
              all_goals rfl
            · rw [mixT_zero]; exact wkE_refl _
          intro k hk
          (first | refine wX ?_ | exact wZ)
          refine Nd.mk ⟨hsa, by omega, by omega⟩ ?_
          (first | refine wX ?_ | exact wZ)
          refine LdN.fld (.slice p.na p.c.names.length p.nc) rfl (fun w hw => hw.2.1) (by rw [Int.toNat_natCast]; exact grC_get st.m i 3 (by decide) hp) ?_
          (first | refine wX ?_ | exact wZ)
          refine brd_dec (fun h3 => ?_) (fun h3 => ?_)
          · obtain ⟨y, hy⟩ : ∃ y, p.c.names[k]? = some y := ⟨_, List.getElem?_eq_getElem (by omega)⟩
            obtain ⟨ab, had⟩ : ∃ ab, p.na = some ⟨ab, 0, none⟩ := by
              cases hq : p.na with
              | none => rw [hpo.na hq] at hy; cases hy
              | some ad => exact ⟨ad.block, by rw [← hpw.na ad hq]⟩
            have hya : p.na.isSome = true := by rw [had]; rfl
            have hset : (strC (mixT (fun _ => [120]) k p.c.names)).set k (.string (bs [120])) = strC (mixT (fun _ => [120]) (k + 1) p.c.names) := by
              unfold mixT
              rw [← mix_set (f := fun _ : List UInt8 => ([120] : List UInt8)) hy]
              unfold strC
              rw [List.map_set]
            have hmll : (strC (mixT (fun _ => [120]) k p.c.names)).length = p.c.names.length := by
              unfold strC
              rw [List.length_map, mixT_len]
            obtain ⟨pI, hpI⟩ : ∃ pI, pI = setI p (p.c.items.map fun _ => -1) p.ia p.ic := ⟨_, rfl⟩
            have hadI : pI.na = some ⟨ab, 0, none⟩ := by rw [hpI]; exact had
            rw [← hpI]
            have hpk : ∀ k, (rowsG (M.set i (setN pI (mixT (fun _ => [120]) k p.c.names)))).Perm (⟨9, 1, p.c.names.length, strC (mixT (fun _ => [120]) k p.c.names), ab, p.nc⟩ :: (rowsI pI ++ restG M i)) := fun k => by
              have h := rowsG_names (m := M) (i := i) hMl (q := setN pI (mixT (fun _ => [120]) k p.c.names)) (ad := ⟨ab, 0, none⟩) hadI
              have e : (setN pI (mixT (fun _ => [120]) k p.c.names)).c.names.length = p.c.names.length := mixT_len _ _ _
              have e2 : (setN pI (mixT (fun _ => [120]) k p.c.names)).nc = p.nc := by rw [hpI]; rfl
              rw [e, e2] at h
              exact h
            have hq1 : k + 1 ≤ p.c.names.length * 1 := by omega
            have hq2 : k < (strC (mixT (fun _ => [120]) k p.c.names)).length := by omega
            (first | refine wX ?_ | exact wZ)
            refine Nd.mk ⟨hsa, by omega, by omega⟩ ?_
            (first | refine wX ?_ | exact wZ)
            refine LdN.fld (.slice p.na p.c.names.length p.nc) rfl (fun w hw => hw.2.1) (by rw [Int.toNat_natCast]; exact grC_get st.m i 3 (by decide) hp) ?_
            (first | refine wX ?_ | exact wZ)
            refine Nd.mk ⟨hya, by omega, by omega⟩ ?_
            (first | refine wX ?_ | exact wZ)
            refine EffW.turn [.dead] rfl (famTake 5 21 ⟨9, 1, p.c.names.length, strC (mixT (fun _ => [120]) k p.c.names), ab, p.nc⟩ rfl rfl rfl (hpk k)) (EffW.appTo (i := 21) (q := k) (ys := [.string (bs [120])]) (strC (mixT (fun _ => [120]) (k + 1) p.c.names)) 1 rfl ?_ rfl rfl rfl rfl rfl hq1 (by rw [put_set _ hq2]; exact hset) rfl ?_)
            · rw [Int.toNat_natCast]
              show AV.c (CV.v (Value.pointer (some ((p.na.getD default).add (k * 1))))) = _
              rw [had, Nat.mul_one]
              exact congrArg (fun x => AV.c (CV.v (Value.pointer (some x)))) (add_lit0 ab k)
            (first | refine wX ?_ | exact wZ)
            refine ⟨k + 1, by omega, by omega, ?_, _, (famPut 5 21 rfl rfl rfl (hpk (k + 1)).symm).s, wkE_refl _, trivial, trivial, trivial, wkE_refl _, wkE_refl _, trivial, trivial, trivial, trivial, trivial, trivial, trivial, trivial, trivial, trivial, trivial, trivial, trivial, trivial, wkE_refl _, trivial⟩
            (repeat' (first | exact trivial | refine And.intro (by with_reducible rfl) ?_ | (with_reducible exact wkC_refl _) | (with_reducible exact wkCs_refl _) | refine And.intro ?_ ?_))
            all_goals first | rfl | exact av_int (by rw [wrap_i64 (by omega)]; omega)
          · obtain rfl : k = p.c.names.length := by omega
            rw [mixT_all]
            (first | refine wX ?_ | exact wZ)
            refine ⟨i + 1, by omega, by omega, ?_, _, turn_refl _, wkE_refl _, trivial, trivial, trivial, wkE_refl _, ?_, trivial, trivial, trivial, trivial, trivial, trivial, trivial, trivial, trivial, trivial, trivial, trivial, trivial, trivial, wkE_refl _, trivial⟩
            · (repeat' (first | exact trivial | refine And.intro (by with_reducible rfl) ?_ | (with_reducible exact wkC_refl _) | (with_reducible exact wkCs_refl _) | refine And.intro ?_ ?_))
              all_goals first | rfl | exact av_int (by rw [wrap_i64 (by omega)]; omega)
            · rw [← hMs]; exact wkE_refl _
      · obtain rfl : i = st.m.length := by omega
        (first | refine wX ?_ | exact wZ)
        refine SpecF.call (as_c a ca l ha hs hok) (fun w hw => hw.1.1) fun v7 G7 hv7 => ?_
        obtain ⟨ya, yc, ym, rfl, hya, hyc, hyo, hG7⟩ := hv7
        (first | refine wX ?_ | exact wZ)
        refine call1 (Alike_c ya wa yc wc ym wm hya hwa (by have := congrArg List.length hyc; have := hs.1; simp only [List.length_map] at *; omega) hyo hwo (hyc.trans hwc.symm) _ (fun w hw => ⟨hG7 w hw.2.2.2.2.1, hG6 w hw.2.2.2.1⟩)) ?_
        (first | refine wX ?_ | exact wZ)
        refine call1 (sane_c _) ?_
        (first | refine wX ?_ | exact wZ)
end Go.Proofs.YtahjbnfbilkbcaaGreatDoor

/-
  CoreCopiesCardSaid is proved: of every graph and cell CoreCopies returns true and leaves its arguments as they were; the listed tables are tied to the program's text.
-/
namespace Go.Proofs.YtahjbnfbilkbcaaGreatDoor
open Go.ChangeShapes Go.WideShapes Go.ChangeAt Go.RowKit Go.AX Go.Core
set_option maxRecDepth 100000

namespace CoreCopies
theorem own : ownKnob Tryz.prog.godebug = none := own0
theorem walk {H : Type} {enc : TypeId × Value → H} (W : World) (base : Nat) (args : Array Value) (ds : List (DataW H)) (p : List MemPlace) (k : Known enc Tryz.prog Tryz.f8 W base args ds p) (_hL : laidMetH Tryz.prog laid3 W) : Walk Tryz.prog 8 args W := by
  obtain ⟨u, v, rfl⟩ := arr2 (trodAll_len k.trod).2
  obtain ⟨d, q, hd, h⟩ := trodAll_get k.trod 0 _ u rfl rfl
  obtain ⟨n, rfl⟩ := okWide_int Tryz.underlying3 (k.val 1 _ v rfl rfl)
  obtain ⟨a, l, cap, rfl, hl, hsl, ha, hQ⟩ := known_rows (e := 42) (m := 5) cellC (fun _ => rfl) Tryz.underlying22 (by kernel_rfl) (by decide +kernel) cell_read k.weights rfl hd (k.val 0 _ u rfl rfl) h
  exact walkH [.fact (gF a l TabF)] (fun _ he => ⟨_, List.mem_singleton.1 he, (hsl.and (Imm.all fun x hx => (SlAt.imm (hQ x hx).2.1).and (SlAt.imm (hQ x hx).2.2))).and (tab_imm (tabL_of _hL))⟩)
    (CoreCopies_c a cap l ha hl (fun x hx => (hQ x hx).1) n _ fun w hw => hw.1)

theorem lifted (os : Os) (started : os.Started) (H : Type) (enc : TypeId × Value → H) :
    ReturnsInHanded {} Tryz.checked os 8 .any (fun w args => (Rows.coreCopiesSpec.pre enc Tryz.prog Tryz.f8 [] false w args ∧ laidMetH Tryz.prog laid3 w) ∧ sizedMet enc Tryz.prog Tryz.f8 (OpenSpec.ofChange Rows.coreCopiesSpec) false w args) (Rows.coreCopiesSpec.post enc Tryz.prog Tryz.f8 false true false false) := by
  refine liftS (C := Tryz.checked) own started (by kernel_rfl) Tryz.func8
    (ChangeSpec.witness_shaped (enc := enc) (C := Tryz.checked) (os := os) (X := fun w _ => laidMetH Tryz.prog laid3 w) false (World.laidAll Tryz.prog os laid3) #[.slice none 0 0, .int .i64 0] 8 (World.laidAll_os _ _ _) (World.shaped_of_ZipB (by kernel_rfl) (by kernel_rfl)) (by kernel_rfl) (by kernel_rfl) (by kernel_rfl) (door_met os _))
    laidOut rfl (t := _) rfl (by kernel_rfl) (by kernel_rfl) ?_ walk
  intro ds hd
  match ds, hd with
  | [d0, d1], _ => rfl

theorem over : Rows.coreCopiesRow.holds Tryz.pinned (OpenSpec.ofChange Rows.coreCopiesSpec) :=
  OpenClaim.holds_of_wide 8 Tryz.f8 rfl rfl rfl rfl rfl rfl rfl ⟨rfl, rfl, rfl, rfl, rfl⟩ rfl rfl rfl rfl rfl (by kernel_rfl) Tryz.func8 (by kernel_rfl)
    (of_decide_eq_true (by kernel_rfl)) (by unfold Func.isWrapper; first | (rw [if_pos (by decide +kernel)]; kernel_rfl) | (rw [if_neg (by decide +kernel)]; exact ⟨rfl, rfl⟩))
    (fun os started H enc _ => lifted os started H enc)

theorem proved : Rows.CoreCopiesCardSaid :=
  Claim7.holds_tied_plain_at .later [] [.data, .data, .data] true (true, "8c46145c91ca01cbbdc693332ca60911ae9d66bc5eabc04f89f5f042d1271d1b") true
    over (fun _ h => by cases h) (by kernel_rfl) (fun _ h => by cases h) coreCopies_row_tie rfl ⟨rfl, rfl⟩ (by kernel_rfl) rfl
    (fun f fn hf hfn => by
      obtain rfl : f = 8 := Option.some.inj ((show Tryz.prog.funcNamed "cabochon/cabochonlaw21.CoreCopies" = some 8 by kernel_rfl).symm.trans hf) |>.symm
      obtain rfl : fn = Tryz.f8 := (Option.some.inj (Tryz.func8.symm.trans hfn)).symm
      exact ⟨by kernel_rfl, fun j t ht => by
        have hm : t ∈ Tryz.f8.params.toList := by simpa using Array.mem_of_getElem? ht
        have hall : (Tryz.f8.params.toList.all fun u => !Tryz.prog.wantsStandIn u) = true := by kernel_rfl
        exact (show Tryz.prog.wantsStandIn t = false by simpa using List.all_eq_true.1 hall t hm)⟩)
    (by kernel_rfl)
#print axioms proved
end CoreCopies
end Go.Proofs.YtahjbnfbilkbcaaGreatDoor
