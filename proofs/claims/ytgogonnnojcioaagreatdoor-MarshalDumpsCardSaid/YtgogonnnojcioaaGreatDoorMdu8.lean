/-
  MarshalDumpsCardSaid is proved: of every graph and cell MarshalDumps returns true and leaves its arguments as they were; the listed tables are tied to the program's text.
-/
import Derived.Test.YtgogonnnojcioaaGreatDoorCards
import Derived.Test.YtgogonnnojcioaaGreatDoorTie
import Derived.Test.YtgogonnnojcioaaGreatDoorMdu7
set_option linter.unusedVariables false
set_option linter.unusedSimpArgs false
/-
  Contracts: Dump (document); what the law asks of a graph (marshal).
-/
namespace Go.Proofs.YtgogonnnojcioaaGreatDoor
open Go.AX Go.RowKit Go.Core Go.Marshal
set_option maxRecDepth 20000

set_option maxHeartbeats 4000000 in
theorem RDump_c {a : Option Addr} (ca : Nat) {l : List CellP} (ha : a = none → l = []) (hs : Small l) (hok : ∀ p ∈ l, CellOk p) (u : Int) :
    ∃ e : Bool, (e = true ↔ AskP (l.map (·.c)) [u]) ∧ ∀ H, (∀ w, Facts H w → GrF a l w) → SpecH Tryz.prog 22 (pvs [.slice a l.length ca, .int .i64 u]) H (Ret (.tuple #[.string (bs (if e then dumpS (l.map (·.c)) u else [])), errI e]) H) := by
  obtain ⟨e, he⟩ := ask_bool (l.map (·.c)) [u]
  refine ⟨e, he, ?_⟩
  have hl := hs.1
  refine factC hm Tryz.func22 (by kernel_rfl) rfl rfl ?_
  (first | refine wXD ?_ | exact wZD)
  obtain ⟨t, ht1, ht2⟩ := Valid_c a ca l ha (by omega) hok [.fact (GrF a l)] (fun w hw => hw.1)
  refine call1 ht2 ?_
  cases t with
  | false =>
    have hee : e = false := by
      cases e with
      | false => rfl
      | true => have := ht1.2 (he.1 rfl).1; cases this
    subst hee
    (first | refine wXD ?_ | exact wZD)
    rfl
  | true =>
  (first | refine wXD ?_ | exact wZD)
  obtain ⟨t2, ht3, ht4⟩ := RIs_c a ca l ha (by omega) hok u [.fact (GrF a l)] (fun w hw => hw.1)
  obtain rfl : t2 = e := by rw [Bool.eq_iff_iff, ht3, he]
  refine call1 ht4 ?_
  cases t2 with
  | false =>
    (first | refine wXD ?_ | exact wZD)
    rfl
  | true =>
    have hask := he.1 rfl
    have hin := valid_in hask.1
    have hu := hask.2 u (by simp)
    have hd := dmp_of hask.1 (small_c hs) hu
    obtain ⟨v, rfl⟩ : ∃ v : Nat, u = (v : Int) := ⟨u.toNat, by omega⟩
    have hgl : (l.map (·.c)).length = l.length := by simp
    (first | refine wXD ?_ | exact wZD)
    refine SpecH.pad [.app 3 1 [] none 0 0, .app 9 1 [] none 0 0] rfl ?_
    have hok0 : BSt.ok (0 : Nat) ⟨none, 0⟩ := ⟨fun _ => ⟨rfl, rfl⟩, Nat.le_refl _, fun _ => rfl⟩
    have hlim := hd.lim
    have hdl : doneW (l.map (·.c)) (v : Int) = shiftW headB (writeF (l.map (·.c)) (l.length + 1) ⟨[], [], []⟩ (v : Int)) := by
      unfold doneW
      rw [hgl, write_at]
    have hds : dumpS (l.map (·.c)) (v : Int) = headB ++ (writeF (l.map (·.c)) (l.length + 1) ⟨[], [], []⟩ (v : Int)).out := by
      show (doneW (l.map (·.c)) (v : Int)).out = _
      rw [hdl]
      rfl
    rw [hdl] at hlim
    have hlo := hlim.o
    have hb3 : headB.length = 3 := rfl
    unfold shiftW at hlo
    simp only [List.length_append] at hlo
    refine callG (form_r ca ha hok hin hd.cellW hl (l.length + 1) [] [] ⟨none, 0⟩ ⟨none, 0⟩ v (by omega) (by have := free_le (l.map (·.c)) []; omega) hok0 hok0 ⟨by omega, hlim.s, hlim.c⟩) [1, 2, 3, 0] rfl ⟨rfl, rfl, rfl, rfl, trivial⟩ rfl fun x hx => ?_
    rw [hds]
    generalize writeF (l.map (·.c)) (l.length + 1) ⟨[], [], []⟩ (v : Int) = W at hx hlo ⊢
    (first | refine wXD ?_ | exact wZD)
    refine Nd.mk (by rw [bs_size]; show 3 + _ < _; omega) ?_
    rw [show (⟨#[67, 77, 1]⟩ : ByteArray) = bs headB from rfl, bs_app]
    (first | refine wXD ?_ | exact wZD)
    rfl
/-! ### The law's own -/
def largeM (l : List CellP) : Bool := decide (1500 ≤ l.length + sizeG l)
set_option maxHeartbeats 1000000 in
theorem large_m (a : Option Addr) (c : Nat) (l : List CellP) (ha : a = none → l = []) (hl : l.length ≤ 200000000000000) (hok : ∀ p ∈ l, CellOk p) : ∀ H, (∀ w, Facts H w → GrF a l w) → SpecH Tryz.prog 21 (pvs [.slice a l.length c]) H (Ret (.bool (largeM l)) H) := by
  refine factC hm Tryz.func21 (by kernel_rfl) rfl rfl ?_
  (first | refine wX ?_ | exact wZ)
  refine loopS (Nat × Nat) (fun ⟨i, n⟩ => i ≤ l.length ∧ n = l.length + sizeG (l.take i) ∧ n ≤ 800000000000000) (fun ⟨i, n⟩ => mkS Tryz.f21.ntmps 0 [(0, .c (.v (.slice a l.length c))), (2, .c (.v (.bool false))), (3, .c (.v (.int .i64 (n : Int)))), (4, .c (.v (.int .i64 (i : Int))))]) (fun ⟨i, _⟩ => l.length - i) rfl (fun _ => rfl) (0, l.length) ⟨Nat.zero_le _, by simp [sizeG], by omega⟩ ?_ ?_
  · (repeat' (first | exact trivial | refine And.intro (by with_reducible rfl) ?_ | (with_reducible exact wkC_refl _) | (with_reducible exact wkCs_refl _) | refine And.intro ?_ ?_))
    all_goals rfl
  rintro ⟨i, n⟩ ⟨hi, hn, hnb⟩
  (first | refine wX ?_ | exact wZ)
  have hend : ∀ b : Bool, (n < 1500 → i = l.length) → b = decide ((1500 : Int) ≤ n) → b = largeM l := fun b h1 h2 => by
    have h3 : sizeG (l.take i) ≤ sizeG l := by
      unfold sizeG
      rw [List.map_take]
      exact sum_take_le _ _
    rw [h2]
    unfold largeM
    by_cases h4 : n < 1500
    · rw [h1 h4, List.take_length] at hn
      exact decide_eq_decide.2 (by omega)
    · exact decide_eq_decide.2 (by omega)
  refine brd_dec (fun h1 => ?_) (fun h1 => ?_)
  · (first | refine wX ?_ | exact wZ)
    refine brd_dec (fun h2 => ?_) (fun h2 => ?_)
    · obtain ⟨p, hp⟩ : ∃ p, l[i]? = some p := ⟨_, List.getElem?_eq_getElem (by omega)⟩
      have hpo := hok p (List.mem_of_getElem? hp)
      have hnl := hpo.nl
      have hil := hpo.il
      have hsa : a.isSome = true := by
        cases a with
        | none => rw [ha rfl] at hp; cases hp
        | some b => rfl
      have hst := sizeG_step hp
      have hwn : IntKind.i64.wrap ((n : Int) + IntKind.i64.wrap ((p.c.items.length : Int) + (p.c.names.length : Int))) = ((n + (p.c.items.length + p.c.names.length) : Nat) : Int) := by rw [wrap_i64 (x := (p.c.items.length : Int) + (p.c.names.length : Int)) (by omega), wrap_i64 (by omega)]; omega
      have hf : ∀ j, j < 5 → (grC l)[(i : Int).toNat * 5 + j]? = (cellC p)[j]? := fun j hj => by
        rw [Int.toNat_natCast]
        exact grC_get l i j hj hp
      (first | refine wX ?_ | exact wZ)
      -- 4: the field, .slice p.ia p.c.items.length p.ic: its value
      refine Nd.mk ⟨hsa, by omega, by omega⟩ ?_
      (first | refine wX ?_ | exact wZ)
      refine LdN.fld (.slice p.ia p.c.items.length p.ic) rfl (fun w hw => hw.1.1) (hf 4 (by decide)) ?_
      (first | refine wX ?_ | exact wZ)
      -- 3: the field, .slice p.na p.c.names.length p.nc: its value
      refine Nd.mk ⟨hsa, by omega, by omega⟩ ?_
      (first | refine wX ?_ | exact wZ)
      refine LdN.fld (.slice p.na p.c.names.length p.nc) rfl (fun w hw => hw.1.1) (hf 3 (by decide)) ?_
      (first | refine wX ?_ | exact wZ)
      refine ⟨(i + 1, n + (p.c.items.length + p.c.names.length)), ⟨by omega, by omega, by omega⟩, by show l.length - (i + 1) < l.length - i; omega, ?_, by (repeat' (first | exact trivial | exact wkE_refl _ | refine And.intro ?_ ?_))⟩
      (repeat' (first | exact trivial | refine And.intro (by with_reducible rfl) ?_ | (with_reducible exact wkC_refl _) | (with_reducible exact wkCs_refl _) | refine And.intro ?_ ?_))
      all_goals first | rfl | exact av_int hwn | exact av_int (by rw [wrap_i64 (by omega)]; omega) | exact av_int (by omega)
    · (first | refine wX ?_ | exact wZ)
      exact out_bool (hend _ (fun h => by omega) rfl)
  · (first | refine wX ?_ | exact wZ)
    exact out_bool (hend _ (fun h => by omega) rfl)
theorem small_m {l : List CellP} (h : largeM l = false) : Small l := by
  unfold largeM at h
  have h1 := of_decide_eq_false h
  refine ⟨by omega, fun p hp => ?_⟩
  have := mem_le (fun p : CellP => p.c.items.length + p.c.names.length) hp
  unfold sizeG at h1
  omega
/-- A graph that is looked at, also one that was read. -/
def Wide (l : List CellP) : Prop := l.length ≤ 2000 ∧ ∀ p ∈ l, p.c.names.length ≤ 30000 ∧ p.c.items.length ≤ 30000
theorem Small.wide {l : List CellP} (h : Small l) : Wide l := ⟨h.1, fun p hp => ⟨by have := (h.2 p hp).1; omega, by have := (h.2 p hp).2; omega⟩⟩
-- cabochon/cabochonlaw29.as: the function's name, core.Cell: the type of what is read, cabochonref21.Cell: of what is made, as_m: the theorem
set_option maxHeartbeats 4000000 in
theorem as_m (a : Option Addr) (ca : Nat) (l : List CellP) (ha : a = none → l = []) (hs : Wide l) (hok : ∀ p ∈ l, CellOk p) : SpecF Tryz.prog 18 [.slice a l.length ca] (GrF a l) (GrR (l.map (·.c))) := by
  obtain ⟨hl, hsm⟩ := hs
  refine specF hm Tryz.func18 (by kernel_rfl) rfl rfl ?_
  (first | refine wX ?_ | exact wZ)
  refine LoopN.introS DSt (DInv l) (fun ⟨i, oa, oc, m⟩ => mkS 35 0 [(0, .c (.v (.slice a l.length ca))), (3, .c (.v (.slice oa m.length oc))), (4, .c (.v (.int .i64 (i : Int))))]) (fun ⟨i, oa, oc, m⟩ => [.fact (GrF a l), .app 87 5 (grC m) oa m.length oc, .fact (fun w => ∀ p ∈ m, CellF p w)]) (fun ⟨i, _, _, _⟩ => l.length - i) [.app 87 5 [] none 0 0, .dead] rfl (fun _ => rfl) (fun _ => rfl) (fun _ _ => ⟨trivial, trivial, trivial, trivial⟩) ?_ ?_
  · refine ⟨⟨0, none, 0, []⟩, ⟨Nat.zero_le _, rfl, (fun p h => by cases h), (fun _ => rfl), Nat.le_refl _⟩, ?_, [.fact (GrF a l), .app 87 5 [] none 0 0, .fact (fun w => ∀ p ∈ [], CellF p w)], turnS ?_, ?_⟩
    · (repeat' (first | exact trivial | refine And.intro (by with_reducible rfl) ?_ | (with_reducible exact wkC_refl _) | (with_reducible exact wkCs_refl _) | refine And.intro ?_ ?_))
      all_goals rfl
    · exact ⟨.inr (.inl rfl), .inr (.inl rfl), .inr (.inr ⟨_, rfl, fun w _ p hp => by cases hp⟩), trivial⟩
    · exact wkH_refl _
  rintro ⟨i, oa, oc, m⟩ hinv
  have hml := hinv.len
  obtain ⟨hi, hmc, hmo, hoa, hoc⟩ := hinv
  (first | refine wX ?_ | exact wZ)
  refine brd_dec (fun h1 => ?_) (fun h1 => ?_)
  · obtain ⟨p, hp⟩ : ∃ p, l[i]? = some p := ⟨_, List.getElem?_eq_getElem (by omega)⟩
    have hpm := List.mem_of_getElem? hp
    have hpo := hok p hpm
    obtain ⟨hnl, hil⟩ := hsm p hpm
    have hsa : a.isSome = true := by
      cases a with
      | none => rw [ha rfl] at hp; cases hp
      | some b => rfl
    (first | refine wX ?_ | exact wZ)
    refine Nd.mk ⟨hsa, by omega, by omega⟩ ?_
    (first | refine wX ?_ | exact wZ)
    refine LdN.agg (cellC p) rfl (fun w hw => hw.1.1) rfl (fun k hk => by rw [Int.toNat_natCast]; exact grC_get l i k hk hp) ?_
    (first | refine wXB ?_ | exact wZB)
    refine BoxN.known [.int .i64 0, .int .i64 0, .string { data := #[] }, .slice none 0 0, .slice none 0 0] rfl fun cb => ?_
    (first | refine wXB ?_ | exact wZB)
    refine EffW.appTo (i := 3) (q := 0) (ys := cellC p) (cellC p) 5 rfl rfl rfl rfl rfl rfl rfl (Nat.le_of_ble_eq_true rfl) rfl rfl ?_
    (first | refine wXB ?_ | exact wZB)
    refine DrawN.planK hm (fun w => SlAt (some ⟨cb, 0, none⟩) 5 (cellC p) w) [7, 11] [0, 1, 3, 5, 8, 12] [(9, 1), (2, 1), (4, 1), (6, 1), (13, 1), (7, 2), (10, 0), (11, 2), (14, 0), (15, 0), (16, 0), (17, 0), (18, 0)] (by decide +kernel) (fun w hw => hw.2.2.2.1) ?_
    -- fun w hw => hw.2.2.2.1: why the kind holds
    ((conv => whnf); (repeat ((first | refine Nd.mk (fun w hw => hw.2.2.2.1) ?_ | refine VrN.norm (wrap_i64 (by omega)) ?_ | refine VrN.keep ?_ | refine Nd.mk (by decide +kernel) ?_ | refine Nd.mk (by omega) ?_ | refine RdN.intro _ rfl (by rfl) ?_); (conv => whnf))))
    refine ReadC.one (a := some ⟨cb, 0, none⟩) (q := 3) (.slice p.na p.c.names.length p.nc) rfl rfl rfl (fun w hw => hw) rfl ?_
    -- fun w hw => hw.2.2.2.1: why the kind holds
    ((conv => whnf); (repeat ((first | refine Nd.mk (fun w hw => hw.2.2.2.1) ?_ | refine VrN.norm (wrap_i64 (by omega)) ?_ | refine VrN.keep ?_ | refine Nd.mk (by decide +kernel) ?_ | refine Nd.mk (by omega) ?_ | refine RdN.intro _ rfl (by rfl) ?_); (conv => whnf))))
    -- 0: the field of the cell, .int .i64 p.c.kind: the value
    refine ReadC.one (a := some ⟨cb, 0, none⟩) (q := 0) (.int .i64 p.c.kind) rfl rfl rfl (fun w hw => hw) rfl ?_
    -- fun w hw => hw.2.2.2.1: why the kind holds
    ((conv => whnf); (repeat ((first | refine Nd.mk (fun w hw => hw.2.2.2.1) ?_ | refine VrN.norm (wrap_i64 (by omega)) ?_ | refine VrN.keep ?_ | refine Nd.mk (by decide +kernel) ?_ | refine Nd.mk (by omega) ?_ | refine RdN.intro _ rfl (by rfl) ?_); (conv => whnf))))
    -- 1: the field of the cell, .int .i64 p.c.num: the value
    refine ReadC.one (a := some ⟨cb, 0, none⟩) (q := 1) (.int .i64 p.c.num) rfl rfl rfl (fun w hw => hw) rfl ?_
    -- fun w hw => hw.2.2.2.1: why the kind holds
    ((conv => whnf); (repeat ((first | refine Nd.mk (fun w hw => hw.2.2.2.1) ?_ | refine VrN.norm (wrap_i64 (by omega)) ?_ | refine VrN.keep ?_ | refine Nd.mk (by decide +kernel) ?_ | refine Nd.mk (by omega) ?_ | refine RdN.intro _ rfl (by rfl) ?_); (conv => whnf))))
    -- 2: the field of the cell, .string (bs p.c.text): the value
    refine ReadC.one (a := some ⟨cb, 0, none⟩) (q := 2) (.string (bs p.c.text)) rfl rfl rfl (fun w hw => hw) rfl ?_
    -- fun w hw => hw.2.2.2.1: why the kind holds
    ((conv => whnf); (repeat ((first | refine Nd.mk (fun w hw => hw.2.2.2.1) ?_ | refine VrN.norm (wrap_i64 (by omega)) ?_ | refine VrN.keep ?_ | refine Nd.mk (by decide +kernel) ?_ | refine Nd.mk (by omega) ?_ | refine RdN.intro _ rfl (by rfl) ?_); (conv => whnf))))
    -- 4: the field of the cell, .slice p.ia p.c.items.length p.ic: the value
    refine ReadC.one (a := some ⟨cb, 0, none⟩) (q := 4) (.slice p.ia p.c.items.length p.ic) rfl rfl rfl (fun w hw => hw) rfl ?_
    -- fun w hw => hw.2.2.2.1: why the kind holds
    ((conv => whnf); (repeat ((first | refine Nd.mk (fun w hw => hw.2.2.2.1) ?_ | refine VrN.norm (wrap_i64 (by omega)) ?_ | refine VrN.keep ?_ | refine Nd.mk (by decide +kernel) ?_ | refine Nd.mk (by omega) ?_ | refine RdN.intro _ rfl (by rfl) ?_); (conv => whnf))))
    intro nb
    -- fun w hw => hw.2.2.2.1: why the kind holds
    ((conv => whnf); (repeat ((first | refine Nd.mk (fun w hw => hw.2.2.2.1) ?_ | refine VrN.norm (wrap_i64 (by omega)) ?_ | refine VrN.keep ?_ | refine Nd.mk (by decide +kernel) ?_ | refine Nd.mk (by omega) ?_ | refine RdN.intro _ rfl (by rfl) ?_); (conv => whnf))))
    refine app_any 4 [] (strC p.c.names) rfl (Nat.le_refl _) (fun h => by cases hq : p.na with | none => rw [hpo.na hq] at h; cases h | some b => rfl) (by show (strC p.c.names).length = p.c.names.length * 1; simp [strC]) (fun u hu => by obtain ⟨x, _, rfl⟩ := List.mem_map.1 hu; rfl) (fun w hw j v hv => (hw.1.2 p hpm).1.cell hv) ⟨⟨by show (0 + p.c.names.length) * 16 ≤ _; omega, by omega⟩, Nat.one_ne_zero⟩ fun nb2 nc2 hnc2 => ?_
    rw [Nat.zero_add, List.nil_append]
    -- fun w hw => hw.2.2.2.1: why the kind holds
    ((conv => whnf); (repeat ((first | refine Nd.mk (fun w hw => hw.2.2.2.1) ?_ | refine VrN.norm (wrap_i64 (by omega)) ?_ | refine VrN.keep ?_ | refine Nd.mk (by decide +kernel) ?_ | refine Nd.mk (by omega) ?_ | refine RdN.intro _ rfl (by rfl) ?_); (conv => whnf))))
    intro ib
    -- fun w hw => hw.2.2.2.1: why the kind holds
    ((conv => whnf); (repeat ((first | refine Nd.mk (fun w hw => hw.2.2.2.1) ?_ | refine VrN.norm (wrap_i64 (by omega)) ?_ | refine VrN.keep ?_ | refine Nd.mk (by decide +kernel) ?_ | refine Nd.mk (by omega) ?_ | refine RdN.intro _ rfl (by rfl) ?_); (conv => whnf))))
    refine app_any 5 [] (iC p.c.items) rfl (Nat.le_refl _) (fun h => by cases hq : p.ia with | none => rw [hpo.ia hq] at h; cases h | some b => rfl) (by show (iC p.c.items).length = p.c.items.length * 1; simp [iC]) (fun u hu => by obtain ⟨x, _, rfl⟩ := List.mem_map.1 hu; rfl) (fun w hw j v hv => (hw.1.2 p hpm).2.cell hv) ⟨⟨by show (0 + p.c.items.length) * 8 ≤ _; omega, by omega⟩, Nat.one_ne_zero⟩ fun ib2 ic2 hic2 => ?_
    rw [Nat.zero_add, List.nil_append]
    -- fun w hw => hw.2.2.2.1: why the kind holds
    ((conv => whnf); (repeat ((first | refine Nd.mk (fun w hw => hw.2.2.2.1) ?_ | refine VrN.norm (wrap_i64 (by omega)) ?_ | refine VrN.keep ?_ | refine Nd.mk (by decide +kernel) ?_ | refine Nd.mk (by omega) ?_ | refine RdN.intro _ rfl (by rfl) ?_); (conv => whnf))))
    refine RwN.own ?_
    -- fun w hw => hw.2.2.2.1: why the kind holds
    ((conv => whnf); (repeat ((first | refine Nd.mk (fun w hw => hw.2.2.2.1) ?_ | refine VrN.norm (wrap_i64 (by omega)) ?_ | refine VrN.keep ?_ | refine Nd.mk (by decide +kernel) ?_ | refine Nd.mk (by omega) ?_ | refine RdN.intro _ rfl (by rfl) ?_); (conv => whnf))))
    refine Nd.mk ⟨Nat.le_refl 1, rfl, rfl⟩ ?_
    (conv => whnf)
    refine AppN.grow 1 (grC m) (cellC ⟨p.c, some ⟨nb2, 0, none⟩, nc2, some ⟨ib2, 0, none⟩, ic2⟩) rfl rfl ⟨Nat.le_refl 1, ⟨by show (m.length + 1) * 80 ≤ _; omega, by omega⟩, by decide⟩ fun ob2 oc2 hoc2 _ => ?_
    -- fun w hw => hw.2.2.2.1: why the kind holds
    ((conv => whnf); (repeat ((first | refine Nd.mk (fun w hw => hw.2.2.2.1) ?_ | refine VrN.norm (wrap_i64 (by omega)) ?_ | refine VrN.keep ?_ | refine Nd.mk (by decide +kernel) ?_ | refine Nd.mk (by omega) ?_ | refine RdN.intro _ rfl (by rfl) ?_); (conv => whnf))))
    have hm2 : m.length + 1 = (m ++ [(⟨p.c, some ⟨nb2, 0, none⟩, nc2, some ⟨ib2, 0, none⟩, ic2⟩ : CellP)]).length := by simp
    have hg2 := grC_snoc m ⟨p.c, some ⟨nb2, 0, none⟩, nc2, some ⟨ib2, 0, none⟩, ic2⟩
    refine ⟨⟨i + 1, some ⟨ob2, 0, none⟩, oc2, m ++ [⟨p.c, some ⟨nb2, 0, none⟩, nc2, some ⟨ib2, 0, none⟩, ic2⟩]⟩, ⟨by omega, ?_, ?_, (fun h => by cases h), by omega⟩, by show l.length - (i + 1) < l.length - i; omega, ?_, [.fact (GrF a l), .app 87 5 (grC m ++ cellC ⟨p.c, some ⟨nb2, 0, none⟩, nc2, some ⟨ib2, 0, none⟩, ic2⟩) (some ⟨ob2, 0, none⟩) (m.length + 1) oc2, .fact (fun w => ∀ q ∈ m ++ [⟨p.c, some ⟨nb2, 0, none⟩, nc2, some ⟨ib2, 0, none⟩, ic2⟩], CellF q w), .dead, .dead, .dead, .dead], turnS ?_, ?_⟩
    · rw [List.take_add_one, hp, List.map_append, List.map_append, hmc]
      rfl
    · intro q hq
      rcases List.mem_append.1 hq with hq | hq
      · exact hmo q hq
      · rw [List.mem_singleton.1 hq]
        exact ⟨(fun h => by cases h), (fun h => by cases h), hpo.nl, hpo.il, hpo.nw, hpo.tl, by show p.c.names.length ≤ nc2; omega, by show p.c.items.length ≤ ic2; omega⟩
    · (repeat' (first | exact trivial | refine And.intro (by with_reducible rfl) ?_ | (with_reducible exact wkC_refl _) | (with_reducible exact wkCs_refl _) | refine And.intro ?_ ?_))
      all_goals first | rfl | exact av_int (by omega) | (rw [hm2])
    · refine ⟨.inr (.inl rfl), .inr (.inl rfl), .inr (.inr ⟨_, rfl, fun w hw q hq => ?_⟩), .inl rfl, .inl rfl, .inl rfl, .inl rfl, trivial⟩
      rcases List.mem_append.1 hq with hq | hq
      · exact hw.2.1 q hq
      · rw [List.mem_singleton.1 hq]
        exact ⟨hw.2.2.2.1, hw.2.2.2.2.1⟩
    · show wkH _ [Ent.fact (GrF a l), .app 87 5 (grC (m ++ [_])) _ (m ++ [_]).length _, _]
      rw [← hm2, hg2]
      exact ⟨wkE_refl _, wkE_refl _, wkE_refl _, trivial⟩
  · have hil : i = l.length := by omega
    subst hil
    rw [List.take_length] at hmc
    (first | refine wX ?_ | exact wZ)
    refine fin_p (GrF oa m) ⟨oa, oc, m, rfl, hoa, hmc, hmo, fun w hw => hw⟩ fun w hw => ⟨hw.2.1, hw.2.2.1⟩
def exM : Cell := ⟨6, 0, [], [], [0]⟩
def exQ (ib : Nat) : CellP := ⟨exM, none, 0, some ⟨ib, 0, none⟩, 1⟩
theorem exM_val : ValidP [exM] := ⟨by decide, fun c hc => by rw [List.mem_singleton.1 hc]; decide, fun c hc h => by rw [List.mem_singleton.1 hc] at h; exact absurd h (by decide)⟩
theorem exM_ask : AskP [exM] [0] := ⟨exM_val, fun x hx => by rw [List.mem_singleton.1 hx]; decide⟩
theorem exM_dump : dumpS [exM] 0 = [67, 77, 1, 91, 1, 64, 0] := by decide +kernel
theorem exQ_small (ib : Nat) : Small [exQ ib] := ⟨by simp, fun p hp => by rw [List.mem_singleton.1 hp]; exact ⟨by show (0 : Nat) ≤ 2000; omega, by show (1 : Nat) ≤ 2000; omega⟩⟩
theorem exQ_ok (ib : Nat) : ∀ p ∈ [exQ ib], CellOk p := fun p hp => by
  rw [List.mem_singleton.1 hp]
  exact ⟨(fun _ => rfl), (fun h => by cases h), by show (0 : Nat) ≤ _; omega, by show (1 : Nat) ≤ _; omega, (fun s hs => by cases hs), by show (0 : Nat) ≤ _; omega, Nat.le_refl _, Nat.le_refl _⟩
set_option maxHeartbeats 4000000 in
theorem sane_m : ∀ H, SpecH Tryz.prog 13 (pvs []) H (Ret (.bool true) H) := by
  refine pureC hm Tryz.func13 (by kernel_rfl) rfl rfl ?_
  ((conv => whnf); (repeat ((first | refine BoxN.own ?_ | refine VrN.norm (wrap_i64 (by omega)) ?_ | refine VrN.keep ?_ | refine DrawN.calm (by decide +kernel) ?_ | refine Nd.mk (by decide +kernel) ?_ | refine Nd.mk (by omega) ?_ | (refine Nd.mk ?_ ?_; focus ((repeat' (first | exact trivial | exact wkE_refl _ | refine And.intro ?_ ?_)); done)) | refine RdN.intro _ rfl (by rfl) ?_); (conv => whnf))))
  refine RwN.known [.int .i64 0] rfl fun ib => ?_
  ((conv => whnf); (repeat ((first | refine BoxN.own ?_ | refine VrN.norm (wrap_i64 (by omega)) ?_ | refine VrN.keep ?_ | refine DrawN.calm (by decide +kernel) ?_ | refine Nd.mk (by decide +kernel) ?_ | refine Nd.mk (by omega) ?_ | (refine Nd.mk ?_ ?_; focus ((repeat' (first | exact trivial | exact wkE_refl _ | refine And.intro ?_ ?_)); done)) | refine RdN.intro _ rfl (by rfl) ?_); (conv => whnf))))
  refine RwN.known [.int .i64 6, .int .i64 0, .string { data := #[] }, .slice none 0 0, .slice (some ⟨ib, 0, none⟩) 1 1] rfl fun gb => ?_
  ((conv => whnf); (repeat ((first | refine BoxN.own ?_ | refine VrN.norm (wrap_i64 (by omega)) ?_ | refine VrN.keep ?_ | refine DrawN.calm (by decide +kernel) ?_ | refine Nd.mk (by decide +kernel) ?_ | refine Nd.mk (by omega) ?_ | (refine Nd.mk ?_ ?_; focus ((repeat' (first | exact trivial | exact wkE_refl _ | refine And.intro ?_ ?_)); done)) | refine RdN.intro _ rfl (by rfl) ?_); (conv => whnf))))
  obtain ⟨e, he1, he2⟩ := Dump_c (a := some ⟨gb, 0, none⟩) 1 (l := [exQ ib]) (fun h => by cases h) (exQ_small ib) (exQ_ok ib) 0
  obtain rfl : e = true := he1.2 exM_ask
  have hx : (if true = true then dumpS ([exQ ib].map (·.c)) 0 else []) = [67, 77, 1, 91, 1, 64, 0] := exM_dump
  rw [hx] at he2
  refine call1 (he2 [.app 3 1 [.int .i64 0] (some ⟨ib, 0, none⟩) 1 1, .app 57 5 [.int .i64 6, .int .i64 0, .string { data := #[] }, .slice none 0 0, .slice (some ⟨ib, 0, none⟩) 1 1] (some ⟨gb, 0, none⟩) 1 1] (fun w hw => ⟨hw.2.1, fun p hp => by
    rw [List.mem_singleton.1 hp]
    exact ⟨SlAt.nil, hw.1⟩⟩)) ?_
  (first | refine wX ?_ | exact wZ)
  rfl
end Go.Proofs.YtgogonnnojcioaaGreatDoor

/-
  Contract: a cell of a graph is written as the document says (law).
-/
namespace Go.Proofs.YtgogonnnojcioaaGreatDoor
open Go.AX Go.RowKit Go.Core Go.Marshal
set_option maxRecDepth 20000

set_option maxHeartbeats 4000000 in
theorem MarshalDumps_c (a : Option Addr) (ca : Nat) (l : List CellP) (ha : a = none → l = []) (hl : l.length ≤ 200000000000000) (hok : ∀ p ∈ l, CellOk p) (u : Int) : ∀ H, (∀ w, Facts H w → GrF a l w) → SpecH Tryz.prog 5 (pvs [.slice a l.length ca, .int .i64 u]) H (Ret (.bool true) H) := by
  refine factC hm Tryz.func5 (by kernel_rfl) rfl rfl ?_
  (first | refine wX ?_ | exact wZ)
  refine call1 (large_m a ca l ha hl hok _ (fun w hw => hw.1)) ?_
  cases hlb : largeM l with
  | true =>
    (first | refine wX ?_ | exact wZ)
    refine call1 (sane_m _) ?_
    (first | refine wX ?_ | exact wZ)
  | false =>
    have hs := small_m hlb
    obtain ⟨e, he, hes⟩ := Dump_c ca ha hs hok u
    (first | refine wX ?_ | exact wZ)
    refine call1 (hes _ (fun w hw => hw.1)) ?_
    (first | refine wX ?_ | exact wZ)
    refine SpecF.call (as_m a ca l ha hs.wide hok) (fun w hw => hw.1) fun v G hv => ?_
    obtain ⟨oa, oc, m, rfl, hoa, hmc, hmo, hG⟩ := hv
    have hms : Small m := small_as hs hmc
    obtain ⟨e2, he2, hes2⟩ := RDump_c oc hoa hms hmo u
    rw [hmc] at he2 hes2
    obtain rfl : e2 = e := by rw [Bool.eq_iff_iff, he2, he]
    (first | refine wX ?_ | exact wZ)
    refine call1 (hes2 _ (fun w hw => hG w hw.2.1)) ?_
    (first | refine wX ?_ | exact wZ)
    obtain ⟨e3, he3, hes3⟩ := Size_c ca ha hs hok u
    obtain rfl : e3 = e2 := by rw [Bool.eq_iff_iff, he3, he]
    refine call1 (hes3 _ (fun w hw => hw.1)) ?_
    (first | refine wX ?_ | exact wZ)
    rw [bs_list, beq_self_eq_true]
    generalize (if e3 = true then dumpS (l.map (·.c)) u else []) = D
    cases e3 with
    | true =>
      (first | refine wX ?_ | exact wZ)
      rw [bs_size, show ((D.length : Int) == (D.length : Int)) = true from beq_self_eq_true _]
      (first | refine wX ?_ | exact wZ)
      refine call1 (sane_m _) ?_
      (first | refine wX ?_ | exact wZ)
    | false =>
      (first | refine wX ?_ | exact wZ)
      rw [bs_size, show ((D.length : Int) == (D.length : Int)) = true from beq_self_eq_true _]
      (first | refine wX ?_ | exact wZ)
      refine call1 (sane_m _) ?_
      (first | refine wX ?_ | exact wZ)
end Go.Proofs.YtgogonnnojcioaaGreatDoor

/-
  MarshalDumpsCardSaid is proved: of every graph and cell MarshalDumps returns true and leaves its arguments as they were; the listed tables are tied to the program's text.
-/
namespace Go.Proofs.YtgogonnnojcioaaGreatDoor
open Go.ChangeShapes Go.WideShapes Go.ChangeAt Go.RowKit Go.AX Go.Core
set_option maxRecDepth 100000

namespace MarshalDumps
theorem own : ownKnob Tryz.prog.godebug = none := own0
theorem walk {H : Type} {enc : TypeId × Value → H} (W : World) (base : Nat) (args : Array Value) (ds : List (DataW H)) (p : List MemPlace) (k : Known enc Tryz.prog Tryz.f5 W base args ds p) (_hL : laidMetH Tryz.prog laid3 W) : Walk Tryz.prog 5 args W := by
  obtain ⟨u, v, rfl⟩ := arr2 (trodAll_len k.trod).2
  obtain ⟨d, q, hd, h⟩ := trodAll_get k.trod 0 _ u rfl rfl
  obtain ⟨n, rfl⟩ := okWide_int Tryz.underlying3 (k.val 1 _ v rfl rfl)
  obtain ⟨a, l, cap, rfl, hl, hsl, ha, hQ⟩ := known_rows (e := 57) (m := 5) cellC (fun _ => rfl) Tryz.underlying23 (by kernel_rfl) (by decide +kernel) cell_read k.weights rfl hd (k.val 0 _ u rfl rfl) h
  exact walkH [.fact (GrF a l)] (fun _ he => ⟨_, List.mem_singleton.1 he, hsl.and (Imm.all fun x hx => (SlAt.imm (hQ x hx).2.1).and (SlAt.imm (hQ x hx).2.2))⟩)
    (MarshalDumps_c a cap l ha hl (fun x hx => (hQ x hx).1) n _ fun w hw => hw.1)

theorem lifted (os : Os) (started : os.Started) (H : Type) (enc : TypeId × Value → H) :
    ReturnsInHanded {} Tryz.checked os 5 .any (fun w args => (Rows.marshalDumpsSpec.pre enc Tryz.prog Tryz.f5 [] false w args ∧ laidMetH Tryz.prog laid3 w) ∧ sizedMet enc Tryz.prog Tryz.f5 (OpenSpec.ofChange Rows.marshalDumpsSpec) false w args) (Rows.marshalDumpsSpec.post enc Tryz.prog Tryz.f5 false true false false) := by
  refine liftS (C := Tryz.checked) own started (by kernel_rfl) Tryz.func5
    (ChangeSpec.witness_shaped (enc := enc) (C := Tryz.checked) (os := os) (X := fun w _ => laidMetH Tryz.prog laid3 w) false (World.laidAll Tryz.prog os laid3) #[.slice none 0 0, .int .i64 0] 8 (World.laidAll_os _ _ _) (World.shaped_of_ZipB (by kernel_rfl) (by kernel_rfl)) (by kernel_rfl) (by kernel_rfl) (by kernel_rfl) (door_met os _))
    laidOut rfl (t := _) rfl (by kernel_rfl) (by kernel_rfl) ?_ walk
  intro ds hd
  match ds, hd with
  | [d0, d1], _ => rfl

theorem over : Rows.marshalDumpsRow.holds Tryz.pinned (OpenSpec.ofChange Rows.marshalDumpsSpec) :=
  OpenClaim.holds_of_wide 5 Tryz.f5 rfl rfl rfl rfl rfl rfl rfl ⟨rfl, rfl, rfl, rfl, rfl⟩ rfl rfl rfl rfl rfl (by kernel_rfl) Tryz.func5 (by kernel_rfl)
    (of_decide_eq_true (by kernel_rfl)) (by unfold Func.isWrapper; first | (rw [if_pos (by decide +kernel)]; kernel_rfl) | (rw [if_neg (by decide +kernel)]; exact ⟨rfl, rfl⟩))
    (fun os started H enc _ => lifted os started H enc)

theorem proved : Rows.MarshalDumpsCardSaid :=
  Claim7.holds_tied_plain_at .later [] [.data, .pinned] true (true, "92e2ed60dd5b2613fe6e0d172a7e2bd0782f276a49ab098c444f4227433a6c5a") false
    over (fun _ h => by cases h) (by kernel_rfl) (fun _ h => by cases h) marshalDumps_row_tie rfl ⟨rfl, rfl⟩ (by kernel_rfl) rfl
    (fun f fn hf hfn => by
      obtain rfl : f = 5 := Option.some.inj ((show Tryz.prog.funcNamed "cabochon/cabochonlaw29.MarshalDumps" = some 5 by kernel_rfl).symm.trans hf) |>.symm
      obtain rfl : fn = Tryz.f5 := (Option.some.inj (Tryz.func5.symm.trans hfn)).symm
      exact ⟨by kernel_rfl, fun j t ht => by
        have hm : t ∈ Tryz.f5.params.toList := by simpa using Array.mem_of_getElem? ht
        have hall : (Tryz.f5.params.toList.all fun u => !Tryz.prog.wantsStandIn u) = true := by kernel_rfl
        exact (show Tryz.prog.wantsStandIn t = false by simpa using List.all_eq_true.1 hall t hm)⟩)
    (by kernel_rfl)
#print axioms proved
end MarshalDumps
end Go.Proofs.YtgogonnnojcioaaGreatDoor
