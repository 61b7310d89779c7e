/-
  Lemmas (C12 C13 W1 P12 W2 U1 Q1 Q2 O1 O2 K1 Q3 Q4 Q5).
-/
import Derived.Test.YtahjbnfbilkbcaaGreatDoorChecked
import Derived.Tactics
import Derived.Tactics2
import Derived.Defers
import Derived.Laws.Pointers
import Derived.Laws.LoneSync
import Derived.RegionTactic
import Derived.RegionCalls
import Derived.ChangeAlike
import Derived.Test.YtahjbnfbilkbcaaGreatDoorPrt7
/-
  Contract: Check (program).
-/
namespace Go.Core
theorem any_range (n : Nat) (c : Cell) : (c.items.any fun i => decide (i < 0) || decide (i ≥ (n : Int))) = !rangeB n c := by
  unfold rangeB
  rw [List.all_eq_not_any_not, Bool.not_not]
  exact congrArg (fun f => c.items.any f) (funext fun i => by rw [Bool.eq_iff_iff]; simp)
end Go.Core
namespace Go.Proofs.YtahjbnfbilkbcaaGreatDoor
open Go.AX Go.RowKit Go.Core Go.Scan
set_option maxRecDepth 20000

theorem plain_c (p : CellP) (hp : CellOk p) (hs : p.c.names.length ≤ 2000 ∧ p.c.items.length ≤ 2000) : ∀ H, (∀ w, Facts H w → CellF p w) → SpecH Tryz.prog 45 (pvs [cellV p]) H (Ret (.bool (Go.Core.plainS p.c)) H) := by
  obtain ⟨⟨kind, num, text, names, items⟩, na, nc, ia, ic⟩ := p
  exact plain_c0 kind num text names items na nc ia ic hp.na hp.ia hs.1 hs.2 hp.nw hp.tl
theorem out_c (x : Int) (b : Nat) (a : Option Addr) (n c : Nat) : ∀ H, (∀ w, Facts H w → SlAt (some ⟨b, 0, none⟩) 1 [.slice a n c] w) → SpecH Tryz.prog 47 (pvs [.int .i64 x, .pointer (some ⟨b, 0, none⟩)]) H (Ret (.bool (decide (x < 0) || decide (x ≥ (n : Int)))) H) := by
  refine factC hm Tryz.func47 (by kernel_rfl) rfl rfl ?_
  (first | refine wX ?_ | exact wZ)
  refine brd_dec (fun h1 => ?_) (fun h1 => ?_)
  · (first | refine wX ?_ | exact wZ)
    exact out_bool (by simp [h1])
  · (first | refine wX ?_ | exact wZ)
    refine LdN.one (a := some ⟨b, 0, none⟩) (q := 0) (.slice a n c) rfl (fun w hw => hw.1) rfl ?_
    (first | refine wX ?_ | exact wZ)
    exact out_bool (by simp [h1])
def errI (b : Bool) : Value := .int .i64 (if b then 0 else 1)
set_option maxHeartbeats 4000000 in
theorem Check_c (a : Option Addr) (ca : Nat) (l : List CellP) (ha : a = none → l = []) (hs : Small l) (hok : ∀ p ∈ l, CellOk p) :
    ∀ H, (∀ w, Facts H w → GrF a l w) → ∃ b : Bool, (b = true ↔ ValidP (l.map (·.c))) ∧ SpecH Tryz.prog 18 (pvs [.slice a l.length ca]) H (Ret (errI b) H) := by
  intro H hH
  obtain ⟨b, hb⟩ : ∃ b : Bool, b = true ↔ ValidP (l.map (·.c)) := by
    by_cases h : ValidP (l.map (·.c))
    · exact ⟨true, fun _ => h, fun _ => rfl⟩
    · exact ⟨false, (fun h => by cases h), fun h2 => absurd h2 h⟩
  refine ⟨b, hb, ?_⟩
  obtain ⟨hl, hsm⟩ := hs
  have hml : (l.map (·.c)).length = l.length := by simp
  have hno : ¬ ValidP (l.map (·.c)) → (1 : Int) = if b then 0 else 1 := fun h => by
    cases b with
    | false => rfl
    | true => exact absurd (hb.1 rfl) h
  refine factC hm Tryz.func18 (by kernel_rfl) rfl rfl ?_ H hH
  ((conv => whnf); (repeat ((first | refine RwN.own ?_ | refine VrN.norm (wrap_i64 (by omega)) ?_ | refine VrN.keep ?_ | refine DrawN.calm (by decide +kernel) ?_ | refine Nd.mk (by decide +kernel) ?_ | refine Nd.mk (by omega) ?_ | (refine Nd.mk ?_ ?_; focus ((repeat' (first | exact trivial | exact wkE_refl _ | refine And.intro ?_ ?_)); done)) | refine RdN.intro _ rfl (by rfl) ?_); (conv => whnf))))
  refine BoxN.known [.slice a l.length ca] rfl fun gb => ?_
  ((conv => whnf); (repeat ((first | refine RwN.own ?_ | refine VrN.norm (wrap_i64 (by omega)) ?_ | refine VrN.keep ?_ | refine DrawN.calm (by decide +kernel) ?_ | refine Nd.mk (by decide +kernel) ?_ | refine Nd.mk (by omega) ?_ | (refine Nd.mk ?_ ?_; focus ((repeat' (first | exact trivial | exact wkE_refl _ | refine And.intro ?_ ?_)); done)) | refine RdN.intro _ rfl (by rfl) ?_); (conv => whnf))))
  -- the graph, out of its box
  refine LdN.one (a := some ⟨gb, 0, none⟩) (q := 0) (.slice a l.length ca) rfl (fun w hw => hw.2.1) rfl ?_
  ((conv => whnf); (repeat ((first | refine RwN.own ?_ | refine VrN.norm (wrap_i64 (by omega)) ?_ | refine VrN.keep ?_ | refine DrawN.calm (by decide +kernel) ?_ | refine Nd.mk (by decide +kernel) ?_ | refine Nd.mk (by omega) ?_ | (refine Nd.mk ?_ ?_; focus ((repeat' (first | exact trivial | exact wkE_refl _ | refine And.intro ?_ ?_)); done)) | refine RdN.intro _ rfl (by rfl) ?_); (conv => whnf))))
  refine brd_dec (fun h0 => ?_) (fun h0 => ?_)
  · ((conv => whnf); (repeat ((first | refine RwN.own ?_ | refine VrN.norm (wrap_i64 (by omega)) ?_ | refine VrN.keep ?_ | refine DrawN.calm (by decide +kernel) ?_ | refine Nd.mk (by decide +kernel) ?_ | refine Nd.mk (by omega) ?_ | (refine Nd.mk ?_ ?_; focus ((repeat' (first | exact trivial | exact wkE_refl _ | refine And.intro ?_ ?_)); done)) | refine RdN.intro _ rfl (by rfl) ?_); (conv => whnf))))
    exact out_int (hno fun h => by have := h.1; omega)
  ((conv => whnf); (repeat ((first | refine RwN.own ?_ | refine VrN.norm (wrap_i64 (by omega)) ?_ | refine VrN.keep ?_ | refine DrawN.calm (by decide +kernel) ?_ | refine Nd.mk (by decide +kernel) ?_ | refine Nd.mk (by omega) ?_ | (refine Nd.mk ?_ ?_; focus ((repeat' (first | exact trivial | exact wkE_refl _ | refine And.intro ?_ ?_)); done)) | refine RdN.intro _ rfl (by rfl) ?_); (conv => whnf))))
  -- the graph, out of its box
  refine LdN.one (a := some ⟨gb, 0, none⟩) (q := 0) (.slice a l.length ca) rfl (fun w hw => hw.2.1) rfl ?_
  ((conv => whnf); (repeat ((first | refine RwN.own ?_ | refine VrN.norm (wrap_i64 (by omega)) ?_ | refine VrN.keep ?_ | refine DrawN.calm (by decide +kernel) ?_ | refine Nd.mk (by decide +kernel) ?_ | refine Nd.mk (by omega) ?_ | (refine Nd.mk ?_ ?_; focus ((repeat' (first | exact trivial | exact wkE_refl _ | refine And.intro ?_ ?_)); done)) | refine RdN.intro _ rfl (by rfl) ?_); (conv => whnf))))
  refine loopS Nat (fun i => i ≤ l.length ∧ ∀ p ∈ l.take i, cellD l.length p.c = true) (fun i => mkS Tryz.f18.ntmps 0 [(1, .c (.v (.pointer (some ⟨gb, 0, none⟩)))), (10, .c (.v (.slice a l.length ca))), (11, .c (.v (.int .i64 (l.length : Int)))), (12, .c (.v (.int .i64 (i : Int))))]) (fun i => l.length - i) rfl (fun _ => rfl) 0 ⟨Nat.zero_le _, by simp⟩ ?_ ?_
  · (repeat' (first | exact trivial | refine And.intro (by with_reducible rfl) ?_ | (with_reducible exact wkC_refl _) | (with_reducible exact wkCs_refl _) | refine And.intro ?_ ?_))
    all_goals rfl
  intro i ⟨hi, hc⟩
  ((conv => whnf); (repeat ((first | refine RwN.own ?_ | refine VrN.norm (wrap_i64 (by omega)) ?_ | refine VrN.keep ?_ | refine DrawN.calm (by decide +kernel) ?_ | refine Nd.mk (by decide +kernel) ?_ | refine Nd.mk (by omega) ?_ | (refine Nd.mk ?_ ?_; focus ((repeat' (first | exact trivial | exact wkE_refl _ | refine And.intro ?_ ?_)); done)) | refine RdN.intro _ rfl (by rfl) ?_); (conv => whnf))))
  refine brd_dec (fun h1 => ?_) (fun h1 => ?_)
  · obtain ⟨p, hp⟩ : ∃ p, l[i]? = some p := ⟨_, List.getElem?_eq_getElem (by omega)⟩
    have hpm := List.mem_of_getElem? hp
    have hpo := hok p hpm
    have hsa : a.isSome = true := by
      cases a with
      | none => rw [ha rfl] at hp; cases hp
      | some b => rfl
    have hbad : (Go.Core.plainS p.c && rangeB l.length p.c) = false → ¬ ValidP (l.map (·.c)) := fun h hv => by
      have := hv.2.1 p.c (List.mem_map.2 ⟨p, hpm, rfl⟩)
      rw [hml, ← cell_eq, h] at this
      cases this
    ((conv => whnf); (repeat ((first | refine RwN.own ?_ | refine VrN.norm (wrap_i64 (by omega)) ?_ | refine VrN.keep ?_ | refine DrawN.calm (by decide +kernel) ?_ | refine Nd.mk (by decide +kernel) ?_ | refine Nd.mk (by omega) ?_ | (refine Nd.mk ?_ ?_; focus ((repeat' (first | exact trivial | exact wkE_refl _ | refine And.intro ?_ ?_)); done)) | refine RdN.intro _ rfl (by rfl) ?_); (conv => whnf))))
    refine Nd.mk ⟨hsa, by omega, by omega⟩ ?_
    ((conv => whnf); (repeat ((first | refine RwN.own ?_ | refine VrN.norm (wrap_i64 (by omega)) ?_ | refine VrN.keep ?_ | refine DrawN.calm (by decide +kernel) ?_ | refine Nd.mk (by decide +kernel) ?_ | refine Nd.mk (by omega) ?_ | (refine Nd.mk ?_ ?_; focus ((repeat' (first | exact trivial | exact wkE_refl _ | refine And.intro ?_ ?_)); done)) | refine RdN.intro _ rfl (by rfl) ?_); (conv => whnf))))
    refine LdN.agg (cellC p) rfl (fun w hw => hw.1.1) rfl (fun k hk => by rw [Int.toNat_natCast]; exact grC_get l i k hk hp) ?_
    ((conv => whnf); (repeat ((first | refine RwN.own ?_ | refine VrN.norm (wrap_i64 (by omega)) ?_ | refine VrN.keep ?_ | refine DrawN.calm (by decide +kernel) ?_ | refine Nd.mk (by decide +kernel) ?_ | refine Nd.mk (by omega) ?_ | (refine Nd.mk ?_ ?_; focus ((repeat' (first | exact trivial | exact wkE_refl _ | refine And.intro ?_ ?_)); done)) | refine RdN.intro _ rfl (by rfl) ?_); (conv => whnf))))
    refine BoxN.known [.int .i64 0, .int .i64 0, .string { data := #[] }, .slice none 0 0, .slice none 0 0] rfl fun cb => ?_
    ((conv => whnf); (repeat ((first | refine RwN.own ?_ | refine VrN.norm (wrap_i64 (by omega)) ?_ | refine VrN.keep ?_ | refine DrawN.calm (by decide +kernel) ?_ | refine Nd.mk (by decide +kernel) ?_ | refine Nd.mk (by omega) ?_ | (refine Nd.mk ?_ ?_; focus ((repeat' (first | exact trivial | exact wkE_refl _ | refine And.intro ?_ ?_)); done)) | refine RdN.intro _ rfl (by rfl) ?_); (conv => whnf))))
    refine EffW.appTo (i := 2) (q := 0) (ys := cellC p) (cellC p) 5 rfl rfl rfl rfl rfl rfl rfl (Nat.le_of_ble_eq_true rfl) rfl rfl ?_
    ((conv => whnf); (repeat ((first | refine RwN.own ?_ | refine VrN.norm (wrap_i64 (by omega)) ?_ | refine VrN.keep ?_ | refine DrawN.calm (by decide +kernel) ?_ | refine Nd.mk (by decide +kernel) ?_ | refine Nd.mk (by omega) ?_ | (refine Nd.mk ?_ ?_; focus ((repeat' (first | exact trivial | exact wkE_refl _ | refine And.intro ?_ ?_)); done)) | refine RdN.intro _ rfl (by rfl) ?_); (conv => whnf))))
    refine LdN.agg (a := some ⟨cb, 0, none⟩) (q := 0) (cellC p) rfl (fun w hw => hw.2.2.1) rfl (fun k hk => by rw [Nat.zero_add]) ?_
    ((conv => whnf); (repeat ((first | refine RwN.own ?_ | refine VrN.norm (wrap_i64 (by omega)) ?_ | refine VrN.keep ?_ | refine DrawN.calm (by decide +kernel) ?_ | refine Nd.mk (by decide +kernel) ?_ | refine Nd.mk (by omega) ?_ | (refine Nd.mk ?_ ?_; focus ((repeat' (first | exact trivial | exact wkE_refl _ | refine And.intro ?_ ?_)); done)) | refine RdN.intro _ rfl (by rfl) ?_); (conv => whnf))))
    refine call1 (plain_c p hpo (hsm p hpm) _ (fun w hw => hw.1.2 p hpm)) ?_
    cases hpl : Go.Core.plainS p.c with
    | false =>
      ((conv => whnf); (repeat ((first | refine RwN.own ?_ | refine VrN.norm (wrap_i64 (by omega)) ?_ | refine VrN.keep ?_ | refine DrawN.calm (by decide +kernel) ?_ | refine Nd.mk (by decide +kernel) ?_ | refine Nd.mk (by omega) ?_ | (refine Nd.mk ?_ ?_; focus ((repeat' (first | exact trivial | exact wkE_refl _ | refine And.intro ?_ ?_)); done)) | refine RdN.intro _ rfl (by rfl) ?_); (conv => whnf))))
      exact out_int (hno (hbad (by rw [hpl]; rfl)))
    | true =>
    ((conv => whnf); (repeat ((first | refine RwN.own ?_ | refine VrN.norm (wrap_i64 (by omega)) ?_ | refine VrN.keep ?_ | refine DrawN.calm (by decide +kernel) ?_ | refine Nd.mk (by decide +kernel) ?_ | refine Nd.mk (by omega) ?_ | (refine Nd.mk ?_ ?_; focus ((repeat' (first | exact trivial | exact wkE_refl _ | refine And.intro ?_ ?_)); done)) | refine RdN.intro _ rfl (by rfl) ?_); (conv => whnf))))
    refine LdN.one (a := some ⟨cb, 0, none⟩) (q := 4) (.slice p.ia p.c.items.length p.ic) rfl (fun w hw => hw.2.2.1) rfl ?_
    ((conv => whnf); (repeat ((first | refine RwN.own ?_ | refine VrN.norm (wrap_i64 (by omega)) ?_ | refine VrN.keep ?_ | refine DrawN.calm (by decide +kernel) ?_ | refine Nd.mk (by decide +kernel) ?_ | refine Nd.mk (by omega) ?_ | (refine Nd.mk ?_ ?_; focus ((repeat' (first | exact trivial | exact wkE_refl _ | refine And.intro ?_ ?_)); done)) | refine RdN.intro _ rfl (by rfl) ?_); (conv => whnf))))
    refine SpecH.args (args' := pvs [.slice p.ia p.c.items.length p.ic, .func (.func 47) #[] #[.pointer (some ⟨gb, 0, none⟩)]]) (by simp [pvs, opvs, opv, nth, plainEv]; try rfl) ?_
    refine call1 (HasI_c (fun x => decide (x < 0) || decide (x ≥ (l.length : Int))) 47 #[.pointer (some ⟨gb, 0, none⟩)] (SlAt (some ⟨gb, 0, none⟩) 1 [.slice a l.length ca]) p.ia p.ic p.c.items (fun x _ H hH => out_c x gb a l.length ca H hH) hpo.ia hpo.il _ (fun w hw => ⟨(hw.1.2 p hpm).2, hw.2.1⟩)) ?_
    rw [any_range]
    cases hrg : rangeB l.length p.c with
    | false =>
      ((conv => whnf); (repeat ((first | refine RwN.own ?_ | refine VrN.norm (wrap_i64 (by omega)) ?_ | refine VrN.keep ?_ | refine DrawN.calm (by decide +kernel) ?_ | refine Nd.mk (by decide +kernel) ?_ | refine Nd.mk (by omega) ?_ | (refine Nd.mk ?_ ?_; focus ((repeat' (first | exact trivial | exact wkE_refl _ | refine And.intro ?_ ?_)); done)) | refine RdN.intro _ rfl (by rfl) ?_); (conv => whnf))))
      exact out_int (hno (hbad (by rw [hpl, hrg]; rfl)))
    | true =>
    ((conv => whnf); (repeat ((first | refine RwN.own ?_ | refine VrN.norm (wrap_i64 (by omega)) ?_ | refine VrN.keep ?_ | refine DrawN.calm (by decide +kernel) ?_ | refine Nd.mk (by decide +kernel) ?_ | refine Nd.mk (by omega) ?_ | (refine Nd.mk ?_ ?_; focus ((repeat' (first | exact trivial | exact wkE_refl _ | refine And.intro ?_ ?_)); done)) | refine RdN.intro _ rfl (by rfl) ?_); (conv => whnf))))
    refine ⟨i + 1, ⟨by omega, all_step hc hp (by rw [← cell_eq, hpl, hrg]; rfl)⟩, by omega, ?_, by (repeat' (first | exact trivial | exact wkE_refl _ | refine And.intro ?_ ?_))⟩
    (repeat' (first | exact trivial | refine And.intro (by with_reducible rfl) ?_ | (with_reducible exact wkC_refl _) | (with_reducible exact wkCs_refl _) | refine And.intro ?_ ?_))
    all_goals first | rfl | exact av_int (by rw [wrap_i64 (by omega)]; omega)
  have hil : i = l.length := by omega
  subst hil
  rw [List.take_length] at hc
  clear h1
  ((conv => whnf); (repeat ((first | refine RwN.own ?_ | refine VrN.norm (wrap_i64 (by omega)) ?_ | refine VrN.keep ?_ | refine DrawN.calm (by decide +kernel) ?_ | refine Nd.mk (by decide +kernel) ?_ | refine Nd.mk (by omega) ?_ | (refine Nd.mk ?_ ?_; focus ((repeat' (first | exact trivial | exact wkE_refl _ | refine And.intro ?_ ?_)); done)) | refine RdN.intro _ rfl (by rfl) ?_); (conv => whnf))))
  -- the graph, out of its box
  refine LdN.one (a := some ⟨gb, 0, none⟩) (q := 0) (.slice a l.length ca) rfl (fun w hw => hw.2.1) rfl ?_
  ((conv => whnf); (repeat ((first | refine RwN.own ?_ | refine VrN.norm (wrap_i64 (by omega)) ?_ | refine VrN.keep ?_ | refine DrawN.calm (by decide +kernel) ?_ | refine Nd.mk (by decide +kernel) ?_ | refine Nd.mk (by omega) ?_ | (refine Nd.mk ?_ ?_; focus ((repeat' (first | exact trivial | exact wkE_refl _ | refine And.intro ?_ ?_)); done)) | refine RdN.intro _ rfl (by rfl) ?_); (conv => whnf))))
  refine loopS Nat (fun i => i ≤ l.length ∧ ∀ p ∈ l.take i, p.c.kind = 7 → ¬ Twice (l.map (·.c)) p.c.items) (fun i => mkS Tryz.f18.ntmps 0 [(1, .c (.v (.pointer (some ⟨gb, 0, none⟩)))), (26, .c (.v (.slice a l.length ca))), (27, .c (.v (.int .i64 (l.length : Int)))), (28, .c (.v (.int .i64 (i : Int))))]) (fun i => l.length - i) rfl (fun _ => rfl) 0 ⟨Nat.zero_le _, by simp⟩ ?_ ?_
  · (repeat' (first | exact trivial | refine And.intro (by with_reducible rfl) ?_ | (with_reducible exact wkC_refl _) | (with_reducible exact wkCs_refl _) | refine And.intro ?_ ?_))
    all_goals rfl
  intro i ⟨hi, ht⟩
  ((conv => whnf); (repeat ((first | refine RwN.own ?_ | refine VrN.norm (wrap_i64 (by omega)) ?_ | refine VrN.keep ?_ | refine DrawN.calm (by decide +kernel) ?_ | refine Nd.mk (by decide +kernel) ?_ | refine Nd.mk (by omega) ?_ | (refine Nd.mk ?_ ?_; focus ((repeat' (first | exact trivial | exact wkE_refl _ | refine And.intro ?_ ?_)); done)) | refine RdN.intro _ rfl (by rfl) ?_); (conv => whnf))))
  refine brd_dec (fun h1 => ?_) (fun h1 => ?_)
  · obtain ⟨p, hp⟩ : ∃ p, l[i]? = some p := ⟨_, List.getElem?_eq_getElem (by omega)⟩
    have hpm := List.mem_of_getElem? hp
    have hpo := hok p hpm
    have hsa : a.isSome = true := by
      cases a with
      | none => rw [ha rfl] at hp; cases hp
      | some b => rfl
    ((conv => whnf); (repeat ((first | refine RwN.own ?_ | refine VrN.norm (wrap_i64 (by omega)) ?_ | refine VrN.keep ?_ | refine DrawN.calm (by decide +kernel) ?_ | refine Nd.mk (by decide +kernel) ?_ | refine Nd.mk (by omega) ?_ | (refine Nd.mk ?_ ?_; focus ((repeat' (first | exact trivial | exact wkE_refl _ | refine And.intro ?_ ?_)); done)) | refine RdN.intro _ rfl (by rfl) ?_); (conv => whnf))))
    refine Nd.mk ⟨hsa, by omega, by omega⟩ ?_
    ((conv => whnf); (repeat ((first | refine RwN.own ?_ | refine VrN.norm (wrap_i64 (by omega)) ?_ | refine VrN.keep ?_ | refine DrawN.calm (by decide +kernel) ?_ | refine Nd.mk (by decide +kernel) ?_ | refine Nd.mk (by omega) ?_ | (refine Nd.mk ?_ ?_; focus ((repeat' (first | exact trivial | exact wkE_refl _ | refine And.intro ?_ ?_)); done)) | refine RdN.intro _ rfl (by rfl) ?_); (conv => whnf))))
    refine LdN.agg (cellC p) rfl (fun w hw => hw.1.1) rfl (fun k hk => by rw [Int.toNat_natCast]; exact grC_get l i k hk hp) ?_
    ((conv => whnf); (repeat ((first | refine RwN.own ?_ | refine VrN.norm (wrap_i64 (by omega)) ?_ | refine VrN.keep ?_ | refine DrawN.calm (by decide +kernel) ?_ | refine Nd.mk (by decide +kernel) ?_ | refine Nd.mk (by omega) ?_ | (refine Nd.mk ?_ ?_; focus ((repeat' (first | exact trivial | exact wkE_refl _ | refine And.intro ?_ ?_)); done)) | refine RdN.intro _ rfl (by rfl) ?_); (conv => whnf))))
    refine BoxN.known [.int .i64 0, .int .i64 0, .string { data := #[] }, .slice none 0 0, .slice none 0 0] rfl fun cb => ?_
    ((conv => whnf); (repeat ((first | refine RwN.own ?_ | refine VrN.norm (wrap_i64 (by omega)) ?_ | refine VrN.keep ?_ | refine DrawN.calm (by decide +kernel) ?_ | refine Nd.mk (by decide +kernel) ?_ | refine Nd.mk (by omega) ?_ | (refine Nd.mk ?_ ?_; focus ((repeat' (first | exact trivial | exact wkE_refl _ | refine And.intro ?_ ?_)); done)) | refine RdN.intro _ rfl (by rfl) ?_); (conv => whnf))))
    refine EffW.appTo (i := 2) (q := 0) (ys := cellC p) (cellC p) 5 rfl rfl rfl rfl rfl rfl rfl (Nat.le_of_ble_eq_true rfl) rfl rfl ?_
    ((conv => whnf); (repeat ((first | refine RwN.own ?_ | refine VrN.norm (wrap_i64 (by omega)) ?_ | refine VrN.keep ?_ | refine DrawN.calm (by decide +kernel) ?_ | refine Nd.mk (by decide +kernel) ?_ | refine Nd.mk (by omega) ?_ | (refine Nd.mk ?_ ?_; focus ((repeat' (first | exact trivial | exact wkE_refl _ | refine And.intro ?_ ?_)); done)) | refine RdN.intro _ rfl (by rfl) ?_); (conv => whnf))))
    refine LdN.one (a := some ⟨cb, 0, none⟩) (q := 0) (.int .i64 p.c.kind) rfl (fun w hw => hw.2.2.1) rfl ?_
    ((conv => whnf); (repeat ((first | refine RwN.own ?_ | refine VrN.norm (wrap_i64 (by omega)) ?_ | refine VrN.keep ?_ | refine DrawN.calm (by decide +kernel) ?_ | refine Nd.mk (by decide +kernel) ?_ | refine Nd.mk (by omega) ?_ | (refine Nd.mk ?_ ?_; focus ((repeat' (first | exact trivial | exact wkE_refl _ | refine And.intro ?_ ?_)); done)) | refine RdN.intro _ rfl (by rfl) ?_); (conv => whnf))))
    refine brd_eq (fun h7 => ?_) (fun h7 => ?_)
    · ((conv => whnf); (repeat ((first | refine RwN.own ?_ | refine VrN.norm (wrap_i64 (by omega)) ?_ | refine VrN.keep ?_ | refine DrawN.calm (by decide +kernel) ?_ | refine Nd.mk (by decide +kernel) ?_ | refine Nd.mk (by omega) ?_ | (refine Nd.mk ?_ ?_; focus ((repeat' (first | exact trivial | exact wkE_refl _ | refine And.intro ?_ ?_)); done)) | refine RdN.intro _ rfl (by rfl) ?_); (conv => whnf))))
      -- the graph, out of its box
      refine LdN.one (a := some ⟨gb, 0, none⟩) (q := 0) (.slice a l.length ca) rfl (fun w hw => hw.2.1) rfl ?_
      ((conv => whnf); (repeat ((first | refine RwN.own ?_ | refine VrN.norm (wrap_i64 (by omega)) ?_ | refine VrN.keep ?_ | refine DrawN.calm (by decide +kernel) ?_ | refine Nd.mk (by decide +kernel) ?_ | refine Nd.mk (by omega) ?_ | (refine Nd.mk ?_ ?_; focus ((repeat' (first | exact trivial | exact wkE_refl _ | refine And.intro ?_ ?_)); done)) | refine RdN.intro _ rfl (by rfl) ?_); (conv => whnf))))
      refine LdN.agg (a := some ⟨cb, 0, none⟩) (q := 0) (cellC p) rfl (fun w hw => hw.2.2.1) rfl (fun k hk => by rw [Nat.zero_add]) ?_
      ((conv => whnf); (repeat ((first | refine RwN.own ?_ | refine VrN.norm (wrap_i64 (by omega)) ?_ | refine VrN.keep ?_ | refine DrawN.calm (by decide +kernel) ?_ | refine Nd.mk (by decide +kernel) ?_ | refine Nd.mk (by omega) ?_ | (refine Nd.mk ?_ ?_; focus ((repeat' (first | exact trivial | exact wkE_refl _ | refine And.intro ?_ ?_)); done)) | refine RdN.intro _ rfl (by rfl) ?_); (conv => whnf))))
      obtain ⟨t, ht1, ht2⟩ := twice_c a ca l p ha (by omega) hpo (cellD_in (hc p hpm)) [.fact (GrF a l), .app 22 1 [.slice a l.length ca] (some ⟨gb, 0, none⟩) 1 1, .app 42 5 (cellC p) (some ⟨cb, 0, none⟩) 1 1] (fun w hw => ⟨hw.1, hw.1.2 p hpm⟩)
      refine call1 ht2 ?_
      cases ht3 : t with
      | true =>
        ((conv => whnf); (repeat ((first | refine RwN.own ?_ | refine VrN.norm (wrap_i64 (by omega)) ?_ | refine VrN.keep ?_ | refine DrawN.calm (by decide +kernel) ?_ | refine Nd.mk (by decide +kernel) ?_ | refine Nd.mk (by omega) ?_ | (refine Nd.mk ?_ ?_; focus ((repeat' (first | exact trivial | exact wkE_refl _ | refine And.intro ?_ ?_)); done)) | refine RdN.intro _ rfl (by rfl) ?_); (conv => whnf))))
        exact out_int (hno fun h => h.2.2 p.c (List.mem_map.2 ⟨p, hpm, rfl⟩) h7 (ht1.1 ht3))
      | false =>
      ((conv => whnf); (repeat ((first | refine RwN.own ?_ | refine VrN.norm (wrap_i64 (by omega)) ?_ | refine VrN.keep ?_ | refine DrawN.calm (by decide +kernel) ?_ | refine Nd.mk (by decide +kernel) ?_ | refine Nd.mk (by omega) ?_ | (refine Nd.mk ?_ ?_; focus ((repeat' (first | exact trivial | exact wkE_refl _ | refine And.intro ?_ ?_)); done)) | refine RdN.intro _ rfl (by rfl) ?_); (conv => whnf))))
      refine ⟨i + 1, ⟨by omega, all_step ht hp (fun _ h => by rw [ht1.2 h] at ht3; cases ht3)⟩, by omega, ?_, by (repeat' (first | exact trivial | exact wkE_refl _ | refine And.intro ?_ ?_))⟩
      (repeat' (first | exact trivial | refine And.intro (by with_reducible rfl) ?_ | (with_reducible exact wkC_refl _) | (with_reducible exact wkCs_refl _) | refine And.intro ?_ ?_))
      all_goals first | rfl | exact av_int (by rw [wrap_i64 (by omega)]; omega)
    · ((conv => whnf); (repeat ((first | refine RwN.own ?_ | refine VrN.norm (wrap_i64 (by omega)) ?_ | refine VrN.keep ?_ | refine DrawN.calm (by decide +kernel) ?_ | refine Nd.mk (by decide +kernel) ?_ | refine Nd.mk (by omega) ?_ | (refine Nd.mk ?_ ?_; focus ((repeat' (first | exact trivial | exact wkE_refl _ | refine And.intro ?_ ?_)); done)) | refine RdN.intro _ rfl (by rfl) ?_); (conv => whnf))))
      refine ⟨i + 1, ⟨by omega, all_step ht hp (fun h => absurd h h7)⟩, by omega, ?_, by (repeat' (first | exact trivial | exact wkE_refl _ | refine And.intro ?_ ?_))⟩
      (repeat' (first | exact trivial | refine And.intro (by with_reducible rfl) ?_ | (with_reducible exact wkC_refl _) | (with_reducible exact wkCs_refl _) | refine And.intro ?_ ?_))
      all_goals first | rfl | exact av_int (by rw [wrap_i64 (by omega)]; omega)
  · have hil : i = l.length := by omega
    subst hil
    rw [List.take_length] at ht
    ((conv => whnf); (repeat ((first | refine RwN.own ?_ | refine VrN.norm (wrap_i64 (by omega)) ?_ | refine VrN.keep ?_ | refine DrawN.calm (by decide +kernel) ?_ | refine Nd.mk (by decide +kernel) ?_ | refine Nd.mk (by omega) ?_ | (refine Nd.mk ?_ ?_; focus ((repeat' (first | exact trivial | exact wkE_refl _ | refine And.intro ?_ ?_)); done)) | refine RdN.intro _ rfl (by rfl) ?_); (conv => whnf))))
    have hbt : b = true := hb.2 ⟨by omega, fun c hcm => by
        obtain ⟨p, hp, rfl⟩ := List.mem_map.1 hcm
        rw [hml]
        exact hc p hp, fun c hcm => by
        obtain ⟨p, hp, rfl⟩ := List.mem_map.1 hcm
        exact ht p hp⟩
    exact out_int (by rw [hbt]; rfl)
end Go.Proofs.YtahjbnfbilkbcaaGreatDoor

/-
  Contract: asked (program).
-/
namespace Go.Core
/-- A graph is valid, and has these cells. -/
def AskP (g : List Cell) (cs : List Int) : Prop := ValidP g ∧ ∀ x ∈ cs, 0 ≤ x ∧ x < (g.length : Int)
end Go.Core
namespace Go.Proofs.YtahjbnfbilkbcaaGreatDoor
open Go.AX Go.RowKit Go.Core Go.Scan
set_option maxRecDepth 20000

theorem out2_c (x : Int) (b : Nat) (a : Option Addr) (n c : Nat) : ∀ H, (∀ w, Facts H w → SlAt (some ⟨b, 0, none⟩) 1 [.slice a n c] w) → SpecH Tryz.prog 93 (pvs [.int .i64 x, .pointer (some ⟨b, 0, none⟩)]) H (Ret (.bool (decide (x < 0) || decide (x ≥ (n : Int)))) H) := by
  refine factC hm Tryz.func93 (by kernel_rfl) rfl rfl ?_
  (first | refine wX ?_ | exact wZ)
  refine brd_dec (fun h1 => ?_) (fun h1 => ?_)
  · (first | refine wX ?_ | exact wZ)
    exact out_bool (by simp [h1])
  · (first | refine wX ?_ | exact wZ)
    refine LdN.one (a := some ⟨b, 0, none⟩) (q := 0) (.slice a n c) rfl (fun w hw => hw.1) rfl ?_
    (first | refine wX ?_ | exact wZ)
    exact out_bool (by simp [h1])
set_option maxHeartbeats 1000000 in
theorem asked_c (a : Option Addr) (ca : Nat) (l : List CellP) (ha : a = none → l = []) (hs : Small l) (hok : ∀ p ∈ l, CellOk p) (sa : Option Addr) (sc : Nat) (cs : List Int) (hsa : sa = none → cs = []) (hcl : cs.length ≤ 2000) :
    ∀ H, (∀ w, Facts H w → GrF a l w ∧ SlAt sa (cs.length * 1) (iC cs) w) → ∃ b : Bool, (b = true ↔ AskP (l.map (·.c)) cs) ∧ SpecH Tryz.prog 50 (pvs [.slice a l.length ca, .slice sa cs.length sc]) H (Ret (errI b) H) := by
  intro H hH
  obtain ⟨b, hb⟩ : ∃ b : Bool, b = true ↔ AskP (l.map (·.c)) cs := by
    by_cases h : AskP (l.map (·.c)) cs
    · exact ⟨true, fun _ => h, fun _ => rfl⟩
    · exact ⟨false, (fun h => by cases h), fun h2 => absurd h2 h⟩
  refine ⟨b, hb, ?_⟩
  refine factC hm Tryz.func50 (by kernel_rfl) rfl rfl ?_ H hH
  ((conv => whnf); (repeat ((first | refine RwN.own ?_ | refine VrN.norm (wrap_i64 (by omega)) ?_ | refine VrN.keep ?_ | refine DrawN.calm (by decide +kernel) ?_ | refine Nd.mk (by decide +kernel) ?_ | refine Nd.mk (by omega) ?_ | (refine Nd.mk ?_ ?_; focus ((repeat' (first | exact trivial | exact wkE_refl _ | refine And.intro ?_ ?_)); done)) | refine RdN.intro _ rfl (by rfl) ?_); (conv => whnf))))
  refine BoxN.known [.slice a l.length ca] rfl fun gb => ?_
  ((conv => whnf); (repeat ((first | refine RwN.own ?_ | refine VrN.norm (wrap_i64 (by omega)) ?_ | refine VrN.keep ?_ | refine DrawN.calm (by decide +kernel) ?_ | refine Nd.mk (by decide +kernel) ?_ | refine Nd.mk (by omega) ?_ | (refine Nd.mk ?_ ?_; focus ((repeat' (first | exact trivial | exact wkE_refl _ | refine And.intro ?_ ?_)); done)) | refine RdN.intro _ rfl (by rfl) ?_); (conv => whnf))))
  refine SpecH.args (args' := pvs [.slice sa cs.length sc, .func (.func 93) #[] #[.pointer (some ⟨gb, 0, none⟩)]]) (by simp [pvs, opvs, opv, nth, plainEv]; try rfl) ?_
  refine call1 (HasI_c (fun x => decide (x < 0) || decide (x ≥ (l.length : Int))) 93 #[.pointer (some ⟨gb, 0, none⟩)] (SlAt (some ⟨gb, 0, none⟩) 1 [.slice a l.length ca]) sa sc cs (fun x _ H hH => out2_c x gb a l.length ca H hH) hsa (by omega) _ (fun w hw => ⟨hw.1.2, hw.2.1⟩)) ?_
  cases hany : cs.any fun x => decide (x < 0) || decide (x ≥ (l.length : Int)) with
  | true =>
    ((conv => whnf); (repeat ((first | refine RwN.own ?_ | refine VrN.norm (wrap_i64 (by omega)) ?_ | refine VrN.keep ?_ | refine DrawN.calm (by decide +kernel) ?_ | refine Nd.mk (by decide +kernel) ?_ | refine Nd.mk (by omega) ?_ | (refine Nd.mk ?_ ?_; focus ((repeat' (first | exact trivial | exact wkE_refl _ | refine And.intro ?_ ?_)); done)) | refine RdN.intro _ rfl (by rfl) ?_); (conv => whnf))))
    obtain ⟨x, hx, hx2⟩ := List.any_eq_true.1 hany
    refine out_int ?_
    cases b with
    | false => rfl
    | true =>
      have h1 := (hb.1 rfl).2 x hx
      simp at hx2 h1
      omega
  | false =>
    ((conv => whnf); (repeat ((first | refine RwN.own ?_ | refine VrN.norm (wrap_i64 (by omega)) ?_ | refine VrN.keep ?_ | refine DrawN.calm (by decide +kernel) ?_ | refine Nd.mk (by decide +kernel) ?_ | refine Nd.mk (by omega) ?_ | (refine Nd.mk ?_ ?_; focus ((repeat' (first | exact trivial | exact wkE_refl _ | refine And.intro ?_ ?_)); done)) | refine RdN.intro _ rfl (by rfl) ?_); (conv => whnf))))
    refine LdN.one (a := some ⟨gb, 0, none⟩) (q := 0) (.slice a l.length ca) rfl (fun w hw => hw.2.1) rfl ?_
    ((conv => whnf); (repeat ((first | refine RwN.own ?_ | refine VrN.norm (wrap_i64 (by omega)) ?_ | refine VrN.keep ?_ | refine DrawN.calm (by decide +kernel) ?_ | refine Nd.mk (by decide +kernel) ?_ | refine Nd.mk (by omega) ?_ | (refine Nd.mk ?_ ?_; focus ((repeat' (first | exact trivial | exact wkE_refl _ | refine And.intro ?_ ?_)); done)) | refine RdN.intro _ rfl (by rfl) ?_); (conv => whnf))))
    obtain ⟨t, ht1, ht2⟩ := Check_c a ca l ha hs hok [.fact (fun w => GrF a l w ∧ SlAt sa (cs.length * 1) (iC cs) w), .app 22 1 [.slice a l.length ca] (some ⟨gb, 0, none⟩) 1 1] (fun w hw => hw.1.1)
    have hbt : b = t := by
      rw [Bool.eq_iff_iff, hb, ht1]
      refine ⟨fun h => h.1, fun h => ⟨h, fun x hx => ?_⟩⟩
      have := List.any_eq_false.1 hany x hx
      simp at this ⊢
      omega
    refine call1 ht2 ?_
    rw [hbt]
    ((conv => whnf); (repeat ((first | refine RwN.own ?_ | refine VrN.norm (wrap_i64 (by omega)) ?_ | refine VrN.keep ?_ | refine DrawN.calm (by decide +kernel) ?_ | refine Nd.mk (by decide +kernel) ?_ | refine Nd.mk (by omega) ?_ | (refine Nd.mk ?_ ?_; focus ((repeat' (first | exact trivial | exact wkE_refl _ | refine And.intro ?_ ?_)); done)) | refine RdN.intro _ rfl (by rfl) ?_); (conv => whnf))))
    rfl
end Go.Proofs.YtahjbnfbilkbcaaGreatDoor

/-
  Contracts: the strings.Builder within a writer of one's own.
-/
namespace Go.Proofs.YtahjbnfbilkbcaaGreatDoor
open Go.AX Go.RowKit Go.Core
set_option maxRecDepth 20000

/-- What the Builder's first cell holds: nothing, or its own address, within the writer. -/
def bC1 (u : Bool) : CV := match u with | true => .lp 0 1 | false => .v (.pointer none)
def wH (gv : Value) (F : World → Prop) (u : Bool) (out : List UInt8) (i : BSt) (way : List Int) (j : BSt) : List Ent :=
  [.blk 88 [.v gv, bC1 u, .v (.slice (at0 i.ob) out.length i.cap), .v (.slice (at0 j.ob) way.length j.cap)], .app 5 1 (u8s out) (at0 i.ob) out.length i.cap, .app 3 1 (iC way) (at0 j.ob) way.length j.cap, .fact F]
theorem wH_ok (gv : Value) (F : World → Prop) (u : Bool) (out : List UInt8) (i : BSt) (way : List Int) (j : BSt) : okH (wH gv F u out i way j).length (wH gv F u out i way j) := by cases u <;> exact okHB_eq rfl
variable (gv : Value) (F : World → Prop) (way : List Int) (j : BSt)

theorem copyCheck_w (u : Bool) (out : List UInt8) (i : BSt) : SpecH Tryz.prog 116 [.c (.lp 0 1)] (wH gv F u out i way j) (RetG (ι := Unit) (fun _ => True) (fun _ => .tuple #[]) fun _ => wH gv F true out i way j) := by
  refine ownC hm Tryz.func116 (by kernel_rfl) rfl rfl (fun _ _ => wH_ok _ _ _ _ _ _ _) (fun _ _ => Nat.le_refl _) ?_
  cases u with
  | false =>
    (first | refine wX ?_ | exact wZ)
    refine ReadW.toUnsafe 86 rfl (by kernel_rfl) (by kernel_rfl) (by kernel_rfl) rfl rfl (Nat.succ_lt_succ (Nat.zero_lt_succ _)) ?_
    (first | refine wX ?_ | exact wZ)
    refine EffW.ext (e := Extern.AbiNoEscape.same) rfl Tryz.func130 (by kernel_rfl) (by kernel_rfl) (by kernel_rfl) (by kernel_rfl) (.c (.lp 0 1)) ?_ ?_
    · (first | refine wX ?_ | exact wZ)
      refine ReadW.fromUnsafe 86 rfl (by kernel_rfl) (by kernel_rfl) (by kernel_rfl) rfl rfl (by show liesAt _ _ _ (4 / _) _ _ _ = true; kernel_rfl) ?_
      (first | refine wX ?_ | exact wZ)
      exact ⟨(), trivial, rfl, wkH_refl _⟩
    · intro ρ vs hr
      match vs, hr with
      | [v], hr => exact ⟨v, hr.1, fun w => rfl⟩
      | [], hr => exact hr.elim
      | _ :: _ :: _, hr => exact hr.2.elim
  | true =>
    (first | refine wX ?_ | exact wZ)
    refine ReadW.lp_nil rfl (by kernel_rfl) rfl rfl false (.inl ⟨rfl, rfl⟩) ?_
    (first | refine wX ?_ | exact wZ)
    refine ReadW.lp_same rfl (by kernel_rfl) rfl rfl false (.inr ⟨rfl, rfl⟩) ?_
    (first | refine wX ?_ | exact wZ)
    exact ⟨(), trivial, rfl, wkH_refl _⟩
theorem WriteString_w (u : Bool) (l x : List UInt8) (i0 : BSt) (ok : i0.ok l.length) (room : l.length + x.length ≤ 140737488355328) : SpecH Tryz.prog 95 [.c (.lp 0 1), .c (.v (.string (bs x)))] (wH gv F u l i0 way j)
    (RetG (ι := BSt) (fun i => i.ok (l ++ x).length) (fun _ => .tuple #[.int .i64 x.length, .nilIface]) fun i => wH gv F true (l ++ x) i way j) := by
  refine ownC hm Tryz.func95 (by kernel_rfl) rfl rfl (fun _ _ => wH_ok _ _ _ _ _ _ _) (fun _ _ => Nat.le_refl _) ?_
  cases u with
  | false =>
    (first | refine wX ?_ | exact wZ)
    refine callG (copyCheck_w gv F way j false l i0) [0, 1, 2, 3] rfl ⟨rfl, rfl, rfl, rfl, trivial⟩ rfl fun _ _ => ?_
    (first | refine wX ?_ | exact wZ)
    refine EffW.appStr 1 rfl rfl rfl (by kernel_rfl) (by kernel_rfl) (by kernel_rfl) rfl rfl rfl (by rw [bs_size]; exact room) fun ob' cap' h1 h2 h3 => ?_
    rw [bs_size, bs_list] at *
    (first | refine wX ?_ | exact wZ)
    refine ⟨⟨ob', cap'⟩, ⟨by simpa using h1, by simpa using h2, fun h => ?_⟩, by rw [bs_size], ?_⟩
    · obtain ⟨h4, h5⟩ := h3 h
      have := ok.2.2 h4
      rw [this] at h5
      cases ob' with
      | none => rfl
      | some _ => cases h5
    · exact wkH_of_eq (by simp [wH, u8s, bC1, rnC, rnCs, rnI, rnE])
  | true =>
    (first | refine wX ?_ | exact wZ)
    refine callG (copyCheck_w gv F way j true l i0) [0, 1, 2, 3] rfl ⟨rfl, rfl, rfl, rfl, trivial⟩ rfl fun _ _ => ?_
    (first | refine wX ?_ | exact wZ)
    refine EffW.appStr 1 rfl rfl rfl (by kernel_rfl) (by kernel_rfl) (by kernel_rfl) rfl rfl rfl (by rw [bs_size]; exact room) fun ob' cap' h1 h2 h3 => ?_
    rw [bs_size, bs_list] at *
    (first | refine wX ?_ | exact wZ)
    refine ⟨⟨ob', cap'⟩, ⟨by simpa using h1, by simpa using h2, fun h => ?_⟩, by rw [bs_size], ?_⟩
    · obtain ⟨h4, h5⟩ := h3 h
      have := ok.2.2 h4
      rw [this] at h5
      cases ob' with
      | none => rfl
      | some _ => cases h5
    · exact wkH_of_eq (by simp [wH, u8s, bC1, rnC, rnCs, rnI, rnE])
theorem Len_w (u : Bool) (l : List UInt8) (i0 : BSt) : SpecH Tryz.prog 94 [.c (.lp 0 1)] (wH gv F u l i0 way j) (RetG (ι := Unit) (fun _ => True) (fun _ => .int .i64 l.length) fun _ => wH gv F u l i0 way j) := by
  refine ownC hm Tryz.func94 (by kernel_rfl) rfl rfl (fun _ _ => wH_ok _ _ _ _ _ _ _) (fun _ _ => Nat.le_refl _) ?_
  (first | refine wX ?_ | exact wZ)
  exact ⟨(), trivial, rfl, wkH_refl _⟩
theorem String_w (u : Bool) (l : List UInt8) (i0 : BSt) (ok : i0.ok l.length) : SpecH Tryz.prog 52 [.c (.lp 0 1)] (wH gv F u l i0 way j)
    (RetG (ι := Unit) (fun _ => True) (fun _ => .string (bs l)) fun _ => [.dead, .dead, .dead, .fact F]) := by
  refine ownC hm Tryz.func52 (by kernel_rfl) rfl rfl (fun _ _ => ⟨trivial, trivial, trivial, trivial, trivial⟩) (fun _ _ => Nat.le_refl _) ?_
  (first | refine wX ?_ | exact wZ)
  refine DrawN.plan [0, 5] [(1, 1), (2, 1), (3, 1), (4, 1), (6, 1), (7, 1), (8, 1), (9, 1)] [(10, 0), (11, 0)] (by decide +kernel) ?_
  (first | refine wX ?_ | exact wZ)
  refine ReadW.sliceData rfl rfl rfl (fun h h2 => h (ok.2.2 h2)) ?_
  (first | refine wX ?_ | exact wZ)
  refine EffW.usStr 1 l rfl rfl rfl rfl (by kernel_rfl) (by kernel_rfl) rfl rfl rfl ?_
  (first | refine wX ?_ | exact wZ)
  exact ⟨(), trivial, rfl, trivial, trivial, trivial, fun _ h => h, trivial⟩
end Go.Proofs.YtahjbnfbilkbcaaGreatDoor

/-
  Plain: how long texts of cells become.
-/
namespace Go.Core

/-- What bounds a graph's texts. -/
structure Short (leafT : Cell → List UInt8) (g : List Cell) : Prop where
  leaf : ∀ a, isLeaf (at_ g a) = true → (leafT (at_ g a)).length ≤ 10000
  text : ∀ a, (at_ g a).kind = 8 → (at_ g a).text.length ≤ 2000
  names : ∀ a, ∀ s ∈ (at_ g a).names, s.length ≤ 40
  items : ∀ a, (at_ g a).items.length ≤ 2000
section
variable {M : Nat} {leafT : Cell → List UInt8} {g : List Cell}
theorem name_le (h : Short leafT g) (a : Int) (i : Nat) : ((at_ g a).names.getD i []).length ≤ 40 := by
  rw [List.getD_eq_getElem?_getD]
  cases hi : (at_ g a).names[i]? with
  | none => simp
  | some s => exact h.names a s (List.mem_of_getElem? hi)
theorem front_le (h : Short leafT g) (a : Int) : (frontT (at_ g a)).length ≤ 2002 := by
  unfold frontT
  split
  · simp
  split
  · have := h.text a (by assumption); simp; omega
  · simp
theorem back_le (c : Cell) : (backT c).length = 1 := by unfold backT; split <;> (try split) <;> rfl
theorem mark_le (c : Cell) : (markT c).length ≤ 4 := by unfold markT; split <;> simp
theorem pre_le (h : Short leafT g) (a : Int) (i : Nat) : (preT (at_ g a) i).length ≤ 50 := by
  have := name_le h a i
  unfold preT
  split
  · split <;> simp only [List.length_append, List.length_cons, List.length_nil] <;> omega
  split
  · simp
  split <;> simp
theorem foldT_len {f : List UInt8 → Int → List UInt8} {pre : Nat → List UInt8} {p X : Nat} (hp : ∀ i, (pre i).length ≤ p) (hX : M ≤ X) (h1 : ∀ o k, M < o.length → f o k = o) (h2 : ∀ o k, o.length ≤ M → (f o k).length ≤ X) :
    ∀ (l : List Int) (i : Nat) (out : List UInt8) (B : Nat), X ≤ B → out.length ≤ B → (foldT f pre i l out).length ≤ B + l.length * p
  | [], _, out, B, _, hb => by unfold foldT; simpa using hb
  | k :: l, i, out, B, hB, hb => by
    have hpi := hp i
    unfold foldT
    have h3 : (f (out ++ pre i) k).length ≤ B + p := by
      rcases Nat.lt_or_ge M (out ++ pre i).length with h | h
      · rw [h1 _ _ h, List.length_append]; omega
      · have := h2 _ k h; omega
    have := foldT_len hp hX h1 h2 l (i + 1) _ (B + p) (by omega) h3
    rw [List.length_cons, Nat.add_mul]
    omega
theorem write_same (n : Nat) (out : List UInt8) (way : List Int) (a : Int) (h : M < out.length) : writeS M leafT g n out way a = out := by
  cases n with
  | zero => rfl
  | succ n => unfold writeS; rw [if_pos h]
theorem write_len (h : Short leafT g) : ∀ (n : Nat) (out : List UInt8) (way : List Int) (a : Int), (writeS M leafT g n out way a).length ≤ max out.length M + n * 200000
  | 0, out, way, a => by unfold writeS; omega
  | n + 1, out, way, a => by
    have hf := front_le h a
    have hb := back_le (at_ g a)
    have hm := mark_le (at_ g a)
    have hi := h.items a
    unfold writeS
    split
    · omega
    split
    · rename_i hl
      have := h.leaf a hl
      rw [List.length_append]; omega
    split
    · simp only [List.length_append]; omega
    · rw [List.length_append]
      have := foldT_len (M := M) (f := fun o k => writeS M leafT g n o (way ++ [a]) k) (pre := preT (at_ g a)) (p := 50) (X := M + n * 200000) (pre_le h a) (by omega) (fun o k ho => write_same n o _ k ho) (fun o k ho => by have := write_len h n o (way ++ [a]) k; omega) (at_ g a).items 0 (out ++ frontT (at_ g a)) (max (out.length + 2002) M + n * 200000) (by omega) (by rw [List.length_append]; omega)
      omega
end
end Go.Core

/-
  What a writer knows of its graph; slices.Contains at numbers.
-/
namespace Go.Core
theorem foldT_snoc {f : List UInt8 → Int → List UInt8} {pre : Nat → List UInt8} : ∀ (l : List Int) (i : Nat) (o : List UInt8) (x : Int), foldT f pre i (l ++ [x]) o = f (foldT f pre i l o ++ pre (i + l.length)) x
  | [], i, o, x => by simp [foldT]
  | y :: l, i, o, x => by
    rw [List.cons_append]
    unfold foldT
    rw [foldT_snoc l (i + 1), List.length_cons]
    rw [show i + 1 + l.length = i + (l.length + 1) by omega]
theorem foldT_take {f : List UInt8 → Int → List UInt8} {pre : Nat → List UInt8} {l : List Int} {k : Nat} {x : Int} (h : l[k]? = some x) (o : List UInt8) : foldT f pre 0 (l.take (k + 1)) o = f (foldT f pre 0 (l.take k) o ++ pre k) x := by
  have hk := (List.getElem?_eq_some_iff.1 h).1
  rw [List.take_add_one, h]
  show foldT f pre 0 (l.take k ++ [x]) o = _
  rw [foldT_snoc, List.length_take, Nat.zero_add, Nat.min_eq_left (by omega)]
theorem writeS_in {M : Nat} {leafT : Cell → List UInt8} {g : List Cell} {n : Nat} {out : List UInt8} {way : List Int} {u : Int} {c : Cell} (h : ¬ M < out.length) (hc : at_ g u = c) (hl : ¬ isLeaf c = true) : writeS M leafT g (n + 1) out way u = if u ∈ way then out ++ frontT c ++ markT c ++ backT c else
    foldT (fun o k => writeS M leafT g n o (way ++ [u]) k) (preT c) 0 c.items (out ++ frontT c) ++ backT c := by
  subst hc
  conv => lhs; unfold writeS
  rw [if_neg h, if_neg hl]
theorem preT_6 {c : Cell} (h : c.kind = 6) (k : Nat) : preT c k = if 0 < k then [44, 32] else [] := by
  unfold preT
  rw [if_neg (by omega), if_neg (by omega)]
theorem preT_7 {c : Cell} (h : c.kind = 7) (k : Nat) : preT c k = if k % 2 = 1 then [32, 61, 62, 32] else if 0 < k then [44, 32] else [] := by
  unfold preT
  rw [if_neg (by omega)]
  by_cases h2 : k % 2 = 1
  · rw [if_pos ⟨h, h2⟩, if_pos h2]
  · rw [if_neg (fun e => h2 e.2), if_neg h2]
theorem preT_8 {c : Cell} (h : c.kind = 8) (k : Nat) : preT c k = (if k = 0 then [32] else [44, 32]) ++ c.names.getD k [] ++ [61] := by
  unfold preT
  rw [if_pos h]
theorem way_le {n : Nat} {way : List Int} (hn : way.Nodup) (hr : ∀ x ∈ way, 0 ≤ x ∧ x < (n : Int)) : way.length ≤ n := by
  have h1 : (way.map Int.toNat).Nodup := (List.pairwise_map.2 (hn.imp_of_mem fun {a b} ha hb hab => by
    have := hr a ha
    have := hr b hb
    omega))
  have := Go.AX.nodup_len (b := List.range n) h1 fun x hx => by
    obtain ⟨y, hy, rfl⟩ := List.mem_map.1 hx
    have := hr y hy
    exact List.mem_range.2 (by omega)
  simpa using this
def leafS (qt : List UInt8 → List UInt8) (it : Int → List UInt8) (c : Cell) : List UInt8 :=
  if c.kind = 0 then [110, 105, 108] else if c.kind = 1 then [116, 114, 117, 101] else if c.kind = 2 then [102, 97, 108, 115, 101] else if c.kind = 3 then it c.num else if c.kind = 4 then [34] ++ qt c.text ++ [34] else [58] ++ c.text
theorem at_cases (g : List Cell) (a : Int) : at_ g a ∈ g ∨ at_ g a = nilC := by
  unfold at_
  rw [List.getD_eq_getElem?_getD]
  cases h : g[a.toNat]? with
  | none => exact .inr rfl
  | some c => exact .inl (List.mem_of_getElem? h)
theorem cellD_kind {n : Nat} {c : Cell} (h : cellD n c = true) : 0 ≤ c.kind ∧ c.kind ≤ 8 := by
  unfold cellD at h
  simp only [Bool.and_eq_true, Bool.not_eq_true', Bool.or_eq_false_iff, decide_eq_false_iff_not] at h
  have := h.1.2.1.1.1
  omega
theorem cellD_text {n : Nat} {c : Cell} (h : cellD n c = true) : c.text.length ≤ 2000 := by
  have hk := cellD_kind h
  unfold cellD at h
  simp only [Bool.and_eq_true] at h
  have h2 := h.2
  split at h2
  · have := h2
    simp only [Bool.and_eq_true, decide_eq_true_eq] at this
    rw [this.1.1]; simp
  split at h2
  · simpa using h2
  split at h2
  · have : c.text.length ≤ 40 := by simpa using h2
    omega
  split at h2
  · simp only [Bool.and_eq_true, decide_eq_true_eq] at h2
    rw [h2.1]; simp
  split at h2
  · simp only [Bool.and_eq_true] at h2
    have := h2.1.1
    unfold constD wordD at this
    simp only [Bool.and_eq_true, decide_eq_true_eq] at this
    omega
  · have : c.text = [] := by simpa using h2
    rw [this]; simp
theorem cellD_names {n : Nat} {c : Cell} (h : cellD n c = true) : ∀ s ∈ c.names, s.length ≤ 40 := by
  intro s hs
  have hk : c.kind = 8 := by
    unfold cellD at h
    simp only [Bool.and_eq_true, Bool.not_eq_true', Bool.or_eq_false_iff, Bool.and_eq_false_iff, decide_eq_false_iff_not] at h
    rcases h.1.2.1.2 with h1 | h1
    · simpa using h1
    · have : c.names = [] := by simpa using h1
      rw [this] at hs; cases hs
  have h1 := cell_eq n c
  rw [h] at h1
  unfold plainS at h1
  simp only [Bool.and_eq_true] at h1
  have h2 := h1.1.2
  rw [if_neg (by omega), if_neg (by omega)] at h2
  simp only [Bool.and_eq_true] at h2
  have := List.all_eq_true.1 h2.2 s hs
  unfold Go.Scan.iiB at this
  simp only [Bool.and_eq_true, decide_eq_true_eq] at this
  exact this.2
theorem cellD_lens {n : Nat} {c : Cell} (h : cellD n c = true) (h8 : c.kind = 8) : c.names.length = c.items.length := by
  have h1 := cell_eq n c
  rw [h] at h1
  unfold plainS at h1
  simp only [Bool.and_eq_true] at h1
  have h2 := h1.1.2
  rw [if_neg (by omega), if_neg (by omega)] at h2
  simp only [Bool.and_eq_true, decide_eq_true_eq] at h2
  exact h2.1.1
theorem valid_short {g : List Cell} {qt : List UInt8 → List UInt8} {it : Int → List UInt8} (hv : ValidP g) (hs : ∀ c ∈ g, c.items.length ≤ 2000) (hq : ∀ s, (qt s).length ≤ 2 * s.length) (hi : ∀ x, (it x).length ≤ 30) : Short (leafS qt it) g := by
  have hall : ∀ a, cellD g.length (at_ g a) = true ∨ at_ g a = nilC := fun a => (at_cases g a).imp (hv.2.1 _) id
  have ht : ∀ a, (at_ g a).text.length ≤ 2000 := fun a => by
    rcases hall a with h | h
    · exact cellD_text h
    · rw [h]; exact Nat.zero_le _
  refine ⟨fun a _ => ?_, fun a _ => ht a, fun a s hsm => ?_, fun a => ?_⟩
  · have h1 := ht a
    have h2 := hq (at_ g a).text
    have h3 := hi (at_ g a).num
    unfold leafS
    repeat' split
    all_goals first | omega | (simp only [List.length_append, List.length_cons, List.length_nil]; omega)
  · rcases hall a with h | h
    · exact cellD_names h s hsm
    · rw [h] at hsm; cases hsm
  · rcases at_cases g a with h | h
    · exact hs _ h
    · rw [h]; exact Nat.zero_le _
end Go.Core
namespace Go.Proofs.YtahjbnfbilkbcaaGreatDoor
open Go.AX Go.RowKit Go.Core Go.Scan
set_option maxRecDepth 20000

structure WEnv (a : Option Addr) (l : List CellP) (E : World → Prop) (qt : List UInt8 → List UInt8) (it : Int → List UInt8) : Prop where
  ha : a = none → l = []
  sm : Small l
  ok : ∀ p ∈ l, CellOk p
  val : ValidP (l.map (·.c))
  q : ∀ p ∈ l, p.c.kind = 4 → ∀ H, SpecH Tryz.prog 98 (pvs [.string (bs p.c.text)]) H (Ret (.string (bs (qt p.c.text))) H)
  ql : ∀ s, (qt s).length ≤ 2 * s.length
  i : ∀ p ∈ l, p.c.kind = 3 → ∀ H, (∀ w, Facts H w → E w) → SpecH Tryz.prog 97 (pvs [.int .i64 p.c.num]) H (Ret (.string (bs (it p.c.num))) H)
  il : ∀ x, (it x).length ≤ 30
theorem WEnv.short {a : Option Addr} {l : List CellP} {E : World → Prop} {qt : List UInt8 → List UInt8} {it : Int → List UInt8} (V : WEnv a l E qt it) : Short (leafS qt it) (l.map (·.c)) :=
  valid_short V.val (fun c hc => by
    obtain ⟨p, hp, rfl⟩ := List.mem_map.1 hc
    exact (V.sm.2 p hp).2) V.ql V.il
theorem contains_c (ob : Option Nat) (cap : Nat) (way : List Int) (x : Int) (hob : ob = none → way = []) (hl : way.length ≤ 200000000000000) : ∀ H, (∀ w, Facts H w → SlAt (at0 ob) (way.length * 1) (iC way) w) → SpecH Tryz.prog 121 (pvs [.slice (at0 ob) way.length cap, .int .i64 x]) H (Ret (.bool (decide (x ∈ way))) H) := fun H hH =>
  SpecH.rawP (R := fun r => r = .bool (decide (x ∈ way))) (callOk Tryz.func121 (by kernel_rfl) rfl) (fun w hw => by
    cases ob with
    | none =>
      obtain rfl := hob rfl
      exact (Tryz.slices_Contains_int_empty _ cap x w).mono fun e w' ⟨he, hw'⟩ => by
        subst hw'
        exact ⟨_, he, by simp, Below.refl _ _⟩
    | some b =>
      have hs := hH w hw
      refine (Tryz.slices_Contains_int b 0 way.length cap way x w (Nat.le_refl _) (by omega) fun j hj => ?_).mono fun e w' ⟨he, hw'⟩ => ?_
      · have := hs.2.2 j (by omega)
        unfold iC at this
        rw [List.getElem?_map, List.getElem?_eq_getElem hj] at this
        rw [List.getD_eq_getElem?_getD, List.getElem?_eq_getElem hj]
        have e2 : ((at0 (some b)).getD default).add j = ⟨b, 0 + j, none⟩ := add_lit _ _ _
        rw [e2] at this
        exact this
      · subst hw'
        refine ⟨_, he, ?_, Below.refl _ _⟩
        rw [List.take_length, List.contains_eq_mem]) fun r hr => by subst hr; exact ⟨rfl, rfl⟩
end Go.Proofs.YtahjbnfbilkbcaaGreatDoor

/-
  Contracts: what a list has; what a cell's text begins and ends with (document).
-/
namespace Go.Core
end Go.Core
namespace Go.Proofs.YtahjbnfbilkbcaaGreatDoor
open Go.AX Go.RowKit Go.Core Go.Scan
set_option maxRecDepth 20000

end Go.Proofs.YtahjbnfbilkbcaaGreatDoor

/-
  Contract: strings.NewReplacer: a struct at a known address that holds the texts.
-/
namespace Go.Proofs.YtahjbnfbilkbcaaGreatDoor
open Go.AX Go.RowKit
set_option maxRecDepth 20000

/-- The cells of a Replacer: the Once's word, its lock's state and sema, what replaces, the texts. -/
def replC (once st : Int) (r : Value) (a : Option Addr) (n cap : Nat) : List Value := [.int .u32 once, .int .i32 st, .int .u32 0, r, .slice a n cap]
theorem NewReplacer_c (b0 : Nat) (xs : List Value) (cap : Nat) (hl : xs.length ≤ 1000) (he : xs.length % 2 = 0) (h0 : xs ≠ []) (h1 : ∀ u ∈ xs, oneV u = true) : SpecH Tryz.prog 119 (pvs [.slice (some ⟨b0, 0, none⟩) xs.length cap]) [.fz 9 1 xs.length xs b0 cap]
    (RetG (fun _ : Nat × Nat × Nat => True) (fun i => .pointer (some ⟨i.1, 0, none⟩)) fun i => [.fz 9 1 xs.length xs b0 cap, .app 9 1 xs (some ⟨i.2.1, 0, none⟩) xs.length i.2.2, .app 173 5 (replC 0 0 .nilIface (some ⟨i.2.1, 0, none⟩) xs.length i.2.2) (some ⟨i.1, 0, none⟩) 1 1]) := by
  have hx : 1 ≤ xs.length := by
    cases xs with
    | nil => exact absurd rfl h0
    | cons _ _ => simp
  refine ownC hm Tryz.func119 (by kernel_rfl) rfl rfl (fun _ _ => ⟨trivial, trivial, trivial, trivial⟩) (fun _ _ => by simp) ?_
  (first | refine wX ?_ | exact wZ)
  refine brdF (by have : ((xs.length : Int).tmod 2) = 0 := by rw [Int.tmod_eq_emod_of_nonneg (by omega)]; omega
                  simp [this]) ?_
  (first | refine wX ?_ | exact wZ)
  refine brdF (by cases hq : Nat.beq xs.length 0 with
                  | false => rfl
                  | true => have := Nat.eq_of_beq_eq_true hq; omega) ?_
  refine Nd.mk rfl ?_
  refine ApN.intro xs (Nat.mul_one _).symm h1 (fun w hw j v hv => hw.1.sl.cell hv) ?_
  (conv => whnf)
  refine AppN.new xs ⟨rfl, rfl, rfl⟩ (plains_vs xs) ⟨hx, ⟨by show (0 + xs.length) * 16 ≤ _; omega, by omega⟩, by show 1 ≠ 0; omega⟩ fun c k hk hm => ?_
  (conv => whnf)
  refine BoxN.known _ rfl fun b => ?_
  (conv => whnf)
  exact ⟨(b, c, k), trivial, rfl, by (repeat' (first | exact trivial | exact wkE_refl _ | refine And.intro ?_ ?_))⟩
end Go.Proofs.YtahjbnfbilkbcaaGreatDoor

/-
  Contract: (*strings.byteStringReplacer).Replace: each byte replaced by what the table holds.
-/
namespace Go.Proofs.YtahjbnfbilkbcaaGreatDoor
open Go.AX Go.RowKit
set_option maxRecDepth 20000

/-- The table's cells. -/
structure Tbl where
  b : Nat
  cells : List Value
  ta : Option Addr
  tcap : Nat
/-- What a table says: the bytes that are replaced, each by its text. -/
structure TblOk (f : UInt8 → List UInt8) (olds : List UInt8) (d : Tbl) : Prop where
  len : d.cells.length = 257
  last : d.cells[256]? = some (.slice d.ta olds.length d.tcap)
  tas : d.ta.isSome = true
  cell : ∀ c : UInt8, (c ∉ olds ∧ f c = [c] ∧ d.cells[c.toNat]? = some (.slice none 0 0)) ∨ (c ∈ olds ∧ ∃ a cap, d.cells[c.toNat]? = some (.slice (some a) (f c).length cap))
  nodup : olds.Nodup
  small : ∀ c, 1 ≤ (f c).length ∧ (f c).length ≤ 6
  few : olds.length ≤ 16
def TblF (f : UInt8 → List UInt8) (olds : List UInt8) (d : Tbl) (w : World) : Prop :=
  SlAt (some ⟨d.b, 0, none⟩) 257 d.cells w ∧ SlAt d.ta olds.length (olds.map fun c => .string (bs [c])) w ∧ ∀ c : UInt8, ∀ a cap, d.cells[c.toNat]? = some (.slice (some a) (f c).length cap) → SlAt (some a) (f c).length (u8s (f c)) w
/-- What the replaced bytes add. -/
def gain (f : UInt8 → List UInt8) (s : List UInt8) : List UInt8 → Nat
  | [] => 0
  | c :: l => s.count c * ((f c).length - 1) + gain f s l
theorem gain_snoc (f : UInt8 → List UInt8) (s : List UInt8) (c : UInt8) : ∀ l, gain f s (l ++ [c]) = gain f s l + s.count c * ((f c).length - 1)
  | [] => by simp [gain]
  | x :: l => by simp only [List.cons_append, gain, gain_snoc f s c l]; omega
theorem gain_take (f : UInt8 → List UInt8) (s : List UInt8) : ∀ (i : Nat) (l : List UInt8), gain f s (l.take i) ≤ gain f s l
  | _, [] => by simp
  | 0, _ :: _ => by simp [gain]
  | i + 1, c :: l => by
    have := gain_take f s i l
    simp only [List.take_succ_cons, gain]
    omega
theorem gain_nil (f : UInt8 → List UInt8) : ∀ l, gain f [] l = 0
  | [] => rfl
  | _ :: l => by simp [gain, gain_nil f l]
theorem gain_cons (f : UInt8 → List UInt8) (a : UInt8) (s : List UInt8) : ∀ l : List UInt8, l.Nodup → gain f (a :: s) l = gain f s l + if a ∈ l then (f a).length - 1 else 0
  | [], _ => by simp [gain]
  | c :: l, h => by
    rw [List.nodup_cons] at h
    have ih := gain_cons f a s l h.2
    simp only [gain, ih, List.count_cons, List.mem_cons]
    by_cases hac : a = c
    · subst hac
      simp [h.1, Nat.add_mul]; omega
    · simp [hac]; omega
theorem gain_app (f : UInt8 → List UInt8) (s t : List UInt8) : ∀ l, gain f (s ++ t) l = gain f s l + gain f t l
  | [] => rfl
  | c :: l => by
    simp only [gain, gain_app f s t l, List.count_append, Nat.add_mul]
    omega
theorem gain_all {f : UInt8 → List UInt8} {olds : List UInt8} {d : Tbl} (hd : TblOk f olds d) : ∀ s, (s.flatMap f).length = s.length + gain f s olds
  | [] => by simp [gain_nil]
  | a :: s => by
    have h1 := (hd.small a).1
    rw [List.flatMap_cons, List.length_append, gain_all hd s, gain_cons f a s olds hd.nodup, List.length_cons]
    rcases hd.cell a with ⟨h2, h3, _⟩ | ⟨h2, _⟩
    · simp [h2, h3]; omega
    · simp [h2]; omega
theorem flat_none {f : UInt8 → List UInt8} {olds : List UInt8} {d : Tbl} (hd : TblOk f olds d) : ∀ s : List UInt8, (s.any fun c => decide (c ∈ olds)) = false → s.flatMap f = s
  | [], _ => rfl
  | a :: s, h => by
    simp only [List.any_cons, Bool.or_eq_false_iff, decide_eq_false_iff_not] at h
    rcases hd.cell a with ⟨_, h3, _⟩ | ⟨h2, _⟩
    · rw [List.flatMap_cons, flat_none hd s h.2, h3]; rfl
    · exact absurd h2 h.1
theorem any_count (s : List UInt8) (l : List UInt8) : (l.any fun c => s.count c != 0) = s.any fun c => decide (c ∈ l) := by
  rw [Bool.eq_iff_iff]
  simp only [List.any_eq_true, decide_eq_true_eq, bne_iff_ne]
  constructor
  · rintro ⟨c, h1, h2⟩
    exact ⟨c, List.count_pos_iff.1 (by omega), h1⟩
  · rintro ⟨c, h1, h2⟩
    exact ⟨c, h2, by have := List.count_pos_iff.2 h1; omega⟩
theorem flat_short {f : UInt8 → List UInt8} {olds : List UInt8} {d : Tbl} (hd : TblOk f olds d) (s : List UInt8) : (s.flatMap f).length ≤ 6 * s.length := by
  induction s with
  | nil => simp
  | cons a s ih =>
    have := (hd.small a).2
    rw [List.flatMap_cons, List.length_append, List.length_cons]
    omega
theorem put_buf (P q : List UInt8) (N : Nat) (_ : P.length + q.length ≤ N) : (u8s P ++ List.replicate (N - P.length) (Value.int .u8 0)).take P.length ++ u8s q ++ (u8s P ++ List.replicate (N - P.length) (Value.int .u8 0)).drop (P.length + q.length) = u8s (P ++ q) ++ List.replicate (N - (P ++ q).length) (Value.int .u8 0) := by
  have e : (u8s P).length = P.length := u8s_len P
  rw [List.take_append_of_le_length (by omega), List.take_of_length_le (by omega), List.drop_append, e, List.drop_of_length_le (by omega), List.nil_append, List.drop_replicate, List.length_append]
  rw [show P.length + q.length - P.length = q.length by omega, show N - P.length - q.length = N - (P.length + q.length) by omega]
  simp [u8s]
theorem bsr_c (f : UInt8 → List UInt8) (olds : List UInt8) (d : Tbl) (hd : TblOk f olds d) (s : List UInt8) (hs : s.length ≤ 1000000) : ∀ H, (∀ w, Facts H w → TblF f olds d w) →
    SpecH Tryz.prog 225 (pvs [.pointer (some ⟨d.b, 0, none⟩), .string (bs s)]) H (Ret (.string (bs (s.flatMap f))) H) := by
  refine factC hm Tryz.func225 (by kernel_rfl) rfl rfl ?_
  (first | refine wX ?_ | exact wZ)
  refine LdN.one (a := some ⟨d.b, 0, none⟩) (q := 256) (.slice d.ta olds.length d.tcap) rfl (fun w hw => hw.1.1) hd.last ?_
  have hfew := hd.few
  have hz := bs_size s
  have hall := gain_all hd s
  have hsh := flat_short hd s
  (first | refine wX ?_ | exact wZ)
  rw [hz]
  refine brd_dec (fun h1 => ?_) (fun h1 => ?_)
  · (first | refine wX ?_ | exact wZ)
    refine LdN.one (a := some ⟨d.b, 0, none⟩) (q := 256) (.slice d.ta olds.length d.tcap) rfl (fun w hw => hw.1.1) hd.last ?_
    (first | refine wX ?_ | exact wZ)
    refine loopS Nat (fun i => i ≤ olds.length) (fun i => mkS Tryz.f225.ntmps 0 [(0, .c (.v (.pointer (some ⟨d.b, 0, none⟩)))), (1, .c (.v (.string (bs s)))), (5, .c (.v (.int .i64 ((s.length + gain f s (olds.take i) : Nat) : Int)))), (6, .c (.v (.bool ((olds.take i).any fun c => s.count c != 0)))), (30, .c (.v (.slice d.ta olds.length d.tcap))), (31, .c (.v (.int .i64 (olds.length : Int)))), (32, .c (.v (.int .i64 (i : Int))))]) (fun i => olds.length - i) rfl (fun _ => rfl) 0 (Nat.zero_le _) ?_ fun i hi => ?_
    · (repeat' (first | exact trivial | refine And.intro (by with_reducible rfl) ?_ | (with_reducible exact wkC_refl _) | (with_reducible exact wkCs_refl _) | refine And.intro ?_ ?_))
      all_goals first | rfl | (refine av_int ?_; simp [gain]; done)
    (first | refine wX ?_ | exact wZ)
    refine brd_dec (fun h2 => ?_) (fun h2 => ?_)
    · obtain ⟨c, hc⟩ : ∃ c, olds[i]? = some c := ⟨_, List.getElem?_eq_getElem (by omega)⟩
      have hin : c ∈ olds := List.mem_of_getElem? hc
      have hg := gain_snoc f s c (olds.take i)
      rw [← take_snoc hc] at hg
      (first | refine wX ?_ | exact wZ)
      refine Nd.mk ⟨hd.tas, by omega, by omega⟩ ?_
      (first | refine wX ?_ | exact wZ)
      refine LdN.one (.string (bs [c])) rfl (fun w hw => hw.1.2.1) (show (olds.map fun c => Value.string (bs [c]))[i * 1]? = _ by rw [Nat.mul_one]; simp [hc]) ?_
      ((first | refine wX ?_ | exact wZ); first | refine call1 (Count1_c s c _) ?_ | refine callQ (Count1_c s c _) ?_)
      (first | refine wX ?_ | exact wZ)
      have hL := hd.small c
      have hcs := List.count_le_length (a := c) (l := s)
      have hany : ((olds.take (i + 1)).any fun c => s.count c != 0) = ((olds.take i).any (fun c => s.count c != 0) || s.count c != 0) := by rw [take_snoc hc, List.any_append]; simp
      have hgb := gain_take f s i olds
      refine brd_ne (fun h3 => ?_) (fun h3 => ?_)
      · obtain ⟨a, cap, ha⟩ : ∃ a cap, d.cells[c.toNat]? = some (.slice (some a) (f c).length cap) := by
          rcases hd.cell c with h | h
          · exact absurd hin h.1
          · exact h.2
        generalize (f c).length = L at *
        (first | refine wX ?_ | exact wZ)
        refine Nd.mk ⟨by omega, by rw [bs_size]; simp⟩ ?_
        have hb0 : byteAt (bs [c]) (Int.toNat 0) = (c.toNat : Int) := byteAt_get rfl
        have hc256 := c.toNat_lt
        (conv => whnf)
        rw [hb0]
        refine Nd.mk ⟨by omega, by omega⟩ ?_
        (first | refine wX ?_ | exact wZ)
        refine LdN.fld (a := some ⟨d.b, 0, none⟩) (q := 0) (.slice (some a) L cap) rfl (fun w hw => hw.1.1) (show d.cells[0 + c.toNat * 1]? = _ by simpa using ha) ?_
        (conv => whnf)
        refine VrN.norm (m := ((s.length + gain f s (olds.take (i + 1)) : Nat) : Int)) (by
          have h6 : L = 1 ∨ L = 2 ∨ L = 3 ∨ L = 4 ∨ L = 5 ∨ L = 6 := by omega
          rw [hg]
          rcases h6 with rfl | rfl | rfl | rfl | rfl | rfl <;> (simp (disch := omega) only [wrap_i64]; omega)) ?_
        (first | refine wX ?_ | exact wZ)
        refine ⟨i + 1, by omega, by omega, ?_, by (repeat' (first | exact trivial | exact wkE_refl _ | refine And.intro ?_ ?_))⟩
        (repeat' (first | exact trivial | refine And.intro (by with_reducible rfl) ?_ | (with_reducible exact wkC_refl _) | (with_reducible exact wkCs_refl _) | refine And.intro ?_ ?_))
        · refine av_bool ?_
          rw [hany]
          have : (s.count c != 0) = true := by simp; omega
          rw [this, Bool.or_true]
        · exact av_int (by rw [wrap_i64 (by omega)]; omega)
      · (first | refine wX ?_ | exact wZ)
        refine ⟨i + 1, by omega, by omega, ?_, by (repeat' (first | exact trivial | exact wkE_refl _ | refine And.intro ?_ ?_))⟩
        have h0 : s.count c = 0 := by omega
        (repeat' (first | exact trivial | refine And.intro (by with_reducible rfl) ?_ | (with_reducible exact wkC_refl _) | (with_reducible exact wkCs_refl _) | refine And.intro ?_ ?_))
        · refine av_int ?_
          rw [hg, h0]
          simp
        · refine av_bool ?_
          rw [hany, h0]
          simp
        · exact av_int (by rw [wrap_i64 (by omega)]; omega)
    · have hil : i = olds.length := by omega
      subst hil
      rw [List.take_length, any_count, ← hall]
      cases hA : s.any fun c => decide (c ∈ olds) with
      | false =>
        rw [flat_none hd s hA] at *
        (first | refine wX ?_ | exact wZ)
      | true =>
        generalize hN : (s.flatMap f).length = N at *
        (first | refine wX ?_ | exact wZ)
        refine EffW.mkBytes N rfl Tryz.underlying84 (by kernel_rfl) rfl rfl (by omega) fun b => ?_
        (first | refine wX ?_ | exact wZ)
        refine LoopN.intro Nat (fun i => i ≤ s.length) (fun i => mkS Tryz.f225.ntmps 0 [(0, .c (.v (.pointer (some ⟨d.b, 0, none⟩)))), (1, .c (.v (.string (bs s)))), (12, .c (.v (.slice (some ⟨b, 0, none⟩) N N))), (13, .c (.v (.int .i64 (((s.take i).flatMap f).length : Int)))), (14, .c (.v (.int .i64 (i : Int))))])
          (fun i => [.fact (TblF f olds d), .app 5 1 (u8s ((s.take i).flatMap f) ++ List.replicate (N - ((s.take i).flatMap f).length) (.int .u8 0)) (some ⟨b, 0, none⟩) N N]) (fun i => s.length - i) [] rfl
          (fun _ => rfl) (fun _ => rfl) (fun _ _ => okHB_eq rfl) ⟨0, Nat.zero_le _, ?_, wkH_of_eq (by simp [u8s])⟩ ?_
        · (repeat' (first | exact trivial | refine And.intro (by with_reducible rfl) ?_ | (with_reducible exact wkC_refl _) | (with_reducible exact wkCs_refl _) | refine And.intro ?_ ?_))
          all_goals rfl
        intro i hi
        (first | refine wX ?_ | exact wZ)
        rw [hz]
        refine brd_dec (fun h2 => ?_) (fun h2 => ?_)
        · obtain ⟨c, hc⟩ : ∃ c, s[i]? = some c := ⟨_, List.getElem?_eq_getElem (by omega)⟩
          have hb : byteAt (bs s) (Int.toNat (i : Int)) = (c.toNat : Int) := by rw [Int.toNat_natCast]; exact byteAt_get hc
          have hc256 := c.toNat_lt
          have hnext : (s.take (i + 1)).flatMap f = (s.take i).flatMap f ++ f c := by rw [take_snoc hc, List.flatMap_append]; simp
          have hle : ((s.take (i + 1)).flatMap f).length ≤ N := by
            rw [← hN]
            conv => rhs; rw [← List.take_append_drop (i + 1) s, List.flatMap_append, List.length_append]
            omega
          rw [hnext, List.length_append] at hle
          have hL := hd.small c
          generalize (s.take i).flatMap f = P at *
          (first | refine wX ?_ | exact wZ)
          rw [hb]
          rcases hd.cell c with ⟨_, hfc, ha⟩ | ⟨_, a, cap, ha⟩
          · refine LdN.fld (a := some ⟨d.b, 0, none⟩) (q := 0) (.slice none 0 0) rfl (fun w hw => hw.1.1) (show d.cells[0 + c.toNat * 1]? = _ by simpa using ha) ?_
            (first | refine wX ?_ | exact wZ)
            refine Nd.mk ⟨rfl, by omega, by rw [hfc] at hle; simp at hle; omega⟩ ?_
            (first | refine wX ?_ | exact wZ)
            refine EffW.app (i := 1) (q := P.length) (ys := [.int .u8 (c.toNat : Int)]) rfl (by rw [Int.toNat_natCast]; show AV.c (CV.v (Value.pointer (some ((⟨b, 0, none⟩ : Addr).add (P.length * 1))))) = _; rw [add_lit0, Nat.mul_one]) rfl rfl rfl rfl rfl (by rw [hfc] at hle; simp at hle ⊢; omega) ?_
            (first | refine wX ?_ | exact wZ)
            refine ⟨i + 1, by omega, by omega, ?_, ⟨wkE_refl _, ?_, wkH_nil _⟩⟩
            · (repeat' (first | exact trivial | refine And.intro (by with_reducible rfl) ?_ | (with_reducible exact wkC_refl _) | (with_reducible exact wkCs_refl _) | refine And.intro ?_ ?_))
              · refine av_int ?_
                rw [hnext, hfc]
                simp
              · exact av_int (by omega)
            · rw [hnext, hfc]
              have e := put_buf P [c] N (by rw [hfc] at hle; exact hle)
              refine .inl ⟨rfl, rfl, ?_, rfl, rfl, rfl⟩
              exact e
          · refine LdN.fld (a := some ⟨d.b, 0, none⟩) (q := 0) (.slice (some a) (f c).length cap) rfl (fun w hw => hw.1.1) (show d.cells[0 + c.toNat * 1]? = _ by simpa using ha) ?_
            (first | refine wX ?_ | exact wZ)
            refine DrawN.plan [0, 1, 2, 4, 5] [(3, 1), (6, 1), (7, 1), (8, 1), (9, 1)] [(10, 0), (11, 0), (12, 0)] (by decide +kernel) ?_
            (first | refine wX ?_ | exact wZ)
            refine ReadW.slc_l P.length rfl Tryz.underlying84 (by kernel_rfl) rfl rfl ⟨rfl, by omega, by omega, by omega⟩ ?_
            (first | refine wX ?_ | exact wZ)
            refine LdN.fld (a := some ⟨d.b, 0, none⟩) (q := 0) (.slice (some a) (f c).length cap) rfl (fun w hw => hw.1.1) (show d.cells[0 + c.toNat * 1]? = _ by simpa using ha) ?_
            (first | refine wX ?_ | exact wZ)
            refine EffW.copyIn 1 rfl rfl rfl Tryz.underlying84 (by kernel_rfl) rfl rfl rfl (fun w hw => hw.1.2.2 c a cap ha) (by simp [u8s, Value.oneCell']) (by omega) (by omega) ?_
            (first | refine wX ?_ | exact wZ)
            refine ⟨i + 1, by omega, by omega, ?_, ⟨wkE_refl _, ?_, wkH_nil _⟩⟩
            · (repeat' (first | exact trivial | refine And.intro (by with_reducible rfl) ?_ | (with_reducible exact wkC_refl _) | (with_reducible exact wkCs_refl _) | refine And.intro ?_ ?_))
              · refine av_int ?_
                rw [hnext]
                simp
              · exact av_int (by omega)
            · rw [hnext]
              exact .inl ⟨rfl, rfl, put_buf P (f c) N hle, rfl, rfl, rfl⟩
        · have hil : i = s.length := by omega
          subst hil
          rw [List.take_length, hN, Nat.sub_self, List.replicate_zero, List.append_nil]
          (first | refine wX ?_ | exact wZ)
          refine ReadW.bytes (s.flatMap f) hN rfl Tryz.underlying84 Tryz.underlying5 Tryz.underlying9 rfl (fun w hw => by have := hw.2.1; rwa [Nat.mul_one] at this) ?_
          (first | refine wX ?_ | exact wZ)
          rfl
  · (first | refine wX ?_ | exact wZ)
    refine loopS Nat (fun i => i ≤ s.length) (fun i => mkS Tryz.f225.ntmps 0 [(0, .c (.v (.pointer (some ⟨d.b, 0, none⟩)))), (1, .c (.v (.string (bs s)))), (5, .c (.v (.int .i64 ((s.length + gain f (s.take i) olds : Nat) : Int)))), (6, .c (.v (.bool ((s.take i).any fun c => decide (c ∈ olds))))), (10, .c (.v (.int .i64 (i : Int))))]) (fun i => s.length - i) rfl (fun _ => rfl) 0 (Nat.zero_le _) ?_ fun i hi => ?_
    · (repeat' (first | exact trivial | refine And.intro (by with_reducible rfl) ?_ | (with_reducible exact wkC_refl _) | (with_reducible exact wkCs_refl _) | refine And.intro ?_ ?_))
      all_goals first | rfl | (refine av_int ?_; simp [gain_nil]; done)
    (first | refine wX ?_ | exact wZ)
    rw [hz]
    refine brd_dec (fun h2 => ?_) (fun h2 => ?_)
    · obtain ⟨c, hc⟩ : ∃ c, s[i]? = some c := ⟨_, List.getElem?_eq_getElem (by omega)⟩
      have hb : byteAt (bs s) (Int.toNat (i : Int)) = (c.toNat : Int) := by rw [Int.toNat_natCast]; exact byteAt_get hc
      have hc256 := c.toNat_lt
      have hg : gain f (s.take (i + 1)) olds = gain f (s.take i) olds + if c ∈ olds then (f c).length - 1 else 0 := by
        rw [take_snoc hc, gain_app f _ _ olds, gain_cons f c [] olds hd.nodup, gain_nil]
        omega
      have hany : ((s.take (i + 1)).any fun c => decide (c ∈ olds)) = ((s.take i).any (fun c => decide (c ∈ olds)) || decide (c ∈ olds)) := by rw [take_snoc hc, List.any_append]; simp
      have hL := hd.small c
      have hgb := gain_all hd (s.take i)
      have hgs := flat_short hd (s.take i)
      have hti : (s.take i).length ≤ s.length := by simp; omega
      (first | refine wX ?_ | exact wZ)
      rw [hb]
      rcases hd.cell c with ⟨hin, hfc, ha⟩ | ⟨hin, a, cap, ha⟩
      · refine LdN.fld (a := some ⟨d.b, 0, none⟩) (q := 0) (.slice none 0 0) rfl (fun w hw => hw.1.1) (show d.cells[0 + c.toNat * 1]? = _ by simpa using ha) ?_
        (first | refine wX ?_ | exact wZ)
        refine ⟨i + 1, by omega, by omega, ?_, by (repeat' (first | exact trivial | exact wkE_refl _ | refine And.intro ?_ ?_))⟩
        (repeat' (first | exact trivial | refine And.intro (by with_reducible rfl) ?_ | (with_reducible exact wkC_refl _) | (with_reducible exact wkCs_refl _) | refine And.intro ?_ ?_))
        · refine av_int ?_
          rw [hg]
          simp [hin]
        · refine av_bool ?_
          rw [hany]
          simp [hin]
        · exact av_int (by omega)
      · rw [if_pos hin] at hg
        refine LdN.fld (a := some ⟨d.b, 0, none⟩) (q := 0) (.slice (some a) (f c).length cap) rfl (fun w hw => hw.1.1) (show d.cells[0 + c.toNat * 1]? = _ by simpa using ha) ?_
        (first | refine wX ?_ | exact wZ)
        refine LdN.fld (a := some ⟨d.b, 0, none⟩) (q := 0) (.slice (some a) (f c).length cap) rfl (fun w hw => hw.1.1) (show d.cells[0 + c.toNat * 1]? = _ by simpa using ha) ?_
        (conv => whnf)
        refine VrN.norm (m := ((s.length + gain f (s.take (i + 1)) olds : Nat) : Int)) (by
          rw [hg, wrap_i64 (x := ((f c).length : Int) - 1) (by omega), wrap_i64 (by omega)]
          omega) ?_
        (first | refine wX ?_ | exact wZ)
        refine ⟨i + 1, by omega, by omega, ?_, by (repeat' (first | exact trivial | exact wkE_refl _ | refine And.intro ?_ ?_))⟩
        (repeat' (first | exact trivial | refine And.intro (by with_reducible rfl) ?_ | (with_reducible exact wkC_refl _) | (with_reducible exact wkCs_refl _) | refine And.intro ?_ ?_))
        · refine av_bool ?_
          rw [hany]
          simp [hin]
        · exact av_int (by omega)
    · have hil : i = s.length := by omega
      subst hil
      rw [List.take_length, ← hall]
      cases hA : s.any fun c => decide (c ∈ olds) with
      | false =>
        rw [flat_none hd s hA] at *
        (first | refine wX ?_ | exact wZ)
      | true =>
        generalize hN : (s.flatMap f).length = N at *
        (first | refine wX ?_ | exact wZ)
        refine EffW.mkBytes N rfl Tryz.underlying84 (by kernel_rfl) rfl rfl (by omega) fun b => ?_
        (first | refine wX ?_ | exact wZ)
        refine LoopN.intro Nat (fun i => i ≤ s.length) (fun i => mkS Tryz.f225.ntmps 0 [(0, .c (.v (.pointer (some ⟨d.b, 0, none⟩)))), (1, .c (.v (.string (bs s)))), (12, .c (.v (.slice (some ⟨b, 0, none⟩) N N))), (13, .c (.v (.int .i64 (((s.take i).flatMap f).length : Int)))), (14, .c (.v (.int .i64 (i : Int))))])
          (fun i => [.fact (TblF f olds d), .app 5 1 (u8s ((s.take i).flatMap f) ++ List.replicate (N - ((s.take i).flatMap f).length) (.int .u8 0)) (some ⟨b, 0, none⟩) N N]) (fun i => s.length - i) [] rfl
          (fun _ => rfl) (fun _ => rfl) (fun _ _ => okHB_eq rfl) ⟨0, Nat.zero_le _, ?_, wkH_of_eq (by simp [u8s])⟩ ?_
        · (repeat' (first | exact trivial | refine And.intro (by with_reducible rfl) ?_ | (with_reducible exact wkC_refl _) | (with_reducible exact wkCs_refl _) | refine And.intro ?_ ?_))
          all_goals rfl
        intro i hi
        (first | refine wX ?_ | exact wZ)
        rw [hz]
        refine brd_dec (fun h2 => ?_) (fun h2 => ?_)
        · obtain ⟨c, hc⟩ : ∃ c, s[i]? = some c := ⟨_, List.getElem?_eq_getElem (by omega)⟩
          have hb : byteAt (bs s) (Int.toNat (i : Int)) = (c.toNat : Int) := by rw [Int.toNat_natCast]; exact byteAt_get hc
          have hc256 := c.toNat_lt
          have hnext : (s.take (i + 1)).flatMap f = (s.take i).flatMap f ++ f c := by rw [take_snoc hc, List.flatMap_append]; simp
          have hle : ((s.take (i + 1)).flatMap f).length ≤ N := by
            rw [← hN]
            conv => rhs; rw [← List.take_append_drop (i + 1) s, List.flatMap_append, List.length_append]
            omega
          rw [hnext, List.length_append] at hle
          have hL := hd.small c
          generalize (s.take i).flatMap f = P at *
          (first | refine wX ?_ | exact wZ)
          rw [hb]
          rcases hd.cell c with ⟨_, hfc, ha⟩ | ⟨_, a, cap, ha⟩
          · refine LdN.fld (a := some ⟨d.b, 0, none⟩) (q := 0) (.slice none 0 0) rfl (fun w hw => hw.1.1) (show d.cells[0 + c.toNat * 1]? = _ by simpa using ha) ?_
            (first | refine wX ?_ | exact wZ)
            refine Nd.mk ⟨rfl, by omega, by rw [hfc] at hle; simp at hle; omega⟩ ?_
            (first | refine wX ?_ | exact wZ)
            refine EffW.app (i := 1) (q := P.length) (ys := [.int .u8 (c.toNat : Int)]) rfl (by rw [Int.toNat_natCast]; show AV.c (CV.v (Value.pointer (some ((⟨b, 0, none⟩ : Addr).add (P.length * 1))))) = _; rw [add_lit0, Nat.mul_one]) rfl rfl rfl rfl rfl (by rw [hfc] at hle; simp at hle ⊢; omega) ?_
            (first | refine wX ?_ | exact wZ)
            refine ⟨i + 1, by omega, by omega, ?_, ⟨wkE_refl _, ?_, wkH_nil _⟩⟩
            · (repeat' (first | exact trivial | refine And.intro (by with_reducible rfl) ?_ | (with_reducible exact wkC_refl _) | (with_reducible exact wkCs_refl _) | refine And.intro ?_ ?_))
              · refine av_int ?_
                rw [hnext, hfc]
                simp
              · exact av_int (by omega)
            · rw [hnext, hfc]
              have e := put_buf P [c] N (by rw [hfc] at hle; exact hle)
              refine .inl ⟨rfl, rfl, ?_, rfl, rfl, rfl⟩
              exact e
          · refine LdN.fld (a := some ⟨d.b, 0, none⟩) (q := 0) (.slice (some a) (f c).length cap) rfl (fun w hw => hw.1.1) (show d.cells[0 + c.toNat * 1]? = _ by simpa using ha) ?_
            (first | refine wX ?_ | exact wZ)
            refine DrawN.plan [0, 1, 2, 4, 5] [(3, 1), (6, 1), (7, 1), (8, 1), (9, 1)] [(10, 0), (11, 0), (12, 0)] (by decide +kernel) ?_
            (first | refine wX ?_ | exact wZ)
            refine ReadW.slc_l P.length rfl Tryz.underlying84 (by kernel_rfl) rfl rfl ⟨rfl, by omega, by omega, by omega⟩ ?_
            (first | refine wX ?_ | exact wZ)
            refine LdN.fld (a := some ⟨d.b, 0, none⟩) (q := 0) (.slice (some a) (f c).length cap) rfl (fun w hw => hw.1.1) (show d.cells[0 + c.toNat * 1]? = _ by simpa using ha) ?_
            (first | refine wX ?_ | exact wZ)
            refine EffW.copyIn 1 rfl rfl rfl Tryz.underlying84 (by kernel_rfl) rfl rfl rfl (fun w hw => hw.1.2.2 c a cap ha) (by simp [u8s, Value.oneCell']) (by omega) (by omega) ?_
            (first | refine wX ?_ | exact wZ)
            refine ⟨i + 1, by omega, by omega, ?_, ⟨wkE_refl _, ?_, wkH_nil _⟩⟩
            · (repeat' (first | exact trivial | refine And.intro (by with_reducible rfl) ?_ | (with_reducible exact wkC_refl _) | (with_reducible exact wkCs_refl _) | refine And.intro ?_ ?_))
              · refine av_int ?_
                rw [hnext]
                simp
              · exact av_int (by omega)
            · rw [hnext]
              exact .inl ⟨rfl, rfl, put_buf P (f c) N hle, rfl, rfl, rfl⟩
        · have hil : i = s.length := by omega
          subst hil
          rw [List.take_length, hN, Nat.sub_self, List.replicate_zero, List.append_nil]
          (first | refine wX ?_ | exact wZ)
          refine ReadW.bytes (s.flatMap f) hN rfl Tryz.underlying84 Tryz.underlying5 Tryz.underlying9 rfl (fun w hw => by have := hw.2.1; rwa [Nat.mul_one] at this) ?_
          (first | refine wX ?_ | exact wZ)
          rfl
end Go.Proofs.YtahjbnfbilkbcaaGreatDoor

/-
  sync.Once, one goroutine: the parts of its slow road, after the kit's worked LazyParts.
-/
namespace Go.Proofs.YtahjbnfbilkbcaaGreatDoor
set_option maxRecDepth 100000
set_option maxHeartbeats 1600000

theorem disable (w : World) : (callFunc 179 #[]).run Tryz.prog w = .ok (.value (.tuple #[])) w := run_call_mark0 Tryz.func179 (by kernel_rfl) (by kernel_rfl) (by kernel_rfl) .disable (by kernel_rfl) w
theorem enable (w : World) : (callFunc 181 #[]).run Tryz.prog w = .ok (.value (.tuple #[])) w := run_call_mark0 Tryz.func181 (by kernel_rfl) (by kernel_rfl) (by kernel_rfl) .enable (by kernel_rfl) w
theorem acquire (a : Addr) (w : World) : (callFunc 182 #[.pointer (some a)]).run Tryz.prog w = .ok (.value (.tuple #[])) w := run_call_marked Tryz.func182 (by kernel_rfl) (by kernel_rfl) (by kernel_rfl) .acquire (by kernel_rfl) a w
theorem releaseMerge (a : Addr) (w : World) : (callFunc 184 #[.pointer (some a)]).run Tryz.prog w = .ok (.value (.tuple #[])) w := run_call_marked Tryz.func184 (by kernel_rfl) (by kernel_rfl) (by kernel_rfl) .releaseMerge (by kernel_rfl) a w

/-- '(*sync/atomic.Bool).Store(true)', entered as a deferred call: the cell holds 1. -/
theorem store_deferred (a : Addr) (x : Value) (u : FrameMode) (w : World) (hc : w.cell? a = some x) (hz : w.frozen? a = false) :
    CallsD Tryz.prog 167 #[.pointer (some a), .bool true] u w fun e u' w' => u' = u ∧ (e = .returned (.tuple #[]) ∧ w' = w.drew.setCell a (.int .u32 1)) := by
  have hc' : w.drew.cell? a = some x := by go_simp
  have hz' : w.drew.frozen? a = false := by go_simp
  have hst := run_call_store (P := Tryz.prog) Tryz.func175 (by kernel_rfl) (by kernel_rfl) (by kernel_rfl) (by kernel_rfl) (k := .u32) (y := 1) hc' hz'
  go_enter_d Tryz.func167, Tryz.ntmps167
  go_wp2
  go_region_calls
  all_goals (go_end0; exact ⟨rfl, rfl⟩)

/-- '(*sync.Mutex).Unlock', entered as a deferred call, the lock held and nobody waiting (state 1): state 0. -/
theorem unlock_deferred (a : Addr) (u : FrameMode) (w : World) (hc : w.cell? a = some (.int .i32 1)) (hz : w.frozen? a = false) :
    CallsD Tryz.prog 166 #[.pointer (some a)] u w fun e u' w' => u' = u ∧ (e = .returned (.tuple #[]) ∧ w' = w.setCell a (.int .i32 0)) := by
  have hd := disable
  have he := enable
  have hr := releaseMerge
  have hadd := run_call_add (P := Tryz.prog) Tryz.func185 (by kernel_rfl) (by kernel_rfl) (by kernel_rfl) .i32 (by kernel_rfl) (y := -1) (s := 0) hc hz (by simp [go_sem]; rfl)
  have hcv := run_convert_to_unsafe (P := Tryz.prog) (src := 237) (dst := 155) Tryz.underlying237 Tryz.underlying155 (by kernel_rfl) hc
  go_enter_d Tryz.func166, Tryz.ntmps166
  go_wp2
  go_end0
  go_wp2
  go_end0
  exact ⟨rfl, rfl⟩

/-- '(*sync.Mutex).Lock', the lock free (state 0): state 1. -/
theorem lock_free (a : Addr) (w : World) (hc : w.cell? a = some (.int .i32 0)) (hz : w.frozen? a = false) :
    Calls Tryz.prog 165 #[.pointer (some a)] w fun e w' => e = .returned (.tuple #[]) ∧ w' = w.setCell a (.int .i32 1) := by
  have hd := disable
  have he := enable
  have ha := acquire
  have hcas := run_call_cas_hit (P := Tryz.prog) Tryz.func180 (by kernel_rfl) (by kernel_rfl) (by kernel_rfl) .i32 (by kernel_rfl) (y := 1) hc hz
  have hc' : (w.setCell a (.int .i32 1)).cell? a = some (.int .i32 1) := World.cell?_setCell_same w a _ hc
  have hcv := run_convert_to_unsafe (P := Tryz.prog) (src := 237) (dst := 155) Tryz.underlying237 Tryz.underlying155 (by kernel_rfl) hc'
  go_enter Tryz.func165, Tryz.ntmps165
  go_wp2
  first | go_end0 | (simp only [Exit.inBlock, Exit.then]; refine bodyPost_ret (results_none rfl _ _ _) rfl ?_) | refine bodyPost_ret (results_none rfl _ _ _) rfl ?_
  go_wp2
  go_end0
  exact ⟨rfl, rfl⟩
end Go.Proofs.YtahjbnfbilkbcaaGreatDoor

/-
  sync.Once, one goroutine: Do, not yet done and its lock free, of a function by its contract; Do, done already.
-/
namespace Go.Proofs.YtahjbnfbilkbcaaGreatDoor
set_option maxRecDepth 100000
set_option maxHeartbeats 3200000

theorem slow_do (b off : Nat) (p : Value) (Q : World → Prop) (w : World)
    (h0 : w.cell? ⟨b, off, none⟩ = some (.int .u32 0)) (h1 : w.cell? ⟨b, off + 1, none⟩ = some (.int .i32 0))
    (f1 : w.frozen? ⟨b, off + 1, none⟩ = false)
    (hf : Calls Tryz.prog 133 #[p] (w.setCell ⟨b, off + 1, none⟩ (.int .i32 1)) fun e w2 => e = .returned (.tuple #[]) ∧ Q w2)
    (hQ : ∀ w2, Q w2 → (∃ x, w2.cell? ⟨b, off, none⟩ = some x) ∧ w2.cell? ⟨b, off + 1, none⟩ = some (.int .i32 1) ∧ w2.frozen? ⟨b, off, none⟩ = false ∧ w2.frozen? ⟨b, off + 1, none⟩ = false) :
    Calls Tryz.prog 152 #[.pointer (some ⟨b, off, none⟩), .func (.func 133) #[p] #[]] w fun e w' => e = .returned (.tuple #[]) ∧
      ∃ w2, Q w2 ∧ w' = (w2.drew.setCell ⟨b, off, none⟩ (.int .u32 1)).setCell ⟨b, off + 1, none⟩ (.int .i32 0) := by
  have hl := run_call_load (P := Tryz.prog) Tryz.func164 (by kernel_rfl) (by kernel_rfl) (by kernel_rfl) .u32 (by kernel_rfl) (w := w.setCell ⟨b, off + 1, none⟩ (.int .i32 1)) (a := ⟨b, off, none⟩) (x := 0) ((World.cell?_setCell_other _ ⟨b, off + 1, none⟩ ⟨b, off, none⟩ _ (by simp)).trans h0)
  have hnot : ∀ (x : Bool) (w : World), (Op.unary .not (.bool x)).run Tryz.prog w = .ok (.bool (!x)) w := fun _ _ => rfl
  go_enter_defers Tryz.func152, Tryz.ntmps152
  go_wp2_with (go_at_call 165; refine (lock_free ⟨b, off + 1, none⟩ _ (by go_simp) (by go_simp)).mono ?_; rintro e w' ⟨rfl, rfl⟩)
  go_wp2_with (first | (go_at_call 133; refine hf.mono ?_; rintro e w2 ⟨rfl, hq⟩) | (go_at_call 151; go_in))
  obtain ⟨⟨x, hx⟩, hm, z0, z1⟩ := hQ w2 hq
  go_wp2
  refine leaves_cons (f := 167) (args := #[.pointer (some ⟨b, off, none⟩), .bool true]) (by simp) (by simp [go_sem]) ?_
  refine (store_deferred ⟨b, off, none⟩ x .returning _ hx z0).mono ?_
  rintro e u' w'' ⟨rfl, rfl, rfl⟩
  refine leaves_cons (f := 166) (args := #[.pointer (some ⟨b, off + 1, none⟩)]) (by simp [settle]) (by simp [go_sem]) ?_
  refine (unlock_deferred ⟨b, off + 1, none⟩ _ _ ?_ (by simp [z1])).mono ?_
  · refine (World.cell?_setCell_other _ ⟨b, off, none⟩ ⟨b, off + 1, none⟩ _ (by simp)).trans ?_
    rw [World.cell?_drew]
    exact hm
  rintro e u' w'' ⟨rfl, rfl, rfl⟩
  simp [Leaves, settle, results, Tryz.results152]
  exact ⟨w2, hq, rfl⟩
/-- Not yet done, the lock free. -/
theorem do_first (b off : Nat) (p : Value) (Q : World → Prop) (w : World)
    (h0 : w.cell? ⟨b, off, none⟩ = some (.int .u32 0)) (h1 : w.cell? ⟨b, off + 1, none⟩ = some (.int .i32 0))
    (f1 : w.frozen? ⟨b, off + 1, none⟩ = false)
    (hf : Calls Tryz.prog 133 #[p] (w.setCell ⟨b, off + 1, none⟩ (.int .i32 1)) fun e w2 => e = .returned (.tuple #[]) ∧ Q w2)
    (hQ : ∀ w2, Q w2 → (∃ x, w2.cell? ⟨b, off, none⟩ = some x) ∧ w2.cell? ⟨b, off + 1, none⟩ = some (.int .i32 1) ∧ w2.frozen? ⟨b, off, none⟩ = false ∧ w2.frozen? ⟨b, off + 1, none⟩ = false) :
    Calls Tryz.prog 132 #[.pointer (some ⟨b, off, none⟩), .func (.func 133) #[p] #[]] w fun e w' => e = .returned (.tuple #[]) ∧
      ∃ w2, Q w2 ∧ w' = (w2.drew.setCell ⟨b, off, none⟩ (.int .u32 1)).setCell ⟨b, off + 1, none⟩ (.int .i32 0) := by
  have hl := run_call_load (P := Tryz.prog) Tryz.func164 (by kernel_rfl) (by kernel_rfl) (by kernel_rfl) .u32 (by kernel_rfl) h0
  have hnot : ∀ (x : Bool) (w : World), (Op.unary .not (.bool x)).run Tryz.prog w = .ok (.bool (!x)) w := fun _ _ => rfl
  go_enter Tryz.func132, Tryz.ntmps132
  go_wp2_with (first | (go_at_call 152; refine (slow_do b off p Q _ h0 h1 f1 hf hQ).mono ?_; rintro e w' ⟨rfl, hq⟩) | (go_at_call 151; go_in))
  go_end0
  exact ⟨rfl, hq⟩
end Go.Proofs.YtahjbnfbilkbcaaGreatDoor

/-
  Contract: Quote of the document.
-/
namespace Go.Proofs.YtahjbnfbilkbcaaGreatDoor
open Go.AX Go.RowKit Go.Scan
set_option maxRecDepth 20000

theorem flat_le {f : UInt8 → List UInt8} {m : Nat} (h : ∀ c, (f c).length ≤ m) (s : List UInt8) : (s.flatMap f).length ≤ m * s.length := by
  induction s with
  | nil => simp
  | cons c r ih =>
    have := h c
    rw [List.flatMap_cons, List.length_append, List.length_cons, Nat.mul_add, Nat.mul_one]
    omega
/-- A byte as the language writes it. -/
def qt (c : UInt8) : List UInt8 := if c == 92 then [92, 92] else if c == 34 then [92, 34] else if c == 35 then [92, 35] else if c == 10 then [92, 110] else if c == 0 then [92, 48] else [c]
theorem qt_2 (c : UInt8) : (qt c).length ≤ 2 := by
  unfold qt
  repeat' split
  all_goals first | decide | exact Nat.le_of_ble_eq_true rfl
end Go.Proofs.YtahjbnfbilkbcaaGreatDoor

/-
  The table of bytes that are replaced, as it is filled.
-/
namespace Go.Proofs.YtahjbnfbilkbcaaGreatDoor
open Go.AX Go.RowKit
set_option maxRecDepth 20000

/-- The texts of bytes and what replaces them. -/
def olnw (f : UInt8 → List UInt8) : List UInt8 → List Value
  | [] => []
  | c :: l => .string (bs [c]) :: .string (bs (f c)) :: olnw f l
def qtL : List UInt8 := [0, 10, 35, 34, 92]
def tab0 (t : Nat) : List Value := List.replicate 256 (.slice none 0 0) ++ [.slice (some ⟨t, 0, none⟩) 0 5]
def tabL (T : List Value) : List (Nat × Value × Value) → List Value
  | [] => T
  | (o, v, w) :: l => tabL ((T.set 256 v).set o w) l
theorem tabL_len : ∀ (l : List (Nat × Value × Value)) (T : List Value), (tabL T l).length = T.length
  | [], _ => rfl
  | (o, v, w) :: l, T => by rw [tabL, tabL_len l]; simp
theorem tabL_other {c : Nat} (hc : c ≠ 256) : ∀ (l : List (Nat × Value × Value)) (T : List Value), c ∉ l.map (·.1) → (tabL T l)[c]? = T[c]?
  | [], _, _ => rfl
  | (o, v, w) :: l, T, h => by
    simp only [List.map_cons, List.mem_cons, not_or] at h
    rw [tabL, tabL_other hc l _ h.2, List.getElem?_set_ne (Ne.symm h.1), List.getElem?_set_ne (Ne.symm hc)]
theorem tabL_mem {c : Nat} {w : Value} (hc : c < 256) : ∀ (l : List (Nat × Value × Value)) (T : List Value), T.length = 257 → (l.map (·.1)).Nodup → (∃ v, (c, v, w) ∈ l) → (tabL T l)[c]? = some w
  | [], _, _, _, h => by obtain ⟨_, h⟩ := h; cases h
  | (o, v, x) :: l, T, hT, hn, h => by
    simp only [List.map_cons, List.nodup_cons] at hn
    obtain ⟨u, hu⟩ := h
    rcases List.mem_cons.1 hu with h | h
    · cases h
      rw [tabL, tabL_other (by omega) l _ hn.1, List.getElem?_set_self (by simp; omega)]
    · rw [tabL]
      exact tabL_mem hc l _ (by simp [hT]) hn.2 ⟨u, h⟩
theorem tabL_last {o : Nat} {v w : Value} (ho : o ≠ 256) : ∀ (l : List (Nat × Value × Value)) (T : List Value), T.length = 257 → (tabL T (l ++ [(o, v, w)]))[256]? = some v
  | [], T, hT => by
    show ((T.set 256 v).set o w)[256]? = some v
    rw [List.getElem?_set_ne ho, List.getElem?_set_self (by omega)]
  | (o', v', w') :: l, T, hT => by
    show (tabL _ (l ++ [(o, v, w)]))[256]? = some v
    exact tabL_last ho l _ (by simp [hT])
theorem tab0_len (t : Nat) : (tab0 t).length = 257 := by simp [tab0]
theorem tab0_get (t : Nat) {c : Nat} (h : c < 256) : (tab0 t)[c]? = some (.slice none 0 0) := by
  rw [tab0, List.getElem?_append_left (by simpa using h), List.getElem?_replicate, if_pos h]
/-- The rounds: the byte, the block and the room of the list of bytes, the block and the room of the text. -/
def rdL (f : UInt8 → List UInt8) : Nat → List (UInt8 × Nat × Nat × Nat × Nat) → List (Nat × Value × Value)
  | _, [] => []
  | j, (o, t, k, n, c) :: l => (o.toNat, .slice (some ⟨t, 0, none⟩) (j + 1) k, .slice (some ⟨n, 0, none⟩) (f o).length c) :: rdL f (j + 1) l
theorem rdL_keys (f : UInt8 → List UInt8) : ∀ (l : List (UInt8 × Nat × Nat × Nat × Nat)) (j : Nat), (rdL f j l).map (·.1) = l.map fun r => r.1.toNat
  | [], _ => rfl
  | (o, t, k, n, c) :: l, j => by simp [rdL, rdL_keys f l]
theorem rdL_mem (f : UInt8 → List UInt8) {o : UInt8} {t k n c : Nat} : ∀ (l : List (UInt8 × Nat × Nat × Nat × Nat)) (j : Nat), (o, t, k, n, c) ∈ l → ∃ v, (o.toNat, v, .slice (some ⟨n, 0, none⟩) (f o).length c) ∈ rdL f j l
  | [], _, h => by cases h
  | r :: l, j, h => by
    obtain ⟨o', t', k', n', c'⟩ := r
    rcases List.mem_cons.1 h with h | h
    · cases h
      exact ⟨_, List.mem_cons_self ..⟩
    · obtain ⟨v, hv⟩ := rdL_mem f l (j + 1) h
      exact ⟨v, List.mem_cons_of_mem _ hv⟩
theorem rdL_app (f : UInt8 → List UInt8) (r : UInt8 × Nat × Nat × Nat × Nat) : ∀ (l : List (UInt8 × Nat × Nat × Nat × Nat)) (j : Nat), rdL f j (l ++ [r]) = rdL f j l ++ [(r.1.toNat, .slice (some ⟨r.2.1, 0, none⟩) (j + l.length + 1) r.2.2.1, .slice (some ⟨r.2.2.2.1, 0, none⟩) (f r.1).length r.2.2.2.2)]
  | [], j => rfl
  | (o, t, k, n, c) :: l, j => by simp [rdL, rdL_app f r l (j + 1)]; omega
theorem rounds_cell (f : UInt8 → List UInt8) (l : List (UInt8 × Nat × Nat × Nat × Nat)) (hn : (l.map (·.1)).Nodup) (t0 : Nat) (c : UInt8) : (c ∉ l.map (·.1) ∧ (tabL (tab0 t0) (rdL f 0 l))[c.toNat]? = some (.slice none 0 0)) ∨ ∃ t k n cap, (c, t, k, n, cap) ∈ l ∧ (tabL (tab0 t0) (rdL f 0 l))[c.toNat]? = some (.slice (some ⟨n, 0, none⟩) (f c).length cap) := by
  have hc := c.toNat_lt
  by_cases h : c ∈ l.map (·.1)
  · obtain ⟨⟨o, t, k, n, cap⟩, hr, rfl⟩ := List.mem_map.1 h
    refine .inr ⟨t, k, n, cap, hr, tabL_mem (by omega) _ _ (tab0_len t0) ?_ (rdL_mem f l 0 hr)⟩
    rw [rdL_keys]
    have : (l.map fun r => r.1.toNat) = (l.map (·.1)).map UInt8.toNat := by simp
    rw [this]
    exact List.Pairwise.map UInt8.toNat (fun a b h h2 => h (UInt8.toNat_inj.1 h2)) hn
  · refine .inl ⟨h, ?_⟩
    rw [tabL_other (by omega), tab0_get t0 (by omega)]
    rw [rdL_keys]
    intro h2
    obtain ⟨r, hr, he⟩ := List.mem_map.1 h2
    exact h (List.mem_map.2 ⟨r, hr, UInt8.toNat_inj.1 he⟩)
theorem rounds_ok (f : UInt8 → List UInt8) (l : List (UInt8 × Nat × Nat × Nat × Nat)) (r : UInt8 × Nat × Nat × Nat × Nat) (hn : ((l ++ [r]).map (·.1)).Nodup) (t0 tb : Nat) (hf : ∀ c, c ∉ (l ++ [r]).map (·.1) → f c = [c]) (hs : ∀ c, 1 ≤ (f c).length ∧ (f c).length ≤ 6) (hl : l.length ≤ 15) :
    TblOk f ((l ++ [r]).map (·.1)) ⟨tb, tabL (tab0 t0) (rdL f 0 (l ++ [r])), some ⟨r.2.1, 0, none⟩, r.2.2.1⟩ := by
  refine ⟨by rw [tabL_len, tab0_len], ?_, rfl, fun c => ?_, hn, hs, by simp; omega⟩
  · have := r.1.toNat_lt
    rw [rdL_app, tabL_last (by omega) _ _ (tab0_len t0)]
    simp
  · rcases rounds_cell f (l ++ [r]) hn t0 c with ⟨h1, h2⟩ | ⟨t, k, n, cap, h1, h2⟩
    · exact .inl ⟨h1, hf c h1, h2⟩
    · exact .inr ⟨List.mem_map.2 ⟨_, h1, rfl⟩, _, _, h2⟩
theorem rounds_fact (f : UInt8 → List UInt8) (l : List (UInt8 × Nat × Nat × Nat × Nat)) (hn : (l.map (·.1)).Nodup) (t0 : Nat) {w : World} (h : ∀ o t k n cap, (o, t, k, n, cap) ∈ l → SlAt (some ⟨n, 0, none⟩) (f o).length (u8s (f o)) w) :
    ∀ c : UInt8, ∀ a cap, (tabL (tab0 t0) (rdL f 0 l))[c.toNat]? = some (.slice (some a) (f c).length cap) → SlAt (some a) (f c).length (u8s (f c)) w := by
  intro c a cap hc
  rcases rounds_cell f l hn t0 c with ⟨_, h2⟩ | ⟨t, k, n, cap', h1, h2⟩
  · rw [h2] at hc; cases hc
  · rw [h2] at hc
    cases hc
    exact h c t k n _ h1
end Go.Proofs.YtahjbnfbilkbcaaGreatDoor

/-
  Contract: (*strings.Replacer).Replace, for the first time: the bytes that Quote replaces.
-/
namespace Go.Proofs.YtahjbnfbilkbcaaGreatDoor
open Go.AX Go.RowKit
set_option maxRecDepth 20000

theorem qt_sz (c : UInt8) : 1 ≤ (qt c).length ∧ (qt c).length ≤ 6 := by
  unfold qt
  split
  · decide
  split
  · decide
  split
  · decide
  split
  · decide
  split
  · decide
  exact ⟨Nat.le_refl 1, Nat.le_of_ble_eq_true rfl⟩
theorem qt_other (c : UInt8) (h : c ∉ qtL) : qt c = [c] := by
  simp only [qtL, List.mem_cons, List.not_mem_nil, or_false, not_or] at h
  unfold qt
  simp [h]
set_option maxHeartbeats 4000000 in
theorem first_qt (s : List UInt8) (b c k : Nat) (hs : s.length ≤ 1000000) : SpecH Tryz.prog 120 (pvs [.pointer (some ⟨b, 0, none⟩), .string (bs s)]) [.app 9 1 (olnw qt qtL.reverse) (some ⟨c, 0, none⟩) 10 k, .app 173 5 (replC 0 0 .nilIface (some ⟨c, 0, none⟩) 10 k) (some ⟨b, 0, none⟩) 1 1]
    (RetG (TblOk qt qtL) (fun _ => .string (bs (s.flatMap qt))) fun d => [.dead, .fact fun w => SlAt (some ⟨b, 0, none⟩) 5 (replC 1 0 (.iface 217 (.pointer (some ⟨d.b, 0, none⟩))) none 0 0) w ∧ TblF qt qtL d w]) := by
  refine SpecH.seal (fun _ _ => Nat.le_refl _) ?_
  refine spec_of_exec hm Tryz.func120 (by kernel_rfl) rfl rfl ?_
  (first | refine wX ?_ | exact wZ)
  refine SpecH.args (args' := pvs [.pointer (some ⟨b, 0, none⟩), .func (.func 133) #[.pointer (some ⟨b, 0, none⟩)] #[]]) (by simp [pvs, opvs, opv, nth, plainEv]; rfl) ?_
  refine SpecH.once (P := Tryz.prog) (fd := 132) (fb := 133) (p := .pointer (some ⟨b, 0, none⟩)) (T := 173) (m := 5) (b := b) (xs := replC 0 0 .nilIface (some ⟨c, 0, none⟩) 10 k) (H := [.app 9 1 (olnw qt qtL.reverse) (some ⟨c, 0, none⟩) 10 k, .app 173 5 (replC 0 0 .nilIface (some ⟨c, 0, none⟩) 10 k) (some ⟨b, 0, none⟩) 1 1]) (callOk Tryz.func132 (by kernel_rfl) rfl) 1 rfl rfl rfl (fun Q w => do_first b 0 _ Q w) ?_
  refine spec_of_exec hm Tryz.func133 (by kernel_rfl) rfl rfl ?_
  (first | refine wX ?_ | exact wZ)
  refine spec_of_exec hm Tryz.func153 (by kernel_rfl) rfl rfl ?_
  (first | refine wX ?_ | exact wZ)
  refine LdN.one (a := some ⟨b, 0, none⟩) (q := 4) (.slice (some ⟨c, 0, none⟩) 10 k) rfl (fun w hw => hw.2.1) rfl ?_
  (first | refine wX ?_ | exact wZ)
  refine LoopN.unroll 6 ?_
  ((conv => whnf); (repeat ((first | refine VrN.norm (wrap_i64 (by omega)) ?_ | refine VrN.keep ?_ | refine Nd.mk (by decide +kernel) ?_ | refine Nd.mk (by omega) ?_ | refine Nd.mk ⟨rfl, by decide +kernel, by decide +kernel⟩ ?_ | refine LdN.one _ rfl (fun w hw => hw.1) rfl ?_); (conv => whnf))))
  refine EffW.mkEmpty 5 rfl Tryz.underlying40 rfl rfl rfl rfl (by decide +kernel) fun t => ?_
  ((conv => whnf); (repeat ((first | refine VrN.norm (wrap_i64 (by omega)) ?_ | refine VrN.keep ?_ | refine Nd.mk (by decide +kernel) ?_ | refine Nd.mk (by omega) ?_ | refine Nd.mk ⟨rfl, by decide +kernel, by decide +kernel⟩ ?_ | refine LdN.one _ rfl (fun w hw => hw.1) rfl ?_); (conv => whnf))))
  refine BoxN.known _ rfl fun tb => ?_
  ((conv => whnf); (repeat ((first | refine VrN.norm (wrap_i64 (by omega)) ?_ | refine VrN.keep ?_ | refine Nd.mk (by decide +kernel) ?_ | refine Nd.mk (by omega) ?_ | refine Nd.mk ⟨rfl, by decide +kernel, by decide +kernel⟩ ?_ | refine LdN.one _ rfl (fun w hw => hw.1) rfl ?_); (conv => whnf))))
  refine EffW.appTo (i := 3) (q := 0) (tab0 t) 257 rfl rfl rfl rfl rfl rfl rfl (Nat.le_of_ble_eq_true rfl) rfl rfl ?_
  ((conv => whnf); (repeat ((first | refine VrN.norm (wrap_i64 (by omega)) ?_ | refine VrN.keep ?_ | refine Nd.mk (by decide +kernel) ?_ | refine Nd.mk (by omega) ?_ | refine Nd.mk ⟨rfl, by decide +kernel, by decide +kernel⟩ ?_ | refine LdN.one _ rfl (fun w hw => hw.1) rfl ?_); (conv => whnf))))
  refine LoopN.unroll 6 ?_
  ((conv => whnf); (repeat ((first | refine VrN.norm (wrap_i64 (by omega)) ?_ | refine VrN.keep ?_ | refine Nd.mk (by decide +kernel) ?_ | refine Nd.mk (by omega) ?_ | refine Nd.mk ⟨rfl, by decide +kernel, by decide +kernel⟩ ?_ | refine LdN.one _ rfl (fun w hw => hw.1) rfl ?_); (conv => whnf))))
  refine LdN.fld (a := some ⟨tb, 0, none⟩) (q := 0) _ rfl (fun w hw => hw.2.2.2.1) rfl ?_
  ((conv => whnf); (repeat ((first | refine VrN.norm (wrap_i64 (by omega)) ?_ | refine VrN.keep ?_ | refine Nd.mk (by decide +kernel) ?_ | refine Nd.mk (by omega) ?_ | refine Nd.mk ⟨rfl, by decide +kernel, by decide +kernel⟩ ?_ | refine LdN.one _ rfl (fun w hw => hw.1) rfl ?_); (conv => whnf))))
  refine LdN.fld (a := some ⟨tb, 0, none⟩) (q := 0) _ rfl (fun w hw => hw.2.2.2.1) rfl ?_
  ((conv => whnf); (repeat ((first | refine VrN.norm (wrap_i64 (by omega)) ?_ | refine VrN.keep ?_ | refine Nd.mk (by decide +kernel) ?_ | refine Nd.mk (by omega) ?_ | refine Nd.mk ⟨rfl, by decide +kernel, by decide +kernel⟩ ?_ | refine LdN.one _ rfl (fun w hw => hw.1) rfl ?_); (conv => whnf))))
  refine RwN.own ?_
  ((conv => whnf); (repeat ((first | refine VrN.norm (wrap_i64 (by omega)) ?_ | refine VrN.keep ?_ | refine Nd.mk (by decide +kernel) ?_ | refine Nd.mk (by omega) ?_ | refine Nd.mk ⟨rfl, by decide +kernel, by decide +kernel⟩ ?_ | refine LdN.one _ rfl (fun w hw => hw.1) rfl ?_); (conv => whnf))))
  refine ReadW.bytesOwn [0] rfl rfl Tryz.underlying84 Tryz.underlying5 Tryz.underlying9 rfl rfl ?_
  ((conv => whnf); (repeat ((first | refine VrN.norm (wrap_i64 (by omega)) ?_ | refine VrN.keep ?_ | refine Nd.mk (by decide +kernel) ?_ | refine Nd.mk (by omega) ?_ | refine Nd.mk ⟨rfl, by decide +kernel, by decide +kernel⟩ ?_ | refine LdN.one _ rfl (fun w hw => hw.1) rfl ?_); (conv => whnf))))
  refine RwN.own ?_
  ((conv => whnf); (repeat ((first | refine VrN.norm (wrap_i64 (by omega)) ?_ | refine VrN.keep ?_ | refine Nd.mk (by decide +kernel) ?_ | refine Nd.mk (by omega) ?_ | refine Nd.mk ⟨rfl, by decide +kernel, by decide +kernel⟩ ?_ | refine LdN.one _ rfl (fun w hw => hw.1) rfl ?_); (conv => whnf))))
  refine AppN.grow 2 _ _ rfl rfl ⟨by decide, ⟨Nat.le_of_ble_eq_true rfl, by omega⟩, Nat.one_ne_zero⟩ fun t1 k1 h1 h1' => ?_
  ((conv => whnf); (repeat ((first | refine VrN.norm (wrap_i64 (by omega)) ?_ | refine VrN.keep ?_ | refine Nd.mk (by decide +kernel) ?_ | refine Nd.mk (by omega) ?_ | refine Nd.mk ⟨rfl, by decide +kernel, by decide +kernel⟩ ?_ | refine LdN.one _ rfl (fun w hw => hw.1) rfl ?_); (conv => whnf))))
  refine EffW.appTo (i := 3) (q := 256) (ys := [_]) _ 257 rfl rfl rfl rfl rfl rfl rfl (Nat.le_of_ble_eq_true rfl) (put_set _ (by simp [tab0])) rfl ?_
  ((conv => whnf); (repeat ((first | refine VrN.norm (wrap_i64 (by omega)) ?_ | refine VrN.keep ?_ | refine Nd.mk (by decide +kernel) ?_ | refine Nd.mk (by omega) ?_ | refine Nd.mk ⟨rfl, by decide +kernel, by decide +kernel⟩ ?_ | refine LdN.one _ rfl (fun w hw => hw.1) rfl ?_); (conv => whnf))))
  refine EffW.bytesOf _ rfl Tryz.underlying9 Tryz.underlying84 Tryz.underlying5 rfl (by decide) fun n1 c1 g1 g1' => ?_
  ((conv => whnf); (repeat ((first | refine VrN.norm (wrap_i64 (by omega)) ?_ | refine VrN.keep ?_ | refine Nd.mk (by decide +kernel) ?_ | refine Nd.mk (by omega) ?_ | refine Nd.mk ⟨rfl, by decide +kernel, by decide +kernel⟩ ?_ | refine LdN.one _ rfl (fun w hw => hw.1) rfl ?_); (conv => whnf))))
  refine EffW.appTo (i := 3) (q := 0) (ys := [_]) _ 257 rfl rfl rfl rfl rfl rfl rfl (Nat.le_of_ble_eq_true rfl) (put_set _ (by simp [tab0])) rfl ?_
  ((conv => whnf); (repeat ((first | refine VrN.norm (wrap_i64 (by omega)) ?_ | refine VrN.keep ?_ | refine Nd.mk (by decide +kernel) ?_ | refine Nd.mk (by omega) ?_ | refine Nd.mk ⟨rfl, by decide +kernel, by decide +kernel⟩ ?_ | refine LdN.one _ rfl (fun w hw => hw.1) rfl ?_); (conv => whnf))))
  refine LdN.fld (a := some ⟨tb, 0, none⟩) (q := 0) _ rfl (fun w hw => hw.2.2.2.1) rfl ?_
  ((conv => whnf); (repeat ((first | refine VrN.norm (wrap_i64 (by omega)) ?_ | refine VrN.keep ?_ | refine Nd.mk (by decide +kernel) ?_ | refine Nd.mk (by omega) ?_ | refine Nd.mk ⟨rfl, by decide +kernel, by decide +kernel⟩ ?_ | refine LdN.one _ rfl (fun w hw => hw.1) rfl ?_); (conv => whnf))))
  refine LdN.fld (a := some ⟨tb, 0, none⟩) (q := 0) _ rfl (fun w hw => hw.2.2.2.1) rfl ?_
  ((conv => whnf); (repeat ((first | refine VrN.norm (wrap_i64 (by omega)) ?_ | refine VrN.keep ?_ | refine Nd.mk (by decide +kernel) ?_ | refine Nd.mk (by omega) ?_ | refine Nd.mk ⟨rfl, by decide +kernel, by decide +kernel⟩ ?_ | refine LdN.one _ rfl (fun w hw => hw.1) rfl ?_); (conv => whnf))))
  refine RwN.own ?_
  ((conv => whnf); (repeat ((first | refine VrN.norm (wrap_i64 (by omega)) ?_ | refine VrN.keep ?_ | refine Nd.mk (by decide +kernel) ?_ | refine Nd.mk (by omega) ?_ | refine Nd.mk ⟨rfl, by decide +kernel, by decide +kernel⟩ ?_ | refine LdN.one _ rfl (fun w hw => hw.1) rfl ?_); (conv => whnf))))
  refine ReadW.bytesOwn [10] rfl rfl Tryz.underlying84 Tryz.underlying5 Tryz.underlying9 rfl rfl ?_
  ((conv => whnf); (repeat ((first | refine VrN.norm (wrap_i64 (by omega)) ?_ | refine VrN.keep ?_ | refine Nd.mk (by decide +kernel) ?_ | refine Nd.mk (by omega) ?_ | refine Nd.mk ⟨rfl, by decide +kernel, by decide +kernel⟩ ?_ | refine LdN.one _ rfl (fun w hw => hw.1) rfl ?_); (conv => whnf))))
  refine RwN.own ?_
  ((conv => whnf); (repeat ((first | refine VrN.norm (wrap_i64 (by omega)) ?_ | refine VrN.keep ?_ | refine Nd.mk (by decide +kernel) ?_ | refine Nd.mk (by omega) ?_ | refine Nd.mk ⟨rfl, by decide +kernel, by decide +kernel⟩ ?_ | refine LdN.one _ rfl (fun w hw => hw.1) rfl ?_); (conv => whnf))))
  refine AppN.grow 2 _ _ rfl rfl ⟨by decide, ⟨Nat.le_of_ble_eq_true rfl, by omega⟩, Nat.one_ne_zero⟩ fun t2 k2 h2 h2' => ?_
  ((conv => whnf); (repeat ((first | refine VrN.norm (wrap_i64 (by omega)) ?_ | refine VrN.keep ?_ | refine Nd.mk (by decide +kernel) ?_ | refine Nd.mk (by omega) ?_ | refine Nd.mk ⟨rfl, by decide +kernel, by decide +kernel⟩ ?_ | refine LdN.one _ rfl (fun w hw => hw.1) rfl ?_); (conv => whnf))))
  refine EffW.appTo (i := 3) (q := 256) (ys := [_]) _ 257 rfl rfl rfl rfl rfl rfl rfl (Nat.le_of_ble_eq_true rfl) (put_set _ (by simp [tab0])) rfl ?_
  ((conv => whnf); (repeat ((first | refine VrN.norm (wrap_i64 (by omega)) ?_ | refine VrN.keep ?_ | refine Nd.mk (by decide +kernel) ?_ | refine Nd.mk (by omega) ?_ | refine Nd.mk ⟨rfl, by decide +kernel, by decide +kernel⟩ ?_ | refine LdN.one _ rfl (fun w hw => hw.1) rfl ?_); (conv => whnf))))
  refine EffW.bytesOf _ rfl Tryz.underlying9 Tryz.underlying84 Tryz.underlying5 rfl (by decide) fun n2 c2 g2 g2' => ?_
  ((conv => whnf); (repeat ((first | refine VrN.norm (wrap_i64 (by omega)) ?_ | refine VrN.keep ?_ | refine Nd.mk (by decide +kernel) ?_ | refine Nd.mk (by omega) ?_ | refine Nd.mk ⟨rfl, by decide +kernel, by decide +kernel⟩ ?_ | refine LdN.one _ rfl (fun w hw => hw.1) rfl ?_); (conv => whnf))))
  refine EffW.appTo (i := 3) (q := 10) (ys := [_]) _ 257 rfl rfl rfl rfl rfl rfl rfl (Nat.le_of_ble_eq_true rfl) (put_set _ (by simp [tab0])) rfl ?_
  ((conv => whnf); (repeat ((first | refine VrN.norm (wrap_i64 (by omega)) ?_ | refine VrN.keep ?_ | refine Nd.mk (by decide +kernel) ?_ | refine Nd.mk (by omega) ?_ | refine Nd.mk ⟨rfl, by decide +kernel, by decide +kernel⟩ ?_ | refine LdN.one _ rfl (fun w hw => hw.1) rfl ?_); (conv => whnf))))
  refine LdN.fld (a := some ⟨tb, 0, none⟩) (q := 0) _ rfl (fun w hw => hw.2.2.2.1) rfl ?_
  ((conv => whnf); (repeat ((first | refine VrN.norm (wrap_i64 (by omega)) ?_ | refine VrN.keep ?_ | refine Nd.mk (by decide +kernel) ?_ | refine Nd.mk (by omega) ?_ | refine Nd.mk ⟨rfl, by decide +kernel, by decide +kernel⟩ ?_ | refine LdN.one _ rfl (fun w hw => hw.1) rfl ?_); (conv => whnf))))
  refine LdN.fld (a := some ⟨tb, 0, none⟩) (q := 0) _ rfl (fun w hw => hw.2.2.2.1) rfl ?_
  ((conv => whnf); (repeat ((first | refine VrN.norm (wrap_i64 (by omega)) ?_ | refine VrN.keep ?_ | refine Nd.mk (by decide +kernel) ?_ | refine Nd.mk (by omega) ?_ | refine Nd.mk ⟨rfl, by decide +kernel, by decide +kernel⟩ ?_ | refine LdN.one _ rfl (fun w hw => hw.1) rfl ?_); (conv => whnf))))
  refine RwN.own ?_
  ((conv => whnf); (repeat ((first | refine VrN.norm (wrap_i64 (by omega)) ?_ | refine VrN.keep ?_ | refine Nd.mk (by decide +kernel) ?_ | refine Nd.mk (by omega) ?_ | refine Nd.mk ⟨rfl, by decide +kernel, by decide +kernel⟩ ?_ | refine LdN.one _ rfl (fun w hw => hw.1) rfl ?_); (conv => whnf))))
  refine ReadW.bytesOwn [35] rfl rfl Tryz.underlying84 Tryz.underlying5 Tryz.underlying9 rfl rfl ?_
  ((conv => whnf); (repeat ((first | refine VrN.norm (wrap_i64 (by omega)) ?_ | refine VrN.keep ?_ | refine Nd.mk (by decide +kernel) ?_ | refine Nd.mk (by omega) ?_ | refine Nd.mk ⟨rfl, by decide +kernel, by decide +kernel⟩ ?_ | refine LdN.one _ rfl (fun w hw => hw.1) rfl ?_); (conv => whnf))))
  refine RwN.own ?_
  ((conv => whnf); (repeat ((first | refine VrN.norm (wrap_i64 (by omega)) ?_ | refine VrN.keep ?_ | refine Nd.mk (by decide +kernel) ?_ | refine Nd.mk (by omega) ?_ | refine Nd.mk ⟨rfl, by decide +kernel, by decide +kernel⟩ ?_ | refine LdN.one _ rfl (fun w hw => hw.1) rfl ?_); (conv => whnf))))
  refine AppN.grow 2 _ _ rfl rfl ⟨by decide, ⟨Nat.le_of_ble_eq_true rfl, by omega⟩, Nat.one_ne_zero⟩ fun t3 k3 h3 h3' => ?_
  ((conv => whnf); (repeat ((first | refine VrN.norm (wrap_i64 (by omega)) ?_ | refine VrN.keep ?_ | refine Nd.mk (by decide +kernel) ?_ | refine Nd.mk (by omega) ?_ | refine Nd.mk ⟨rfl, by decide +kernel, by decide +kernel⟩ ?_ | refine LdN.one _ rfl (fun w hw => hw.1) rfl ?_); (conv => whnf))))
  refine EffW.appTo (i := 3) (q := 256) (ys := [_]) _ 257 rfl rfl rfl rfl rfl rfl rfl (Nat.le_of_ble_eq_true rfl) (put_set _ (by simp [tab0])) rfl ?_
  ((conv => whnf); (repeat ((first | refine VrN.norm (wrap_i64 (by omega)) ?_ | refine VrN.keep ?_ | refine Nd.mk (by decide +kernel) ?_ | refine Nd.mk (by omega) ?_ | refine Nd.mk ⟨rfl, by decide +kernel, by decide +kernel⟩ ?_ | refine LdN.one _ rfl (fun w hw => hw.1) rfl ?_); (conv => whnf))))
  refine EffW.bytesOf _ rfl Tryz.underlying9 Tryz.underlying84 Tryz.underlying5 rfl (by decide) fun n3 c3 g3 g3' => ?_
  ((conv => whnf); (repeat ((first | refine VrN.norm (wrap_i64 (by omega)) ?_ | refine VrN.keep ?_ | refine Nd.mk (by decide +kernel) ?_ | refine Nd.mk (by omega) ?_ | refine Nd.mk ⟨rfl, by decide +kernel, by decide +kernel⟩ ?_ | refine LdN.one _ rfl (fun w hw => hw.1) rfl ?_); (conv => whnf))))
  refine EffW.appTo (i := 3) (q := 35) (ys := [_]) _ 257 rfl rfl rfl rfl rfl rfl rfl (Nat.le_of_ble_eq_true rfl) (put_set _ (by simp [tab0])) rfl ?_
  ((conv => whnf); (repeat ((first | refine VrN.norm (wrap_i64 (by omega)) ?_ | refine VrN.keep ?_ | refine Nd.mk (by decide +kernel) ?_ | refine Nd.mk (by omega) ?_ | refine Nd.mk ⟨rfl, by decide +kernel, by decide +kernel⟩ ?_ | refine LdN.one _ rfl (fun w hw => hw.1) rfl ?_); (conv => whnf))))
  refine LdN.fld (a := some ⟨tb, 0, none⟩) (q := 0) _ rfl (fun w hw => hw.2.2.2.1) rfl ?_
  ((conv => whnf); (repeat ((first | refine VrN.norm (wrap_i64 (by omega)) ?_ | refine VrN.keep ?_ | refine Nd.mk (by decide +kernel) ?_ | refine Nd.mk (by omega) ?_ | refine Nd.mk ⟨rfl, by decide +kernel, by decide +kernel⟩ ?_ | refine LdN.one _ rfl (fun w hw => hw.1) rfl ?_); (conv => whnf))))
  refine LdN.fld (a := some ⟨tb, 0, none⟩) (q := 0) _ rfl (fun w hw => hw.2.2.2.1) rfl ?_
  ((conv => whnf); (repeat ((first | refine VrN.norm (wrap_i64 (by omega)) ?_ | refine VrN.keep ?_ | refine Nd.mk (by decide +kernel) ?_ | refine Nd.mk (by omega) ?_ | refine Nd.mk ⟨rfl, by decide +kernel, by decide +kernel⟩ ?_ | refine LdN.one _ rfl (fun w hw => hw.1) rfl ?_); (conv => whnf))))
  refine RwN.own ?_
  ((conv => whnf); (repeat ((first | refine VrN.norm (wrap_i64 (by omega)) ?_ | refine VrN.keep ?_ | refine Nd.mk (by decide +kernel) ?_ | refine Nd.mk (by omega) ?_ | refine Nd.mk ⟨rfl, by decide +kernel, by decide +kernel⟩ ?_ | refine LdN.one _ rfl (fun w hw => hw.1) rfl ?_); (conv => whnf))))
  refine ReadW.bytesOwn [34] rfl rfl Tryz.underlying84 Tryz.underlying5 Tryz.underlying9 rfl rfl ?_
  ((conv => whnf); (repeat ((first | refine VrN.norm (wrap_i64 (by omega)) ?_ | refine VrN.keep ?_ | refine Nd.mk (by decide +kernel) ?_ | refine Nd.mk (by omega) ?_ | refine Nd.mk ⟨rfl, by decide +kernel, by decide +kernel⟩ ?_ | refine LdN.one _ rfl (fun w hw => hw.1) rfl ?_); (conv => whnf))))
  refine RwN.own ?_
  ((conv => whnf); (repeat ((first | refine VrN.norm (wrap_i64 (by omega)) ?_ | refine VrN.keep ?_ | refine Nd.mk (by decide +kernel) ?_ | refine Nd.mk (by omega) ?_ | refine Nd.mk ⟨rfl, by decide +kernel, by decide +kernel⟩ ?_ | refine LdN.one _ rfl (fun w hw => hw.1) rfl ?_); (conv => whnf))))
  refine AppN.grow 2 _ _ rfl rfl ⟨by decide, ⟨Nat.le_of_ble_eq_true rfl, by omega⟩, Nat.one_ne_zero⟩ fun t4 k4 h4 h4' => ?_
  ((conv => whnf); (repeat ((first | refine VrN.norm (wrap_i64 (by omega)) ?_ | refine VrN.keep ?_ | refine Nd.mk (by decide +kernel) ?_ | refine Nd.mk (by omega) ?_ | refine Nd.mk ⟨rfl, by decide +kernel, by decide +kernel⟩ ?_ | refine LdN.one _ rfl (fun w hw => hw.1) rfl ?_); (conv => whnf))))
  refine EffW.appTo (i := 3) (q := 256) (ys := [_]) _ 257 rfl rfl rfl rfl rfl rfl rfl (Nat.le_of_ble_eq_true rfl) (put_set _ (by simp [tab0])) rfl ?_
  ((conv => whnf); (repeat ((first | refine VrN.norm (wrap_i64 (by omega)) ?_ | refine VrN.keep ?_ | refine Nd.mk (by decide +kernel) ?_ | refine Nd.mk (by omega) ?_ | refine Nd.mk ⟨rfl, by decide +kernel, by decide +kernel⟩ ?_ | refine LdN.one _ rfl (fun w hw => hw.1) rfl ?_); (conv => whnf))))
  refine EffW.bytesOf _ rfl Tryz.underlying9 Tryz.underlying84 Tryz.underlying5 rfl (by decide) fun n4 c4 g4 g4' => ?_
  ((conv => whnf); (repeat ((first | refine VrN.norm (wrap_i64 (by omega)) ?_ | refine VrN.keep ?_ | refine Nd.mk (by decide +kernel) ?_ | refine Nd.mk (by omega) ?_ | refine Nd.mk ⟨rfl, by decide +kernel, by decide +kernel⟩ ?_ | refine LdN.one _ rfl (fun w hw => hw.1) rfl ?_); (conv => whnf))))
  refine EffW.appTo (i := 3) (q := 34) (ys := [_]) _ 257 rfl rfl rfl rfl rfl rfl rfl (Nat.le_of_ble_eq_true rfl) (put_set _ (by simp [tab0])) rfl ?_
  ((conv => whnf); (repeat ((first | refine VrN.norm (wrap_i64 (by omega)) ?_ | refine VrN.keep ?_ | refine Nd.mk (by decide +kernel) ?_ | refine Nd.mk (by omega) ?_ | refine Nd.mk ⟨rfl, by decide +kernel, by decide +kernel⟩ ?_ | refine LdN.one _ rfl (fun w hw => hw.1) rfl ?_); (conv => whnf))))
  refine LdN.fld (a := some ⟨tb, 0, none⟩) (q := 0) _ rfl (fun w hw => hw.2.2.2.1) rfl ?_
  ((conv => whnf); (repeat ((first | refine VrN.norm (wrap_i64 (by omega)) ?_ | refine VrN.keep ?_ | refine Nd.mk (by decide +kernel) ?_ | refine Nd.mk (by omega) ?_ | refine Nd.mk ⟨rfl, by decide +kernel, by decide +kernel⟩ ?_ | refine LdN.one _ rfl (fun w hw => hw.1) rfl ?_); (conv => whnf))))
  refine LdN.fld (a := some ⟨tb, 0, none⟩) (q := 0) _ rfl (fun w hw => hw.2.2.2.1) rfl ?_
  ((conv => whnf); (repeat ((first | refine VrN.norm (wrap_i64 (by omega)) ?_ | refine VrN.keep ?_ | refine Nd.mk (by decide +kernel) ?_ | refine Nd.mk (by omega) ?_ | refine Nd.mk ⟨rfl, by decide +kernel, by decide +kernel⟩ ?_ | refine LdN.one _ rfl (fun w hw => hw.1) rfl ?_); (conv => whnf))))
  refine RwN.own ?_
  ((conv => whnf); (repeat ((first | refine VrN.norm (wrap_i64 (by omega)) ?_ | refine VrN.keep ?_ | refine Nd.mk (by decide +kernel) ?_ | refine Nd.mk (by omega) ?_ | refine Nd.mk ⟨rfl, by decide +kernel, by decide +kernel⟩ ?_ | refine LdN.one _ rfl (fun w hw => hw.1) rfl ?_); (conv => whnf))))
  refine ReadW.bytesOwn [92] rfl rfl Tryz.underlying84 Tryz.underlying5 Tryz.underlying9 rfl rfl ?_
  ((conv => whnf); (repeat ((first | refine VrN.norm (wrap_i64 (by omega)) ?_ | refine VrN.keep ?_ | refine Nd.mk (by decide +kernel) ?_ | refine Nd.mk (by omega) ?_ | refine Nd.mk ⟨rfl, by decide +kernel, by decide +kernel⟩ ?_ | refine LdN.one _ rfl (fun w hw => hw.1) rfl ?_); (conv => whnf))))
  refine RwN.own ?_
  ((conv => whnf); (repeat ((first | refine VrN.norm (wrap_i64 (by omega)) ?_ | refine VrN.keep ?_ | refine Nd.mk (by decide +kernel) ?_ | refine Nd.mk (by omega) ?_ | refine Nd.mk ⟨rfl, by decide +kernel, by decide +kernel⟩ ?_ | refine LdN.one _ rfl (fun w hw => hw.1) rfl ?_); (conv => whnf))))
  refine AppN.grow 2 _ _ rfl rfl ⟨by decide, ⟨Nat.le_of_ble_eq_true rfl, by omega⟩, Nat.one_ne_zero⟩ fun t5 k5 h5 h5' => ?_
  ((conv => whnf); (repeat ((first | refine VrN.norm (wrap_i64 (by omega)) ?_ | refine VrN.keep ?_ | refine Nd.mk (by decide +kernel) ?_ | refine Nd.mk (by omega) ?_ | refine Nd.mk ⟨rfl, by decide +kernel, by decide +kernel⟩ ?_ | refine LdN.one _ rfl (fun w hw => hw.1) rfl ?_); (conv => whnf))))
  refine EffW.appTo (i := 3) (q := 256) (ys := [_]) _ 257 rfl rfl rfl rfl rfl rfl rfl (Nat.le_of_ble_eq_true rfl) (put_set _ (by simp [tab0])) rfl ?_
  ((conv => whnf); (repeat ((first | refine VrN.norm (wrap_i64 (by omega)) ?_ | refine VrN.keep ?_ | refine Nd.mk (by decide +kernel) ?_ | refine Nd.mk (by omega) ?_ | refine Nd.mk ⟨rfl, by decide +kernel, by decide +kernel⟩ ?_ | refine LdN.one _ rfl (fun w hw => hw.1) rfl ?_); (conv => whnf))))
  refine EffW.bytesOf _ rfl Tryz.underlying9 Tryz.underlying84 Tryz.underlying5 rfl (by decide) fun n5 c5 g5 g5' => ?_
  ((conv => whnf); (repeat ((first | refine VrN.norm (wrap_i64 (by omega)) ?_ | refine VrN.keep ?_ | refine Nd.mk (by decide +kernel) ?_ | refine Nd.mk (by omega) ?_ | refine Nd.mk ⟨rfl, by decide +kernel, by decide +kernel⟩ ?_ | refine LdN.one _ rfl (fun w hw => hw.1) rfl ?_); (conv => whnf))))
  refine EffW.appTo (i := 3) (q := 92) (ys := [_]) _ 257 rfl rfl rfl rfl rfl rfl rfl (Nat.le_of_ble_eq_true rfl) (put_set _ (by simp [tab0])) rfl ?_
  ((conv => whnf); (repeat ((first | refine VrN.norm (wrap_i64 (by omega)) ?_ | refine VrN.keep ?_ | refine Nd.mk (by decide +kernel) ?_ | refine Nd.mk (by omega) ?_ | refine Nd.mk ⟨rfl, by decide +kernel, by decide +kernel⟩ ?_ | refine LdN.one _ rfl (fun w hw => hw.1) rfl ?_); (conv => whnf))))
  refine EffW.appTo (i := 1) (q := 3) (ys := [.iface 217 (.pointer (some ⟨tb, 0, none⟩))]) (replC 0 1 (.iface 217 (.pointer (some ⟨tb, 0, none⟩))) (some ⟨c, 0, none⟩) 10 k) 5 rfl rfl rfl rfl rfl rfl rfl (Nat.le_of_ble_eq_true rfl) rfl rfl ?_
  (first | refine wX ?_ | exact wZ)
  refine EffW.appTo (i := 1) (q := 4) (ys := [.slice none 0 0]) (replC 0 1 (.iface 217 (.pointer (some ⟨tb, 0, none⟩))) none 0 0) 5 rfl rfl rfl rfl rfl rfl rfl (Nat.le_of_ble_eq_true rfl) rfl rfl ?_
  (first | refine wX ?_ | exact wZ)
  refine ⟨rfl, 5, _, rfl, ⟨_, rfl⟩, rfl, ?_⟩
  (first | refine wX ?_ | exact wZ)
  have hD := rounds_ok qt [(0, t1, k1, n1, c1), (10, t2, k2, n2, c2), (35, t3, k3, n3, c3), (34, t4, k4, n4, c4)] (92, t5, k5, n5, c5) (show qtL.Nodup by decide) t tb (qt_other · ·) qt_sz (Nat.le_of_ble_eq_true rfl)
  refine LdN.one (a := some ⟨b, 0, none⟩) (q := 3) (.iface 217 (.pointer (some ⟨tb, 0, none⟩))) rfl (fun w hw => hw.2.1) rfl ?_
  (first | refine wX ?_ | exact wZ)
  refine InvN.intro 225 (.pointer (some ⟨tb, 0, none⟩)) (fun _ => by kernel_rfl) ?_
  have hF : ∀ w : World, SlAt (some ⟨tb, 0, none⟩) (1 * 257) (tabL (tab0 t) (rdL qt 0 [(0, t1, k1, n1, c1), (10, t2, k2, n2, c2), (35, t3, k3, n3, c3), (34, t4, k4, n4, c4), (92, t5, k5, n5, c5)])) w → SlAt (some ⟨t5, 0, none⟩) (5 * 1) (qtL.map fun c => .string (bs [c])) w →
      SlAt (some ⟨n1, 0, none⟩) ((qt 0).length * 1) (u8s (qt 0)) w → SlAt (some ⟨n2, 0, none⟩) ((qt 10).length * 1) (u8s (qt 10)) w → SlAt (some ⟨n3, 0, none⟩) ((qt 35).length * 1) (u8s (qt 35)) w → SlAt (some ⟨n4, 0, none⟩) ((qt 34).length * 1) (u8s (qt 34)) w → SlAt (some ⟨n5, 0, none⟩) ((qt 92).length * 1) (u8s (qt 92)) w →
      TblF qt qtL ⟨tb, tabL (tab0 t) (rdL qt 0 ([(0, t1, k1, n1, c1), (10, t2, k2, n2, c2), (35, t3, k3, n3, c3), (34, t4, k4, n4, c4)] ++ [(92, t5, k5, n5, c5)])), some ⟨t5, 0, none⟩, k5⟩ w := by
    intro w f1 f2 f3 f4 f5 f6 f7
    rw [Nat.mul_one] at f3 f4 f5 f6 f7
    refine ⟨f1, f2, rounds_fact qt [(0, t1, k1, n1, c1), (10, t2, k2, n2, c2), (35, t3, k3, n3, c3), (34, t4, k4, n4, c4), (92, t5, k5, n5, c5)] (show qtL.Nodup by decide) t fun o t' k' n' cap' h => ?_⟩
    simp only [List.mem_cons, Prod.mk.injEq, List.not_mem_nil, or_false] at h
    rcases h with ⟨rfl, _, _, rfl, _⟩ | ⟨rfl, _, _, rfl, _⟩ | ⟨rfl, _, _, rfl, _⟩ | ⟨rfl, _, _, rfl, _⟩ | ⟨rfl, _, _, rfl, _⟩
    · exact f3
    · exact f4
    · exact f5
    · exact f6
    · exact f7
  refine call1 (bsr_c qt qtL _ hD s hs _ fun w hw => hF w hw.2.2.2.1 hw.2.2.1 hw.2.2.2.2.1 hw.2.2.2.2.2.1 hw.2.2.2.2.2.2.1 hw.2.2.2.2.2.2.2.1 hw.2.2.2.2.2.2.2.2.1) ?_
  (first | refine wX ?_ | exact wZ)
  refine ⟨_, hD, rfl, Nat.le_of_ble_eq_true rfl, fun e he => ?_⟩
  rcases List.mem_cons.1 he with rfl | he
  · exact .inl rfl
  · obtain rfl := List.mem_singleton.1 he
    exact .inr ⟨_, rfl, fun w hw => ⟨hw.2.1, hF w hw.2.2.2.1 hw.2.2.1 hw.2.2.2.2.1 hw.2.2.2.2.2.1 hw.2.2.2.2.2.2.1 hw.2.2.2.2.2.2.2.1 hw.2.2.2.2.2.2.2.2.1⟩⟩
end Go.Proofs.YtahjbnfbilkbcaaGreatDoor

/-
  Contract: Quote (program).
-/
namespace Go.Proofs.YtahjbnfbilkbcaaGreatDoor
open Go.AX Go.RowKit Go.Scan
set_option maxRecDepth 20000

theorem Quote_c (s : List UInt8) (hs : s.length ≤ 1000000) : ∀ H : List Ent, SpecH Tryz.prog 98 (pvs [.string (bs s)]) H (Ret (.string (bs (s.flatMap qt))) H) := by
  refine pureC hm Tryz.func98 (by kernel_rfl) rfl rfl ?_
  (first | refine wX ?_ | exact wZ)
  refine SpecH.freeze (callOk Tryz.func119 (by kernel_rfl) rfl) 0 rfl rfl fun b0 cap _ => ?_
  refine SpecH.plain rfl ?_
  refine callG (NewReplacer_c b0 (olnw qt qtL.reverse) cap (by decide) (by decide) (by decide) (by decide)) [0] rfl ⟨rfl, trivial⟩ rfl fun ⟨b, c, k⟩ _ => ?_
  (first | refine wX ?_ | exact wZ)
  refine callG (first_qt s b c k hs) [1, 2] rfl ⟨rfl, rfl, trivial⟩ rfl fun d hd => ?_
  (first | refine wX ?_ | exact wZ)
end Go.Proofs.YtahjbnfbilkbcaaGreatDoor
