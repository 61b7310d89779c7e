/-
  Lemmas (C12 C13 Ax52 X3 Y1 W1 P12 W2 U1 Q1 Q2 O1 O2 K1 Q3 Q4 Q5).
-/
import Derived.Test.YtahjbnfbilkbcaaGreatDoorChecked
import Derived.Tactics
import Derived.Tactics2
import Derived.Defers
import Derived.Laws.Pointers
import Derived.Laws.LoneSync
import Derived.RegionTactic
import Derived.RegionCalls
import Derived.ChangeAlike
import Derived.Test.YtahjbnfbilkbcaaGreatDoorEqu7
/-
  Contract: Check (program).
-/
namespace Go.Core
theorem any_range (n : Nat) (c : Cell) : (c.items.any fun i => decide (i < 0) || decide (i ≥ (n : Int))) = !rangeB n c := by
  unfold rangeB
  rw [List.all_eq_not_any_not, Bool.not_not]
  exact congrArg (fun f => c.items.any f) (funext fun i => by rw [Bool.eq_iff_iff]; simp)
end Go.Core
namespace Go.Proofs.YtahjbnfbilkbcaaGreatDoor
open Go.AX Go.RowKit Go.Core Go.Scan
set_option maxRecDepth 20000

theorem plain_c (p : CellP) (hp : CellOk p) (hs : p.c.names.length ≤ 2000 ∧ p.c.items.length ≤ 2000) : ∀ H, (∀ w, Facts H w → CellF p w) → SpecH Tryz.prog 45 (pvs [cellV p]) H (Ret (.bool (Go.Core.plainS p.c)) H) := by
  obtain ⟨⟨kind, num, text, names, items⟩, na, nc, ia, ic⟩ := p
  exact plain_c0 kind num text names items na nc ia ic hp.na hp.ia hs.1 hs.2 hp.nw hp.tl
theorem out_c (x : Int) (b : Nat) (a : Option Addr) (n c : Nat) : ∀ H, (∀ w, Facts H w → SlAt (some ⟨b, 0, none⟩) 1 [.slice a n c] w) → SpecH Tryz.prog 47 (pvs [.int .i64 x, .pointer (some ⟨b, 0, none⟩)]) H (Ret (.bool (decide (x < 0) || decide (x ≥ (n : Int)))) H) := by
  refine factC hm Tryz.func47 (by kernel_rfl) rfl rfl ?_
  (first | refine wX ?_ | exact wZ)
  refine brd_dec (fun h1 => ?_) (fun h1 => ?_)
  · (first | refine wX ?_ | exact wZ)
    exact out_bool (by simp [h1])
  · (first | refine wX ?_ | exact wZ)
    refine LdN.one (a := some ⟨b, 0, none⟩) (q := 0) (.slice a n c) rfl (fun w hw => hw.1) rfl ?_
    (first | refine wX ?_ | exact wZ)
    exact out_bool (by simp [h1])
def errI (b : Bool) : Value := .int .i64 (if b then 0 else 1)
set_option maxHeartbeats 4000000 in
theorem Check_c (a : Option Addr) (ca : Nat) (l : List CellP) (ha : a = none → l = []) (hs : Small l) (hok : ∀ p ∈ l, CellOk p) :
    ∀ H, (∀ w, Facts H w → GrF a l w) → ∃ b : Bool, (b = true ↔ ValidP (l.map (·.c))) ∧ SpecH Tryz.prog 18 (pvs [.slice a l.length ca]) H (Ret (errI b) H) := by
  intro H hH
  obtain ⟨b, hb⟩ : ∃ b : Bool, b = true ↔ ValidP (l.map (·.c)) := by
    by_cases h : ValidP (l.map (·.c))
    · exact ⟨true, fun _ => h, fun _ => rfl⟩
    · exact ⟨false, (fun h => by cases h), fun h2 => absurd h2 h⟩
  refine ⟨b, hb, ?_⟩
  obtain ⟨hl, hsm⟩ := hs
  have hml : (l.map (·.c)).length = l.length := by simp
  have hno : ¬ ValidP (l.map (·.c)) → (1 : Int) = if b then 0 else 1 := fun h => by
    cases b with
    | false => rfl
    | true => exact absurd (hb.1 rfl) h
  refine factC hm Tryz.func18 (by kernel_rfl) rfl rfl ?_ H hH
  ((conv => whnf); (repeat ((first | refine RwN.own ?_ | refine VrN.norm (wrap_i64 (by omega)) ?_ | refine VrN.keep ?_ | refine DrawN.calm (by decide +kernel) ?_ | refine Nd.mk (by decide +kernel) ?_ | refine Nd.mk (by omega) ?_ | (refine Nd.mk ?_ ?_; focus ((repeat' (first | exact trivial | exact wkE_refl _ | refine And.intro ?_ ?_)); done)) | refine RdN.intro _ rfl (by rfl) ?_); (conv => whnf))))
  refine BoxN.known [.slice a l.length ca] rfl fun gb => ?_
  ((conv => whnf); (repeat ((first | refine RwN.own ?_ | refine VrN.norm (wrap_i64 (by omega)) ?_ | refine VrN.keep ?_ | refine DrawN.calm (by decide +kernel) ?_ | refine Nd.mk (by decide +kernel) ?_ | refine Nd.mk (by omega) ?_ | (refine Nd.mk ?_ ?_; focus ((repeat' (first | exact trivial | exact wkE_refl _ | refine And.intro ?_ ?_)); done)) | refine RdN.intro _ rfl (by rfl) ?_); (conv => whnf))))
  -- the graph, out of its box
  refine LdN.one (a := some ⟨gb, 0, none⟩) (q := 0) (.slice a l.length ca) rfl (fun w hw => hw.2.1) rfl ?_
  ((conv => whnf); (repeat ((first | refine RwN.own ?_ | refine VrN.norm (wrap_i64 (by omega)) ?_ | refine VrN.keep ?_ | refine DrawN.calm (by decide +kernel) ?_ | refine Nd.mk (by decide +kernel) ?_ | refine Nd.mk (by omega) ?_ | (refine Nd.mk ?_ ?_; focus ((repeat' (first | exact trivial | exact wkE_refl _ | refine And.intro ?_ ?_)); done)) | refine RdN.intro _ rfl (by rfl) ?_); (conv => whnf))))
  refine brd_dec (fun h0 => ?_) (fun h0 => ?_)
  · ((conv => whnf); (repeat ((first | refine RwN.own ?_ | refine VrN.norm (wrap_i64 (by omega)) ?_ | refine VrN.keep ?_ | refine DrawN.calm (by decide +kernel) ?_ | refine Nd.mk (by decide +kernel) ?_ | refine Nd.mk (by omega) ?_ | (refine Nd.mk ?_ ?_; focus ((repeat' (first | exact trivial | exact wkE_refl _ | refine And.intro ?_ ?_)); done)) | refine RdN.intro _ rfl (by rfl) ?_); (conv => whnf))))
    exact out_int (hno fun h => by have := h.1; omega)
  ((conv => whnf); (repeat ((first | refine RwN.own ?_ | refine VrN.norm (wrap_i64 (by omega)) ?_ | refine VrN.keep ?_ | refine DrawN.calm (by decide +kernel) ?_ | refine Nd.mk (by decide +kernel) ?_ | refine Nd.mk (by omega) ?_ | (refine Nd.mk ?_ ?_; focus ((repeat' (first | exact trivial | exact wkE_refl _ | refine And.intro ?_ ?_)); done)) | refine RdN.intro _ rfl (by rfl) ?_); (conv => whnf))))
  -- the graph, out of its box
  refine LdN.one (a := some ⟨gb, 0, none⟩) (q := 0) (.slice a l.length ca) rfl (fun w hw => hw.2.1) rfl ?_
  ((conv => whnf); (repeat ((first | refine RwN.own ?_ | refine VrN.norm (wrap_i64 (by omega)) ?_ | refine VrN.keep ?_ | refine DrawN.calm (by decide +kernel) ?_ | refine Nd.mk (by decide +kernel) ?_ | refine Nd.mk (by omega) ?_ | (refine Nd.mk ?_ ?_; focus ((repeat' (first | exact trivial | exact wkE_refl _ | refine And.intro ?_ ?_)); done)) | refine RdN.intro _ rfl (by rfl) ?_); (conv => whnf))))
  refine loopS Nat (fun i => i ≤ l.length ∧ ∀ p ∈ l.take i, cellD l.length p.c = true) (fun i => mkS Tryz.f18.ntmps 0 [(1, .c (.v (.pointer (some ⟨gb, 0, none⟩)))), (10, .c (.v (.slice a l.length ca))), (11, .c (.v (.int .i64 (l.length : Int)))), (12, .c (.v (.int .i64 (i : Int))))]) (fun i => l.length - i) rfl (fun _ => rfl) 0 ⟨Nat.zero_le _, by simp⟩ ?_ ?_
  · (repeat' (first | exact trivial | refine And.intro (by with_reducible rfl) ?_ | (with_reducible exact wkC_refl _) | (with_reducible exact wkCs_refl _) | refine And.intro ?_ ?_))
    all_goals rfl
  intro i ⟨hi, hc⟩
  ((conv => whnf); (repeat ((first | refine RwN.own ?_ | refine VrN.norm (wrap_i64 (by omega)) ?_ | refine VrN.keep ?_ | refine DrawN.calm (by decide +kernel) ?_ | refine Nd.mk (by decide +kernel) ?_ | refine Nd.mk (by omega) ?_ | (refine Nd.mk ?_ ?_; focus ((repeat' (first | exact trivial | exact wkE_refl _ | refine And.intro ?_ ?_)); done)) | refine RdN.intro _ rfl (by rfl) ?_); (conv => whnf))))
  refine brd_dec (fun h1 => ?_) (fun h1 => ?_)
  · obtain ⟨p, hp⟩ : ∃ p, l[i]? = some p := ⟨_, List.getElem?_eq_getElem (by omega)⟩
    have hpm := List.mem_of_getElem? hp
    have hpo := hok p hpm
    have hsa : a.isSome = true := by
      cases a with
      | none => rw [ha rfl] at hp; cases hp
      | some b => rfl
    have hbad : (Go.Core.plainS p.c && rangeB l.length p.c) = false → ¬ ValidP (l.map (·.c)) := fun h hv => by
      have := hv.2.1 p.c (List.mem_map.2 ⟨p, hpm, rfl⟩)
      rw [hml, ← cell_eq, h] at this
      cases this
    ((conv => whnf); (repeat ((first | refine RwN.own ?_ | refine VrN.norm (wrap_i64 (by omega)) ?_ | refine VrN.keep ?_ | refine DrawN.calm (by decide +kernel) ?_ | refine Nd.mk (by decide +kernel) ?_ | refine Nd.mk (by omega) ?_ | (refine Nd.mk ?_ ?_; focus ((repeat' (first | exact trivial | exact wkE_refl _ | refine And.intro ?_ ?_)); done)) | refine RdN.intro _ rfl (by rfl) ?_); (conv => whnf))))
    refine Nd.mk ⟨hsa, by omega, by omega⟩ ?_
    ((conv => whnf); (repeat ((first | refine RwN.own ?_ | refine VrN.norm (wrap_i64 (by omega)) ?_ | refine VrN.keep ?_ | refine DrawN.calm (by decide +kernel) ?_ | refine Nd.mk (by decide +kernel) ?_ | refine Nd.mk (by omega) ?_ | (refine Nd.mk ?_ ?_; focus ((repeat' (first | exact trivial | exact wkE_refl _ | refine And.intro ?_ ?_)); done)) | refine RdN.intro _ rfl (by rfl) ?_); (conv => whnf))))
    refine LdN.agg (cellC p) rfl (fun w hw => hw.1.1) rfl (fun k hk => by rw [Int.toNat_natCast]; exact grC_get l i k hk hp) ?_
    ((conv => whnf); (repeat ((first | refine RwN.own ?_ | refine VrN.norm (wrap_i64 (by omega)) ?_ | refine VrN.keep ?_ | refine DrawN.calm (by decide +kernel) ?_ | refine Nd.mk (by decide +kernel) ?_ | refine Nd.mk (by omega) ?_ | (refine Nd.mk ?_ ?_; focus ((repeat' (first | exact trivial | exact wkE_refl _ | refine And.intro ?_ ?_)); done)) | refine RdN.intro _ rfl (by rfl) ?_); (conv => whnf))))
    refine BoxN.known [.int .i64 0, .int .i64 0, .string { data := #[] }, .slice none 0 0, .slice none 0 0] rfl fun cb => ?_
    ((conv => whnf); (repeat ((first | refine RwN.own ?_ | refine VrN.norm (wrap_i64 (by omega)) ?_ | refine VrN.keep ?_ | refine DrawN.calm (by decide +kernel) ?_ | refine Nd.mk (by decide +kernel) ?_ | refine Nd.mk (by omega) ?_ | (refine Nd.mk ?_ ?_; focus ((repeat' (first | exact trivial | exact wkE_refl _ | refine And.intro ?_ ?_)); done)) | refine RdN.intro _ rfl (by rfl) ?_); (conv => whnf))))
    refine EffW.appTo (i := 2) (q := 0) (ys := cellC p) (cellC p) 5 rfl rfl rfl rfl rfl rfl rfl (Nat.le_of_ble_eq_true rfl) rfl rfl ?_
    ((conv => whnf); (repeat ((first | refine RwN.own ?_ | refine VrN.norm (wrap_i64 (by omega)) ?_ | refine VrN.keep ?_ | refine DrawN.calm (by decide +kernel) ?_ | refine Nd.mk (by decide +kernel) ?_ | refine Nd.mk (by omega) ?_ | (refine Nd.mk ?_ ?_; focus ((repeat' (first | exact trivial | exact wkE_refl _ | refine And.intro ?_ ?_)); done)) | refine RdN.intro _ rfl (by rfl) ?_); (conv => whnf))))
    refine LdN.agg (a := some ⟨cb, 0, none⟩) (q := 0) (cellC p) rfl (fun w hw => hw.2.2.1) rfl (fun k hk => by rw [Nat.zero_add]) ?_
    ((conv => whnf); (repeat ((first | refine RwN.own ?_ | refine VrN.norm (wrap_i64 (by omega)) ?_ | refine VrN.keep ?_ | refine DrawN.calm (by decide +kernel) ?_ | refine Nd.mk (by decide +kernel) ?_ | refine Nd.mk (by omega) ?_ | (refine Nd.mk ?_ ?_; focus ((repeat' (first | exact trivial | exact wkE_refl _ | refine And.intro ?_ ?_)); done)) | refine RdN.intro _ rfl (by rfl) ?_); (conv => whnf))))
    refine call1 (plain_c p hpo (hsm p hpm) _ (fun w hw => hw.1.2 p hpm)) ?_
    cases hpl : Go.Core.plainS p.c with
    | false =>
      ((conv => whnf); (repeat ((first | refine RwN.own ?_ | refine VrN.norm (wrap_i64 (by omega)) ?_ | refine VrN.keep ?_ | refine DrawN.calm (by decide +kernel) ?_ | refine Nd.mk (by decide +kernel) ?_ | refine Nd.mk (by omega) ?_ | (refine Nd.mk ?_ ?_; focus ((repeat' (first | exact trivial | exact wkE_refl _ | refine And.intro ?_ ?_)); done)) | refine RdN.intro _ rfl (by rfl) ?_); (conv => whnf))))
      exact out_int (hno (hbad (by rw [hpl]; rfl)))
    | true =>
    ((conv => whnf); (repeat ((first | refine RwN.own ?_ | refine VrN.norm (wrap_i64 (by omega)) ?_ | refine VrN.keep ?_ | refine DrawN.calm (by decide +kernel) ?_ | refine Nd.mk (by decide +kernel) ?_ | refine Nd.mk (by omega) ?_ | (refine Nd.mk ?_ ?_; focus ((repeat' (first | exact trivial | exact wkE_refl _ | refine And.intro ?_ ?_)); done)) | refine RdN.intro _ rfl (by rfl) ?_); (conv => whnf))))
    refine LdN.one (a := some ⟨cb, 0, none⟩) (q := 4) (.slice p.ia p.c.items.length p.ic) rfl (fun w hw => hw.2.2.1) rfl ?_
    ((conv => whnf); (repeat ((first | refine RwN.own ?_ | refine VrN.norm (wrap_i64 (by omega)) ?_ | refine VrN.keep ?_ | refine DrawN.calm (by decide +kernel) ?_ | refine Nd.mk (by decide +kernel) ?_ | refine Nd.mk (by omega) ?_ | (refine Nd.mk ?_ ?_; focus ((repeat' (first | exact trivial | exact wkE_refl _ | refine And.intro ?_ ?_)); done)) | refine RdN.intro _ rfl (by rfl) ?_); (conv => whnf))))
    refine SpecH.args (args' := pvs [.slice p.ia p.c.items.length p.ic, .func (.func 47) #[] #[.pointer (some ⟨gb, 0, none⟩)]]) (by simp [pvs, opvs, opv, nth, plainEv]; try rfl) ?_
    refine call1 (HasI_c (fun x => decide (x < 0) || decide (x ≥ (l.length : Int))) 47 #[.pointer (some ⟨gb, 0, none⟩)] (SlAt (some ⟨gb, 0, none⟩) 1 [.slice a l.length ca]) p.ia p.ic p.c.items (fun x _ H hH => out_c x gb a l.length ca H hH) hpo.ia hpo.il _ (fun w hw => ⟨(hw.1.2 p hpm).2, hw.2.1⟩)) ?_
    rw [any_range]
    cases hrg : rangeB l.length p.c with
    | false =>
      ((conv => whnf); (repeat ((first | refine RwN.own ?_ | refine VrN.norm (wrap_i64 (by omega)) ?_ | refine VrN.keep ?_ | refine DrawN.calm (by decide +kernel) ?_ | refine Nd.mk (by decide +kernel) ?_ | refine Nd.mk (by omega) ?_ | (refine Nd.mk ?_ ?_; focus ((repeat' (first | exact trivial | exact wkE_refl _ | refine And.intro ?_ ?_)); done)) | refine RdN.intro _ rfl (by rfl) ?_); (conv => whnf))))
      exact out_int (hno (hbad (by rw [hpl, hrg]; rfl)))
    | true =>
    ((conv => whnf); (repeat ((first | refine RwN.own ?_ | refine VrN.norm (wrap_i64 (by omega)) ?_ | refine VrN.keep ?_ | refine DrawN.calm (by decide +kernel) ?_ | refine Nd.mk (by decide +kernel) ?_ | refine Nd.mk (by omega) ?_ | (refine Nd.mk ?_ ?_; focus ((repeat' (first | exact trivial | exact wkE_refl _ | refine And.intro ?_ ?_)); done)) | refine RdN.intro _ rfl (by rfl) ?_); (conv => whnf))))
    refine ⟨i + 1, ⟨by omega, all_step hc hp (by rw [← cell_eq, hpl, hrg]; rfl)⟩, by omega, ?_, by (repeat' (first | exact trivial | exact wkE_refl _ | refine And.intro ?_ ?_))⟩
    (repeat' (first | exact trivial | refine And.intro (by with_reducible rfl) ?_ | (with_reducible exact wkC_refl _) | (with_reducible exact wkCs_refl _) | refine And.intro ?_ ?_))
    all_goals first | rfl | exact av_int (by rw [wrap_i64 (by omega)]; omega)
  have hil : i = l.length := by omega
  subst hil
  rw [List.take_length] at hc
  clear h1
  ((conv => whnf); (repeat ((first | refine RwN.own ?_ | refine VrN.norm (wrap_i64 (by omega)) ?_ | refine VrN.keep ?_ | refine DrawN.calm (by decide +kernel) ?_ | refine Nd.mk (by decide +kernel) ?_ | refine Nd.mk (by omega) ?_ | (refine Nd.mk ?_ ?_; focus ((repeat' (first | exact trivial | exact wkE_refl _ | refine And.intro ?_ ?_)); done)) | refine RdN.intro _ rfl (by rfl) ?_); (conv => whnf))))
  -- the graph, out of its box
  refine LdN.one (a := some ⟨gb, 0, none⟩) (q := 0) (.slice a l.length ca) rfl (fun w hw => hw.2.1) rfl ?_
  ((conv => whnf); (repeat ((first | refine RwN.own ?_ | refine VrN.norm (wrap_i64 (by omega)) ?_ | refine VrN.keep ?_ | refine DrawN.calm (by decide +kernel) ?_ | refine Nd.mk (by decide +kernel) ?_ | refine Nd.mk (by omega) ?_ | (refine Nd.mk ?_ ?_; focus ((repeat' (first | exact trivial | exact wkE_refl _ | refine And.intro ?_ ?_)); done)) | refine RdN.intro _ rfl (by rfl) ?_); (conv => whnf))))
  refine loopS Nat (fun i => i ≤ l.length ∧ ∀ p ∈ l.take i, p.c.kind = 7 → ¬ Twice (l.map (·.c)) p.c.items) (fun i => mkS Tryz.f18.ntmps 0 [(1, .c (.v (.pointer (some ⟨gb, 0, none⟩)))), (26, .c (.v (.slice a l.length ca))), (27, .c (.v (.int .i64 (l.length : Int)))), (28, .c (.v (.int .i64 (i : Int))))]) (fun i => l.length - i) rfl (fun _ => rfl) 0 ⟨Nat.zero_le _, by simp⟩ ?_ ?_
  · (repeat' (first | exact trivial | refine And.intro (by with_reducible rfl) ?_ | (with_reducible exact wkC_refl _) | (with_reducible exact wkCs_refl _) | refine And.intro ?_ ?_))
    all_goals rfl
  intro i ⟨hi, ht⟩
  ((conv => whnf); (repeat ((first | refine RwN.own ?_ | refine VrN.norm (wrap_i64 (by omega)) ?_ | refine VrN.keep ?_ | refine DrawN.calm (by decide +kernel) ?_ | refine Nd.mk (by decide +kernel) ?_ | refine Nd.mk (by omega) ?_ | (refine Nd.mk ?_ ?_; focus ((repeat' (first | exact trivial | exact wkE_refl _ | refine And.intro ?_ ?_)); done)) | refine RdN.intro _ rfl (by rfl) ?_); (conv => whnf))))
  refine brd_dec (fun h1 => ?_) (fun h1 => ?_)
  · obtain ⟨p, hp⟩ : ∃ p, l[i]? = some p := ⟨_, List.getElem?_eq_getElem (by omega)⟩
    have hpm := List.mem_of_getElem? hp
    have hpo := hok p hpm
    have hsa : a.isSome = true := by
      cases a with
      | none => rw [ha rfl] at hp; cases hp
      | some b => rfl
    ((conv => whnf); (repeat ((first | refine RwN.own ?_ | refine VrN.norm (wrap_i64 (by omega)) ?_ | refine VrN.keep ?_ | refine DrawN.calm (by decide +kernel) ?_ | refine Nd.mk (by decide +kernel) ?_ | refine Nd.mk (by omega) ?_ | (refine Nd.mk ?_ ?_; focus ((repeat' (first | exact trivial | exact wkE_refl _ | refine And.intro ?_ ?_)); done)) | refine RdN.intro _ rfl (by rfl) ?_); (conv => whnf))))
    refine Nd.mk ⟨hsa, by omega, by omega⟩ ?_
    ((conv => whnf); (repeat ((first | refine RwN.own ?_ | refine VrN.norm (wrap_i64 (by omega)) ?_ | refine VrN.keep ?_ | refine DrawN.calm (by decide +kernel) ?_ | refine Nd.mk (by decide +kernel) ?_ | refine Nd.mk (by omega) ?_ | (refine Nd.mk ?_ ?_; focus ((repeat' (first | exact trivial | exact wkE_refl _ | refine And.intro ?_ ?_)); done)) | refine RdN.intro _ rfl (by rfl) ?_); (conv => whnf))))
    refine LdN.agg (cellC p) rfl (fun w hw => hw.1.1) rfl (fun k hk => by rw [Int.toNat_natCast]; exact grC_get l i k hk hp) ?_
    ((conv => whnf); (repeat ((first | refine RwN.own ?_ | refine VrN.norm (wrap_i64 (by omega)) ?_ | refine VrN.keep ?_ | refine DrawN.calm (by decide +kernel) ?_ | refine Nd.mk (by decide +kernel) ?_ | refine Nd.mk (by omega) ?_ | (refine Nd.mk ?_ ?_; focus ((repeat' (first | exact trivial | exact wkE_refl _ | refine And.intro ?_ ?_)); done)) | refine RdN.intro _ rfl (by rfl) ?_); (conv => whnf))))
    refine BoxN.known [.int .i64 0, .int .i64 0, .string { data := #[] }, .slice none 0 0, .slice none 0 0] rfl fun cb => ?_
    ((conv => whnf); (repeat ((first | refine RwN.own ?_ | refine VrN.norm (wrap_i64 (by omega)) ?_ | refine VrN.keep ?_ | refine DrawN.calm (by decide +kernel) ?_ | refine Nd.mk (by decide +kernel) ?_ | refine Nd.mk (by omega) ?_ | (refine Nd.mk ?_ ?_; focus ((repeat' (first | exact trivial | exact wkE_refl _ | refine And.intro ?_ ?_)); done)) | refine RdN.intro _ rfl (by rfl) ?_); (conv => whnf))))
    refine EffW.appTo (i := 2) (q := 0) (ys := cellC p) (cellC p) 5 rfl rfl rfl rfl rfl rfl rfl (Nat.le_of_ble_eq_true rfl) rfl rfl ?_
    ((conv => whnf); (repeat ((first | refine RwN.own ?_ | refine VrN.norm (wrap_i64 (by omega)) ?_ | refine VrN.keep ?_ | refine DrawN.calm (by decide +kernel) ?_ | refine Nd.mk (by decide +kernel) ?_ | refine Nd.mk (by omega) ?_ | (refine Nd.mk ?_ ?_; focus ((repeat' (first | exact trivial | exact wkE_refl _ | refine And.intro ?_ ?_)); done)) | refine RdN.intro _ rfl (by rfl) ?_); (conv => whnf))))
    refine LdN.one (a := some ⟨cb, 0, none⟩) (q := 0) (.int .i64 p.c.kind) rfl (fun w hw => hw.2.2.1) rfl ?_
    ((conv => whnf); (repeat ((first | refine RwN.own ?_ | refine VrN.norm (wrap_i64 (by omega)) ?_ | refine VrN.keep ?_ | refine DrawN.calm (by decide +kernel) ?_ | refine Nd.mk (by decide +kernel) ?_ | refine Nd.mk (by omega) ?_ | (refine Nd.mk ?_ ?_; focus ((repeat' (first | exact trivial | exact wkE_refl _ | refine And.intro ?_ ?_)); done)) | refine RdN.intro _ rfl (by rfl) ?_); (conv => whnf))))
    refine brd_eq (fun h7 => ?_) (fun h7 => ?_)
    · ((conv => whnf); (repeat ((first | refine RwN.own ?_ | refine VrN.norm (wrap_i64 (by omega)) ?_ | refine VrN.keep ?_ | refine DrawN.calm (by decide +kernel) ?_ | refine Nd.mk (by decide +kernel) ?_ | refine Nd.mk (by omega) ?_ | (refine Nd.mk ?_ ?_; focus ((repeat' (first | exact trivial | exact wkE_refl _ | refine And.intro ?_ ?_)); done)) | refine RdN.intro _ rfl (by rfl) ?_); (conv => whnf))))
      -- the graph, out of its box
      refine LdN.one (a := some ⟨gb, 0, none⟩) (q := 0) (.slice a l.length ca) rfl (fun w hw => hw.2.1) rfl ?_
      ((conv => whnf); (repeat ((first | refine RwN.own ?_ | refine VrN.norm (wrap_i64 (by omega)) ?_ | refine VrN.keep ?_ | refine DrawN.calm (by decide +kernel) ?_ | refine Nd.mk (by decide +kernel) ?_ | refine Nd.mk (by omega) ?_ | (refine Nd.mk ?_ ?_; focus ((repeat' (first | exact trivial | exact wkE_refl _ | refine And.intro ?_ ?_)); done)) | refine RdN.intro _ rfl (by rfl) ?_); (conv => whnf))))
      refine LdN.agg (a := some ⟨cb, 0, none⟩) (q := 0) (cellC p) rfl (fun w hw => hw.2.2.1) rfl (fun k hk => by rw [Nat.zero_add]) ?_
      ((conv => whnf); (repeat ((first | refine RwN.own ?_ | refine VrN.norm (wrap_i64 (by omega)) ?_ | refine VrN.keep ?_ | refine DrawN.calm (by decide +kernel) ?_ | refine Nd.mk (by decide +kernel) ?_ | refine Nd.mk (by omega) ?_ | (refine Nd.mk ?_ ?_; focus ((repeat' (first | exact trivial | exact wkE_refl _ | refine And.intro ?_ ?_)); done)) | refine RdN.intro _ rfl (by rfl) ?_); (conv => whnf))))
      obtain ⟨t, ht1, ht2⟩ := twice_c a ca l p ha (by omega) hpo (cellD_in (hc p hpm)) [.fact (GrF a l), .app 22 1 [.slice a l.length ca] (some ⟨gb, 0, none⟩) 1 1, .app 42 5 (cellC p) (some ⟨cb, 0, none⟩) 1 1] (fun w hw => ⟨hw.1, hw.1.2 p hpm⟩)
      refine call1 ht2 ?_
      cases ht3 : t with
      | true =>
        ((conv => whnf); (repeat ((first | refine RwN.own ?_ | refine VrN.norm (wrap_i64 (by omega)) ?_ | refine VrN.keep ?_ | refine DrawN.calm (by decide +kernel) ?_ | refine Nd.mk (by decide +kernel) ?_ | refine Nd.mk (by omega) ?_ | (refine Nd.mk ?_ ?_; focus ((repeat' (first | exact trivial | exact wkE_refl _ | refine And.intro ?_ ?_)); done)) | refine RdN.intro _ rfl (by rfl) ?_); (conv => whnf))))
        exact out_int (hno fun h => h.2.2 p.c (List.mem_map.2 ⟨p, hpm, rfl⟩) h7 (ht1.1 ht3))
      | false =>
      ((conv => whnf); (repeat ((first | refine RwN.own ?_ | refine VrN.norm (wrap_i64 (by omega)) ?_ | refine VrN.keep ?_ | refine DrawN.calm (by decide +kernel) ?_ | refine Nd.mk (by decide +kernel) ?_ | refine Nd.mk (by omega) ?_ | (refine Nd.mk ?_ ?_; focus ((repeat' (first | exact trivial | exact wkE_refl _ | refine And.intro ?_ ?_)); done)) | refine RdN.intro _ rfl (by rfl) ?_); (conv => whnf))))
      refine ⟨i + 1, ⟨by omega, all_step ht hp (fun _ h => by rw [ht1.2 h] at ht3; cases ht3)⟩, by omega, ?_, by (repeat' (first | exact trivial | exact wkE_refl _ | refine And.intro ?_ ?_))⟩
      (repeat' (first | exact trivial | refine And.intro (by with_reducible rfl) ?_ | (with_reducible exact wkC_refl _) | (with_reducible exact wkCs_refl _) | refine And.intro ?_ ?_))
      all_goals first | rfl | exact av_int (by rw [wrap_i64 (by omega)]; omega)
    · ((conv => whnf); (repeat ((first | refine RwN.own ?_ | refine VrN.norm (wrap_i64 (by omega)) ?_ | refine VrN.keep ?_ | refine DrawN.calm (by decide +kernel) ?_ | refine Nd.mk (by decide +kernel) ?_ | refine Nd.mk (by omega) ?_ | (refine Nd.mk ?_ ?_; focus ((repeat' (first | exact trivial | exact wkE_refl _ | refine And.intro ?_ ?_)); done)) | refine RdN.intro _ rfl (by rfl) ?_); (conv => whnf))))
      refine ⟨i + 1, ⟨by omega, all_step ht hp (fun h => absurd h h7)⟩, by omega, ?_, by (repeat' (first | exact trivial | exact wkE_refl _ | refine And.intro ?_ ?_))⟩
      (repeat' (first | exact trivial | refine And.intro (by with_reducible rfl) ?_ | (with_reducible exact wkC_refl _) | (with_reducible exact wkCs_refl _) | refine And.intro ?_ ?_))
      all_goals first | rfl | exact av_int (by rw [wrap_i64 (by omega)]; omega)
  · have hil : i = l.length := by omega
    subst hil
    rw [List.take_length] at ht
    ((conv => whnf); (repeat ((first | refine RwN.own ?_ | refine VrN.norm (wrap_i64 (by omega)) ?_ | refine VrN.keep ?_ | refine DrawN.calm (by decide +kernel) ?_ | refine Nd.mk (by decide +kernel) ?_ | refine Nd.mk (by omega) ?_ | (refine Nd.mk ?_ ?_; focus ((repeat' (first | exact trivial | exact wkE_refl _ | refine And.intro ?_ ?_)); done)) | refine RdN.intro _ rfl (by rfl) ?_); (conv => whnf))))
    have hbt : b = true := hb.2 ⟨by omega, fun c hcm => by
        obtain ⟨p, hp, rfl⟩ := List.mem_map.1 hcm
        rw [hml]
        exact hc p hp, fun c hcm => by
        obtain ⟨p, hp, rfl⟩ := List.mem_map.1 hcm
        exact ht p hp⟩
    exact out_int (by rw [hbt]; rfl)
end Go.Proofs.YtahjbnfbilkbcaaGreatDoor

/-
  Contract: asked (program).
-/
namespace Go.Core
/-- A graph is valid, and has these cells. -/
def AskP (g : List Cell) (cs : List Int) : Prop := ValidP g ∧ ∀ x ∈ cs, 0 ≤ x ∧ x < (g.length : Int)
end Go.Core
namespace Go.Proofs.YtahjbnfbilkbcaaGreatDoor
open Go.AX Go.RowKit Go.Core Go.Scan
set_option maxRecDepth 20000

theorem out2_c (x : Int) (b : Nat) (a : Option Addr) (n c : Nat) : ∀ H, (∀ w, Facts H w → SlAt (some ⟨b, 0, none⟩) 1 [.slice a n c] w) → SpecH Tryz.prog 93 (pvs [.int .i64 x, .pointer (some ⟨b, 0, none⟩)]) H (Ret (.bool (decide (x < 0) || decide (x ≥ (n : Int)))) H) := by
  refine factC hm Tryz.func93 (by kernel_rfl) rfl rfl ?_
  (first | refine wX ?_ | exact wZ)
  refine brd_dec (fun h1 => ?_) (fun h1 => ?_)
  · (first | refine wX ?_ | exact wZ)
    exact out_bool (by simp [h1])
  · (first | refine wX ?_ | exact wZ)
    refine LdN.one (a := some ⟨b, 0, none⟩) (q := 0) (.slice a n c) rfl (fun w hw => hw.1) rfl ?_
    (first | refine wX ?_ | exact wZ)
    exact out_bool (by simp [h1])
set_option maxHeartbeats 1000000 in
theorem asked_c (a : Option Addr) (ca : Nat) (l : List CellP) (ha : a = none → l = []) (hs : Small l) (hok : ∀ p ∈ l, CellOk p) (sa : Option Addr) (sc : Nat) (cs : List Int) (hsa : sa = none → cs = []) (hcl : cs.length ≤ 2000) :
    ∀ H, (∀ w, Facts H w → GrF a l w ∧ SlAt sa (cs.length * 1) (iC cs) w) → ∃ b : Bool, (b = true ↔ AskP (l.map (·.c)) cs) ∧ SpecH Tryz.prog 50 (pvs [.slice a l.length ca, .slice sa cs.length sc]) H (Ret (errI b) H) := by
  intro H hH
  obtain ⟨b, hb⟩ : ∃ b : Bool, b = true ↔ AskP (l.map (·.c)) cs := by
    by_cases h : AskP (l.map (·.c)) cs
    · exact ⟨true, fun _ => h, fun _ => rfl⟩
    · exact ⟨false, (fun h => by cases h), fun h2 => absurd h2 h⟩
  refine ⟨b, hb, ?_⟩
  refine factC hm Tryz.func50 (by kernel_rfl) rfl rfl ?_ H hH
  ((conv => whnf); (repeat ((first | refine RwN.own ?_ | refine VrN.norm (wrap_i64 (by omega)) ?_ | refine VrN.keep ?_ | refine DrawN.calm (by decide +kernel) ?_ | refine Nd.mk (by decide +kernel) ?_ | refine Nd.mk (by omega) ?_ | (refine Nd.mk ?_ ?_; focus ((repeat' (first | exact trivial | exact wkE_refl _ | refine And.intro ?_ ?_)); done)) | refine RdN.intro _ rfl (by rfl) ?_); (conv => whnf))))
  refine BoxN.known [.slice a l.length ca] rfl fun gb => ?_
  ((conv => whnf); (repeat ((first | refine RwN.own ?_ | refine VrN.norm (wrap_i64 (by omega)) ?_ | refine VrN.keep ?_ | refine DrawN.calm (by decide +kernel) ?_ | refine Nd.mk (by decide +kernel) ?_ | refine Nd.mk (by omega) ?_ | (refine Nd.mk ?_ ?_; focus ((repeat' (first | exact trivial | exact wkE_refl _ | refine And.intro ?_ ?_)); done)) | refine RdN.intro _ rfl (by rfl) ?_); (conv => whnf))))
  refine SpecH.args (args' := pvs [.slice sa cs.length sc, .func (.func 93) #[] #[.pointer (some ⟨gb, 0, none⟩)]]) (by simp [pvs, opvs, opv, nth, plainEv]; try rfl) ?_
  refine call1 (HasI_c (fun x => decide (x < 0) || decide (x ≥ (l.length : Int))) 93 #[.pointer (some ⟨gb, 0, none⟩)] (SlAt (some ⟨gb, 0, none⟩) 1 [.slice a l.length ca]) sa sc cs (fun x _ H hH => out2_c x gb a l.length ca H hH) hsa (by omega) _ (fun w hw => ⟨hw.1.2, hw.2.1⟩)) ?_
  cases hany : cs.any fun x => decide (x < 0) || decide (x ≥ (l.length : Int)) with
  | true =>
    ((conv => whnf); (repeat ((first | refine RwN.own ?_ | refine VrN.norm (wrap_i64 (by omega)) ?_ | refine VrN.keep ?_ | refine DrawN.calm (by decide +kernel) ?_ | refine Nd.mk (by decide +kernel) ?_ | refine Nd.mk (by omega) ?_ | (refine Nd.mk ?_ ?_; focus ((repeat' (first | exact trivial | exact wkE_refl _ | refine And.intro ?_ ?_)); done)) | refine RdN.intro _ rfl (by rfl) ?_); (conv => whnf))))
    obtain ⟨x, hx, hx2⟩ := List.any_eq_true.1 hany
    refine out_int ?_
    cases b with
    | false => rfl
    | true =>
      have h1 := (hb.1 rfl).2 x hx
      simp at hx2 h1
      omega
  | false =>
    ((conv => whnf); (repeat ((first | refine RwN.own ?_ | refine VrN.norm (wrap_i64 (by omega)) ?_ | refine VrN.keep ?_ | refine DrawN.calm (by decide +kernel) ?_ | refine Nd.mk (by decide +kernel) ?_ | refine Nd.mk (by omega) ?_ | (refine Nd.mk ?_ ?_; focus ((repeat' (first | exact trivial | exact wkE_refl _ | refine And.intro ?_ ?_)); done)) | refine RdN.intro _ rfl (by rfl) ?_); (conv => whnf))))
    refine LdN.one (a := some ⟨gb, 0, none⟩) (q := 0) (.slice a l.length ca) rfl (fun w hw => hw.2.1) rfl ?_
    ((conv => whnf); (repeat ((first | refine RwN.own ?_ | refine VrN.norm (wrap_i64 (by omega)) ?_ | refine VrN.keep ?_ | refine DrawN.calm (by decide +kernel) ?_ | refine Nd.mk (by decide +kernel) ?_ | refine Nd.mk (by omega) ?_ | (refine Nd.mk ?_ ?_; focus ((repeat' (first | exact trivial | exact wkE_refl _ | refine And.intro ?_ ?_)); done)) | refine RdN.intro _ rfl (by rfl) ?_); (conv => whnf))))
    obtain ⟨t, ht1, ht2⟩ := Check_c a ca l ha hs hok [.fact (fun w => GrF a l w ∧ SlAt sa (cs.length * 1) (iC cs) w), .app 22 1 [.slice a l.length ca] (some ⟨gb, 0, none⟩) 1 1] (fun w hw => hw.1.1)
    have hbt : b = t := by
      rw [Bool.eq_iff_iff, hb, ht1]
      refine ⟨fun h => h.1, fun h => ⟨h, fun x hx => ?_⟩⟩
      have := List.any_eq_false.1 hany x hx
      simp at this ⊢
      omega
    refine call1 ht2 ?_
    rw [hbt]
    ((conv => whnf); (repeat ((first | refine RwN.own ?_ | refine VrN.norm (wrap_i64 (by omega)) ?_ | refine VrN.keep ?_ | refine DrawN.calm (by decide +kernel) ?_ | refine Nd.mk (by decide +kernel) ?_ | refine Nd.mk (by omega) ?_ | (refine Nd.mk ?_ ?_; focus ((repeat' (first | exact trivial | exact wkE_refl _ | refine And.intro ?_ ?_)); done)) | refine RdN.intro _ rfl (by rfl) ?_); (conv => whnf))))
    rfl
end Go.Proofs.YtahjbnfbilkbcaaGreatDoor

/-
  AX, fifty-second text: ahead of a call, what is known said in another way.
-/
namespace Go.AX
theorem SpecH.turn {P : Program} {f : FuncId} {args : List AV} {H : List Ent} {K : Out → List Ent → Prop} (G : List Ent) (t : SealR (Facts (restK H G)) H G) (h : SpecH P f args G K) : SpecH P f args H K := by
  refine ⟨h.ok, fun ρ S w vs hs hr => ?_⟩
  obtain ⟨S', hs', hev⟩ := (turnS t).2 ρ S w hs
  exact (h.run ρ S' w vs hs' hr).mono fun e w' ⟨ρ2, S2, H2, out, a1, a2, a3, a4⟩ => ⟨ρ2, S2, H2, out, a1, hev.trans a2, a3, a4⟩
end Go.AX

/-
  Contract: Equal (program).
-/
namespace Go.Core
theorem valid_in {g : List Cell} (h : ValidP g) : InG g := by
  intro c hc i hi
  have h1 := h.2.1 c hc
  unfold cellD rangeB at h1
  simp only [Bool.and_eq_true] at h1
  have := List.all_eq_true.1 h1.1.1 i hi
  simp only [Bool.and_eq_true, decide_eq_true_eq] at this
  exact this
theorem left_nil (g : List Cell) : left g [] < g.length * g.length + 1 := Nat.lt_succ_of_le (Nat.le_trans (List.length_filter_le _ _) (by rw [allP_len]; exact Nat.le_refl _))
end Go.Core
namespace Go.Proofs.YtahjbnfbilkbcaaGreatDoor
open Go.AX Go.RowKit Go.Core
set_option maxRecDepth 20000

set_option maxHeartbeats 4000000 in
theorem Equal_c {a : Option Addr} (ca : Nat) {l : List CellP} (ha : a = none → l = []) (hs : Small l) (hok : ∀ p ∈ l, CellOk p) (u v : Int) :
    ∀ H, (∀ w, Facts H w → GrF a l w) → ∃ e : Bool, (e = true ↔ AskP (l.map (·.c)) [u, v]) ∧ SpecH Tryz.prog 24 (pvs [.slice a l.length ca, .int .i64 u, .int .i64 v]) H (Ret (.tuple #[.bool (e && sameB (l.map (·.c)) (u, v)), errI e]) H) := by
  intro H hH
  obtain ⟨e, he⟩ : ∃ b : Bool, b = true ↔ AskP (l.map (·.c)) [u, v] := by
    by_cases h : AskP (l.map (·.c)) [u, v]
    · exact ⟨true, fun _ => h, fun _ => rfl⟩
    · exact ⟨false, (fun h => by cases h), fun h2 => absurd h2 h⟩
  refine ⟨e, he, ?_⟩
  refine factC hm Tryz.func24 (by kernel_rfl) rfl rfl ?_ H hH
  (conv => whnf)
  refine BoxN.known [.slice a l.length ca] rfl fun gb => ?_
  ((conv => whnf); (repeat ((first | refine VrN.keep ?_ | refine BoxN.own ?_ | refine RwN.own ?_); (conv => whnf))))
  refine LdN.one (a := some ⟨gb, 0, none⟩) (q := 0) (.slice a l.length ca) rfl (fun w hw => hw.2.1) rfl ?_
  ((conv => whnf); (repeat ((first | refine BoxN.own ?_ | refine VrN.norm (wrap_i64 (by omega)) ?_ | refine VrN.keep ?_ | refine DrawN.calm (by decide +kernel) ?_ | refine Nd.mk (by decide +kernel) ?_ | refine Nd.mk (by omega) ?_ | (refine Nd.mk ?_ ?_; focus ((repeat' (first | exact trivial | exact wkE_refl _ | refine And.intro ?_ ?_)); done)) | refine RdN.intro _ rfl (by rfl) ?_); (conv => whnf))))
  refine RwN.known [.int .i64 u, .int .i64 v] rfl fun rb => ?_
  ((conv => whnf); (repeat ((first | refine BoxN.own ?_ | refine VrN.norm (wrap_i64 (by omega)) ?_ | refine VrN.keep ?_ | refine DrawN.calm (by decide +kernel) ?_ | refine Nd.mk (by decide +kernel) ?_ | refine Nd.mk (by omega) ?_ | (refine Nd.mk ?_ ?_; focus ((repeat' (first | exact trivial | exact wkE_refl _ | refine And.intro ?_ ?_)); done)) | refine RdN.intro _ rfl (by rfl) ?_); (conv => whnf))))
  obtain ⟨t, ht1, ht2⟩ := asked_c a ca l ha hs hok (some ⟨rb, 0, none⟩) 2 [u, v] (fun h => by cases h) (by simp) [.fact (GrF a l), .app 22 1 [.slice a l.length ca] (some ⟨gb, 0, none⟩) 1 1, .app 3 1 [.int .i64 u, .int .i64 v] (some ⟨rb, 0, none⟩) 2 2] (fun w hw => ⟨hw.1, hw.2.2.1⟩)
  obtain rfl : t = e := by rw [Bool.eq_iff_iff, ht1, he]
  refine call1 ht2 ?_
  cases t with
  | false =>
    (first | refine wX ?_ | exact wZ)
    rfl
  | true =>
    have hask := he.1 rfl
    have hin := valid_in hask.1
    ((conv => whnf); (repeat ((first | refine RwN.own ?_ | refine VrN.norm (wrap_i64 (by omega)) ?_ | refine VrN.keep ?_ | refine DrawN.calm (by decide +kernel) ?_ | refine Nd.mk (by decide +kernel) ?_ | refine Nd.mk (by omega) ?_ | (refine Nd.mk ?_ ?_; focus ((repeat' (first | exact trivial | exact wkE_refl _ | refine And.intro ?_ ?_)); done)) | refine RdN.intro _ rfl (by rfl) ?_); (conv => whnf))))
    refine EffW.mkMap rfl fun mb => ?_
    ((conv => whnf); (repeat ((first | refine RwN.own ?_ | refine VrN.norm (wrap_i64 (by omega)) ?_ | refine VrN.keep ?_ | refine DrawN.calm (by decide +kernel) ?_ | refine Nd.mk (by decide +kernel) ?_ | refine Nd.mk (by omega) ?_ | (refine Nd.mk ?_ ?_; focus ((repeat' (first | exact trivial | exact wkE_refl _ | refine And.intro ?_ ?_)); done)) | refine RdN.intro _ rfl (by rfl) ?_); (conv => whnf))))
    refine BoxN.known [.map none] rfl fun sb => ?_
    ((conv => whnf); (repeat ((first | refine RwN.own ?_ | refine VrN.norm (wrap_i64 (by omega)) ?_ | refine VrN.keep ?_ | refine DrawN.calm (by decide +kernel) ?_ | refine Nd.mk (by decide +kernel) ?_ | refine Nd.mk (by omega) ?_ | (refine Nd.mk ?_ ?_; focus ((repeat' (first | exact trivial | exact wkE_refl _ | refine And.intro ?_ ?_)); done)) | refine RdN.intro _ rfl (by rfl) ?_); (conv => whnf))))
    refine EffW.appTo (i := 4) (q := 0) (ys := [.map (some mb)]) [.map (some mb)] 1 rfl rfl rfl rfl rfl rfl rfl (Nat.le_of_ble_eq_true rfl) rfl rfl ?_
    ((conv => whnf); (repeat ((first | refine RwN.own ?_ | refine VrN.norm (wrap_i64 (by omega)) ?_ | refine VrN.keep ?_ | refine DrawN.calm (by decide +kernel) ?_ | refine Nd.mk (by decide +kernel) ?_ | refine Nd.mk (by omega) ?_ | (refine Nd.mk ?_ ?_; focus ((repeat' (first | exact trivial | exact wkE_refl _ | refine And.intro ?_ ?_)); done)) | refine RdN.intro _ rfl (by rfl) ?_); (conv => whnf))))
    refine BoxN.known [.nilFunc] rfl fun fb => ?_
    ((conv => whnf); (repeat ((first | refine RwN.own ?_ | refine VrN.norm (wrap_i64 (by omega)) ?_ | refine VrN.keep ?_ | refine DrawN.calm (by decide +kernel) ?_ | refine Nd.mk (by decide +kernel) ?_ | refine Nd.mk (by omega) ?_ | (refine Nd.mk ?_ ?_; focus ((repeat' (first | exact trivial | exact wkE_refl _ | refine And.intro ?_ ?_)); done)) | refine RdN.intro _ rfl (by rfl) ?_); (conv => whnf))))
    refine EffW.appTo (i := 5) (q := 0) (ys := [.func (.func 56) #[] #[.pointer (some ⟨sb, 0, none⟩), .pointer (some ⟨gb, 0, none⟩), .pointer (some ⟨fb, 0, none⟩)]]) [.func (.func 56) #[] #[.pointer (some ⟨sb, 0, none⟩), .pointer (some ⟨gb, 0, none⟩), .pointer (some ⟨fb, 0, none⟩)]] 1 rfl rfl rfl (by simp [opv, nth, plainEv, avCells, vs]; try rfl) rfl rfl rfl (Nat.le_of_ble_eq_true rfl) rfl rfl ?_
    ((conv => whnf); (repeat ((first | refine RwN.own ?_ | refine VrN.norm (wrap_i64 (by omega)) ?_ | refine VrN.keep ?_ | refine DrawN.calm (by decide +kernel) ?_ | refine Nd.mk (by decide +kernel) ?_ | refine Nd.mk (by omega) ?_ | (refine Nd.mk ?_ ?_; focus ((repeat' (first | exact trivial | exact wkE_refl _ | refine And.intro ?_ ?_)); done)) | refine RdN.intro _ rfl (by rfl) ?_); (conv => whnf))))
    refine LdN.one (a := some ⟨fb, 0, none⟩) (q := 0) (.func (.func 56) #[] #[.pointer (some ⟨sb, 0, none⟩), .pointer (some ⟨gb, 0, none⟩), .pointer (some ⟨fb, 0, none⟩)]) rfl (fun w hw => hw.2.2.2.2.2.1) rfl ?_
    ((conv => whnf); (repeat ((first | refine RwN.own ?_ | refine VrN.norm (wrap_i64 (by omega)) ?_ | refine VrN.keep ?_ | refine DrawN.calm (by decide +kernel) ?_ | refine Nd.mk (by decide +kernel) ?_ | refine Nd.mk (by omega) ?_ | (refine Nd.mk ?_ ?_; focus ((repeat' (first | exact trivial | exact wkE_refl _ | refine And.intro ?_ ?_)); done)) | refine RdN.intro _ rfl (by rfl) ?_); (conv => whnf))))
    refine SpecH.args (args' := eqA u v sb gb fb) (by simp [eqA, pvs, opvs, opv, nth, plainEv]; try rfl) ?_
    refine SpecH.turn [.fact (GrF a l), .fact (eqF a ca l sb gb fb mb), .dead, .mp mb #[] 0, .dead, .dead] ⟨.inr (.inl rfl), .inr (.inr ⟨_, rfl, fun w hw => ⟨hw.1, hw.2.2.2.1, hw.2.1, hw.2.2.2.2.1⟩⟩), .inl rfl, .inr (.inl rfl), .inl rfl, .inl rfl, trivial⟩ ?_
    have hu := hask.2 u (by simp)
    have hv := hask.2 v (by simp)
    refine callG (same_c a ca l ha hs hok hin sb gb fb mb ((l.map (·.c)).length * (l.map (·.c)).length + 1) [] (#[], 0) (u, v) ⟨hu, hv⟩ (left_nil _) rfl) [3, 1] rfl ⟨rfl, rfl, trivial⟩ rfl fun ⟨es4, c4⟩ _ => ?_
    (first | refine wX ?_ | exact wZ)
    rfl
end Go.Proofs.YtahjbnfbilkbcaaGreatDoor

/-
  Contract: the document's list of pairs (equal).
-/
namespace Go.Core
/-- A pair's place among all. -/
def idxP (n : Nat) (p : Int × Int) : Nat := p.1.toNat * n + p.2.toNat
theorem idxP_lt {g : List Cell} {p : Int × Int} (h : InP g p) : idxP g.length p < g.length * g.length := by
  obtain ⟨⟨h1, h2⟩, h3, h4⟩ := h
  unfold idxP
  have : (p.1.toNat + 1) * g.length ≤ g.length * g.length := Nat.mul_le_mul_right _ (by omega)
  rw [Nat.add_mul, Nat.one_mul] at this
  omega
theorem idxP_inj {g : List Cell} {p q : Int × Int} (hp : InP g p) (hq : InP g q) (h : idxP g.length p = idxP g.length q) : p = q := by
  obtain ⟨⟨a1, a2⟩, a3, a4⟩ := hp
  obtain ⟨⟨b1, b2⟩, b3, b4⟩ := hq
  unfold idxP at h
  have m1 : (p.1.toNat * g.length + p.2.toNat) % g.length = p.2.toNat := by rw [Nat.mul_add_mod_self_right]; exact Nat.mod_eq_of_lt (by omega)
  have m2 : (q.1.toNat * g.length + q.2.toNat) % g.length = q.2.toNat := by rw [Nat.mul_add_mod_self_right]; exact Nat.mod_eq_of_lt (by omega)
  have hz : p.2.toNat = q.2.toNat := by rw [← m1, ← m2, h]
  have hx : p.1.toNat = q.1.toNat := Nat.eq_of_mul_eq_mul_right (show 0 < g.length by omega) (by omega)
  exact Prod.ext (by omega) (by omega)
/-- Which pairs were seen. -/
structure SeenS (g : List Cell) (l : List (Int × Int)) (S : List Bool) : Prop where
  len : S.length = g.length * g.length
  get : ∀ p, InP g p → S[idxP g.length p]? = some (decide (p ∈ l))
theorem SeenS.none (g : List Cell) : SeenS g [] (List.replicate (g.length * g.length) false) := ⟨by simp, fun p hp => by rw [List.getElem?_replicate, if_pos (idxP_lt hp)]; simp⟩
theorem SeenS.put {g : List Cell} {l : List (Int × Int)} {S : List Bool} (h : SeenS g l S) {p : Int × Int} (hp : InP g p) : SeenS g (l ++ [p]) (S.set (idxP g.length p) true) := by
  refine ⟨by rw [List.length_set, h.len], fun q hq => ?_⟩
  by_cases e : q = p
  · subst e
    rw [List.getElem?_set_self (by rw [h.len]; exact idxP_lt hq)]
    simp
  · rw [List.getElem?_set_ne (fun he => e (idxP_inj hp hq he).symm), h.get q hq]
    simp [e]
def blC (S : List Bool) : List Value := S.map .bool
theorem blC_set (S : List Bool) (i : Nat) (b : Bool) : (blC S).set i (.bool b) = blC (S.set i b) := by unfold blC; rw [List.map_set]
theorem blC_get {S : List Bool} {i : Nat} {b : Bool} (h : S[i]? = some b) : (blC S)[i]? = some (.bool b) := by unfold blC; rw [List.getElem?_map, h]; rfl
def pC (l : List (Int × Int)) : List Value := l.flatMap fun p => [.int .i64 p.1, .int .i64 p.2]
theorem pC_get {l : List (Int × Int)} {i : Nat} {p : Int × Int} (h : l[i]? = some p) : (pC l)[i * 2]? = some (.int .i64 p.1) ∧ (pC l)[i * 2 + 1]? = some (.int .i64 p.2) := by
  unfold pC
  constructor
  · have := Go.AX.flat_get (m := 2) (g := fun p : Int × Int => [Value.int .i64 p.1, .int .i64 p.2]) (fun _ => rfl) l i 0 (by decide)
    rw [h] at this
    exact this
  · have := Go.AX.flat_get (m := 2) (g := fun p : Int × Int => [Value.int .i64 p.1, .int .i64 p.2]) (fun _ => rfl) l i 1 (by decide)
    rw [h] at this
    exact this
theorem pC_snoc (l : List (Int × Int)) (p : Int × Int) : pC l ++ [.int .i64 p.1, .int .i64 p.2] = pC (l ++ [p]) := by unfold pC; rw [List.flatMap_append]; rfl
end Go.Core
namespace Go.Proofs.YtahjbnfbilkbcaaGreatDoor
open Go.AX Go.RowKit Go.Core
set_option maxRecDepth 20000

theorem sq_le {n : Nat} (h : n ≤ 500) : n * n ≤ 250000 := Nat.mul_le_mul h h
theorem mul_wrap {x y : Nat} (hx : x ≤ 500) (hy : y ≤ 500) : IntKind.i64.wrap ((x : Int) * (y : Int)) = ((x * y : Nat) : Int) := by
  have h := Nat.mul_le_mul hx hy
  rw [← Int.natCast_mul]
  exact wrap_i64 (by omega)
structure RSt where
  i : Nat
  L : List (Int × Int)
  lb : Nat
  cap : Nat
  S : List Bool
def RInv (g : List Cell) (Q : Nat) (B : Bool) : RSt → Prop := fun ⟨i, L, _, cap, S⟩ => i ≤ L.length ∧ L.Nodup ∧ (∀ q ∈ L, InP g q) ∧ SeenS g L S ∧ ∃ n, bfsF g n L i = B ∧ Q < n + i
set_option maxHeartbeats 4000000 in
theorem requal_c {a : Option Addr} (ca : Nat) {l : List CellP} (ha : a = none → l = []) (hs : Small l) (hok : ∀ p ∈ l, CellOk p) (hval : ValidP (l.map (·.c))) (u v : Nat) (hu : u < l.length) (hv : v < l.length) :
    ∀ H, (∀ w, Facts H w → GrF a l w) → SpecH Tryz.prog 58 (pvs [.slice a l.length ca, .int .i64 (u : Int), .int .i64 (v : Int)]) H (Ret (.bool (sameB (l.map (·.c)) ((u : Int), (v : Int)))) H) := by
  refine factC hm Tryz.func58 (by kernel_rfl) rfl rfl ?_
  have hgl : (l.map (·.c)).length = l.length := by simp
  have h500 : l.length ≤ 500 := by have := hval.1; omega
  have hsq := sq_le h500
  have hin := valid_in hval
  have hp0 : InP (l.map (·.c)) ((u : Int), (v : Int)) := ⟨⟨by simp, by simp only [hgl]; omega⟩, by simp, by simp only [hgl]; omega⟩
  have hsb : sameB (l.map (·.c)) ((u : Int), (v : Int)) = bfsF (l.map (·.c)) ((l.map (·.c)).length * (l.map (·.c)).length + 1) [((u : Int), (v : Int))] 0 := same_bfs hin hp0 (by omega) (by omega)
  rw [hsb, hgl]
  have hsa : a.isSome = true := by
    cases a with
    | none => rw [ha rfl] at hu; exact absurd hu (Nat.not_lt_zero _)
    | some b => rfl
  have hmul := mul_wrap h500 h500
  have hiw : ∀ x y : Nat, x < l.length → y < l.length → IntKind.i64.wrap (IntKind.i64.wrap ((x : Int) * (l.length : Int)) + (y : Int)) = ((x * l.length + y : Nat) : Int) ∧ x * l.length + y < l.length * l.length := fun x y hx hy => by
    rw [mul_wrap (by omega) h500]
    have h1 : (x + 1) * l.length ≤ l.length * l.length := Nat.mul_le_mul_right _ (by omega)
    rw [Nat.add_mul, Nat.one_mul] at h1
    exact ⟨by rw [wrap_i64 (by omega)]; omega, by omega⟩
  ((conv => whnf); (repeat ((first | refine BoxN.own ?_ | refine VrN.norm (wrap_i64 (by omega)) ?_ | refine VrN.keep ?_ | refine DrawN.calm (by decide +kernel) ?_ | refine Nd.mk (by decide +kernel) ?_ | refine Nd.mk (by omega) ?_ | (refine Nd.mk ?_ ?_; focus ((repeat' (first | exact trivial | exact wkE_refl _ | refine And.intro ?_ ?_)); done)) | refine RdN.intro _ rfl (by rfl) ?_); (conv => whnf))))
  rw [hmul]
  refine EffW.mkRow (e := 4) (l.length * l.length) (blC (List.replicate (l.length * l.length) false)) rfl (by kernel_rfl) rfl rfl rfl rfl rfl rfl ⟨by omega, by decide⟩ (by unfold blC; rw [List.map_replicate]) fun sb => ?_
  ((conv => whnf); (repeat ((first | refine BoxN.own ?_ | refine VrN.norm (wrap_i64 (by omega)) ?_ | refine VrN.keep ?_ | refine DrawN.calm (by decide +kernel) ?_ | refine Nd.mk (by decide +kernel) ?_ | refine Nd.mk (by omega) ?_ | (refine Nd.mk ?_ ?_; focus ((repeat' (first | exact trivial | exact wkE_refl _ | refine And.intro ?_ ?_)); done)) | refine RdN.intro _ rfl (by rfl) ?_); (conv => whnf))))
  refine RwN.known [.int .i64 (u : Int), .int .i64 (v : Int)] rfl fun lb => ?_
  ((conv => whnf); (repeat ((first | refine BoxN.own ?_ | refine VrN.norm (wrap_i64 (by omega)) ?_ | refine VrN.keep ?_ | refine DrawN.calm (by decide +kernel) ?_ | refine Nd.mk (by decide +kernel) ?_ | refine Nd.mk (by omega) ?_ | (refine Nd.mk ?_ ?_; focus ((repeat' (first | exact trivial | exact wkE_refl _ | refine And.intro ?_ ?_)); done)) | refine RdN.intro _ rfl (by rfl) ?_); (conv => whnf))))
  have hS0 := (SeenS.none (l.map (·.c))).put hp0
  rw [hgl] at hS0
  have hi0 : idxP l.length ((u : Int), (v : Int)) = u * l.length + v := rfl
  rw [hi0] at hS0
  rw [(hiw u v hu hv).1]
  have hlt0 := (hiw u v hu hv).2
  refine Nd.mk ⟨rfl, by omega, by omega⟩ ?_
  ((conv => whnf); (repeat ((first | refine BoxN.own ?_ | refine VrN.norm (wrap_i64 (by omega)) ?_ | refine VrN.keep ?_ | refine DrawN.calm (by decide +kernel) ?_ | refine Nd.mk (by decide +kernel) ?_ | refine Nd.mk (by omega) ?_ | (refine Nd.mk ?_ ?_; focus ((repeat' (first | exact trivial | exact wkE_refl _ | refine And.intro ?_ ?_)); done)) | refine RdN.intro _ rfl (by rfl) ?_); (conv => whnf))))
  refine EffW.appTo (i := 1) (q := u * l.length + v) (ys := [.bool true]) (blC ((List.replicate (l.length * l.length) false).set (u * l.length + v) true)) 1 rfl (by rw [Int.toNat_natCast]; show AV.c (CV.v (Value.pointer (some ((⟨sb, 0, none⟩ : Addr).add ((u * l.length + v) * 1))))) = _; rw [add_lit0, Nat.mul_one]) rfl rfl rfl rfl rfl (by show _ + 1 ≤ _ * 1; omega) (by rw [put_set _ (by simp [blC]; omega), blC_set]) rfl ?_
  generalize (List.replicate (l.length * l.length) false).set (u * l.length + v) true = S0 at *
  ((conv => whnf); (repeat ((first | refine BoxN.own ?_ | refine VrN.norm (wrap_i64 (by omega)) ?_ | refine VrN.keep ?_ | refine DrawN.calm (by decide +kernel) ?_ | refine Nd.mk (by decide +kernel) ?_ | refine Nd.mk (by omega) ?_ | (refine Nd.mk ?_ ?_; focus ((repeat' (first | exact trivial | exact wkE_refl _ | refine And.intro ?_ ?_)); done)) | refine RdN.intro _ rfl (by rfl) ?_); (conv => whnf))))
  obtain ⟨B, hB⟩ : ∃ B, B = bfsF (l.map (·.c)) (l.length * l.length + 1) [((u : Int), (v : Int))] 0 := ⟨_, rfl⟩
  rw [← hB]
  refine LoopN.intro RSt (RInv (l.map (·.c)) (l.length * l.length) B) (fun ⟨i, L, lb, cap, S⟩ => mkS Tryz.f58.ntmps 0 [(0, .c (.v (.slice a l.length ca))), (7, .c (.v (.slice (some ⟨sb, 0, none⟩) (l.length * l.length) (l.length * l.length)))), (8, .c (.v (.slice (some ⟨lb, 0, none⟩) L.length cap))), (9, .c (.v (.int .i64 (i : Int))))])
    (fun ⟨i, L, lb, cap, S⟩ => [.fact (GrF a l), .app 4 1 (blC S) (some ⟨sb, 0, none⟩) (l.length * l.length) (l.length * l.length), .app 141 2 (pC L) (some ⟨lb, 0, none⟩) L.length cap]) (fun ⟨i, _, _, _, _⟩ => l.length * l.length + 1 - i) [] rfl (fun ⟨_, _, _, _, _⟩ => rfl) (fun ⟨_, _, _, _, _⟩ => rfl) (fun ⟨_, _, _, _, _⟩ _ => okHB_eq rfl) ?_ ?_
  · refine ⟨⟨0, [((u : Int), (v : Int))], lb, 1, S0⟩, ⟨Nat.zero_le _, by simp, fun q hq => by rw [List.mem_singleton.1 hq]; exact hp0, hS0, ⟨l.length * l.length + 1, hB.symm, by omega⟩⟩, ?_, wkE_refl _, wkE_refl _, wkE_refl _, trivial⟩
    (repeat' (first | exact trivial | refine And.intro (by with_reducible rfl) ?_ | (with_reducible exact wkC_refl _) | (with_reducible exact wkCs_refl _) | refine And.intro ?_ ?_))
    all_goals rfl
  rintro ⟨i, L, lb2, cap2, S⟩ ⟨hi, hnd, hLi, hSS, n, hbf, hn⟩
  have hLl : L.length ≤ l.length * l.length := by have := nodup_le hnd (b := allP (l.map (·.c)).length) (fun q hq => mem_allP (hLi q hq)); rw [allP_len, hgl] at this; exact this
  (first | refine wX ?_ | exact wZ)
  refine brd_dec (fun h1 => ?_) (fun h1 => ?_)
  rotate_left
  · have hil : i = L.length := by omega
    subst hil
    have hbt : bfsF (l.map (·.c)) n L L.length = true := by
      cases n with
      | zero => rfl
      | succ n =>
        unfold bfsF
        rw [List.getElem?_eq_none (Nat.le_refl _)]
    rw [← hbf, hbt]
    (first | refine wX ?_ | exact wZ)
  have hil : i < L.length := by omega
  obtain ⟨⟨x0, y0⟩, hq⟩ : ∃ q, L[i]? = some q := ⟨_, List.getElem?_eq_getElem hil⟩
  have hqi := hLi _ (List.mem_of_getElem? hq)
  obtain ⟨xn, rfl⟩ : ∃ n : Nat, x0 = (n : Int) := ⟨x0.toNat, by have := hqi.1; simp only at this; omega⟩
  obtain ⟨yn, rfl⟩ : ∃ n : Nat, y0 = (n : Int) := ⟨y0.toNat, by have := hqi.2; simp only at this; omega⟩
  have hxn : xn < l.length := by have := hqi.1.2; simp only [List.length_map] at this; omega
  have hyn : yn < l.length := by have := hqi.2.2; simp only [List.length_map] at this; omega
  obtain ⟨x, hx⟩ : ∃ x, l[xn]? = some x := ⟨_, List.getElem?_eq_getElem hxn⟩
  obtain ⟨y, hy⟩ : ∃ y, l[yn]? = some y := ⟨_, List.getElem?_eq_getElem hyn⟩
  have hxm := List.mem_of_getElem? hx
  have hym := List.mem_of_getElem? hy
  have hxo := hok x hxm
  have hyo := hok y hym
  have hxs := hs.2 x hxm
  have hys := hs.2 y hym
  (first | refine wX ?_ | exact wZ)
  refine Nd.mk ⟨rfl, by omega, by omega⟩ ?_
  (first | refine wX ?_ | exact wZ)
  refine LdN.fld (.int .i64 (xn : Int)) rfl (fun w hw => hw.2.2.1) (by rw [Int.toNat_natCast]; exact (pC_get hq).1) ?_
  (first | refine wX ?_ | exact wZ)
  refine Nd.mk ⟨hsa, by omega, by omega⟩ ?_
  (first | refine wX ?_ | exact wZ)
  refine LdN.agg (cellC x) rfl (fun w hw => hw.1.1) rfl (fun k hk => by rw [Int.toNat_natCast]; exact grC_get l xn k hk hx) ?_
  (first | refine wX ?_ | exact wZ)
  refine Nd.mk ⟨rfl, by omega, by omega⟩ ?_
  (first | refine wX ?_ | exact wZ)
  refine LdN.fld (.int .i64 (yn : Int)) rfl (fun w hw => hw.2.2.1) (by rw [Int.toNat_natCast]; exact (pC_get hq).2) ?_
  (first | refine wX ?_ | exact wZ)
  refine Nd.mk ⟨hsa, by omega, by omega⟩ ?_
  (first | refine wX ?_ | exact wZ)
  refine LdN.agg (cellC y) rfl (fun w hw => hw.1.1) rfl (fun k hk => by rw [Int.toNat_natCast]; exact grC_get l yn k hk hy) ?_
  (first | refine wX ?_ | exact wZ)
  refine call1 (alike_c x y hxo hyo _ (fun w hw => ⟨hw.1.2 x hxm, hw.1.2 y hym⟩)) ?_
  have hoke : ok (l.map (·.c)) ((xn : Int), (yn : Int)) = alikeB x.c y.c := by unfold ok; rw [at_map hx, at_map hy]
  have hnx : nextP (l.map (·.c)) ((xn : Int), (yn : Int)) = x.c.items.zip y.c.items := by unfold nextP; rw [at_map hx, at_map hy]
  cases n with
  | zero => omega
  | succ n =>
  unfold bfsF at hbf
  rw [hq] at hbf
  simp only [hoke, hnx] at hbf
  cases hal : alikeB x.c y.c with
  | false =>
    rw [hal] at hbf
    rw [← hbf]
    (first | refine wX ?_ | exact wZ)
    rfl
  | true =>
  rw [hal, if_pos rfl] at hbf
  have h5 := (alike_to hal).2.2.2.2
  have hzl : (x.c.items.zip y.c.items).length = x.c.items.length := by rw [List.length_zip]; omega
  have hzi : ∀ q ∈ x.c.items.zip y.c.items, InP (l.map (·.c)) q := fun q h => next_in hin hqi (by rw [hnx]; exact h)
  (first | refine wX ?_ | exact wZ)
  refine LoopN.intro RSt (fun ⟨k, L2, _, _, S2⟩ => k ≤ x.c.items.length ∧ L2 = ((x.c.items.zip y.c.items).take k).foldl push L ∧ SeenS (l.map (·.c)) L2 S2) (fun ⟨k, L2, lb, cap, S2⟩ => mkS Tryz.f58.ntmps 0 [(0, .c (.v (.slice a l.length ca))), (7, .c (.v (.slice (some ⟨sb, 0, none⟩) (l.length * l.length) (l.length * l.length)))), (8, .c (.v (.slice (some ⟨lb, 0, none⟩) L2.length cap))), (9, .c (.v (.int .i64 (i : Int)))), (10, .c (.lp 3 0)), (11, .c (.lp 4 0)), (12, .c (.v (.int .i64 (k : Int))))])
    (fun ⟨k, L2, lb, cap, S2⟩ => [.fact (GrF a l), .app 4 1 (blC S2) (some ⟨sb, 0, none⟩) (l.length * l.length) (l.length * l.length), .app 141 2 (pC L2) (some ⟨lb, 0, none⟩) L2.length cap, .blk 73 (vs (cellC x)), .blk 73 (vs (cellC y))]) (fun ⟨k, _, _, _, _⟩ => x.c.items.length - k) [] rfl (fun ⟨_, _, _, _, _⟩ => rfl) (fun ⟨_, _, _, _, _⟩ => rfl) (fun ⟨_, _, _, _, _⟩ _ => okHB_eq rfl) ?_ ?_
  · refine ⟨⟨0, L, lb2, cap2, S⟩, ⟨Nat.zero_le _, rfl, hSS⟩, ?_, wkE_refl _, wkE_refl _, wkE_refl _, wkE_refl _, wkE_refl _, trivial⟩
    (repeat' (first | exact trivial | refine And.intro (by with_reducible rfl) ?_ | (with_reducible exact wkC_refl _) | (with_reducible exact wkCs_refl _) | refine And.intro ?_ ?_))
    all_goals rfl
  rintro ⟨k, L2, lb3, cap3, S2⟩ ⟨hk, hL2, hS2⟩
  have hpu := pushes (g := l.map (·.c)) ((x.c.items.zip y.c.items).take k) L hnd
  rw [← hL2] at hpu
  obtain ⟨hnd2, ⟨rr, hrr⟩, _, hmem2⟩ := hpu
  have hLi2 : ∀ q ∈ L2, InP (l.map (·.c)) q := fun q h => (hmem2 q h).elim (hLi q) (fun h => hzi q (List.mem_of_mem_take h))
  have hLl2 : L2.length ≤ l.length * l.length := by have := nodup_le hnd2 (b := allP (l.map (·.c)).length) (fun q hq => mem_allP (hLi2 q hq)); rw [allP_len, hgl] at this; exact this
  (first | refine wX ?_ | exact wZ)
  refine brd_dec (fun h6 => ?_) (fun h6 => ?_)
  rotate_left
  · have hkl : k = x.c.items.length := by omega
    subst hkl
    rw [List.take_of_length_le (by omega)] at hL2
    rw [← hL2] at hbf
    (first | refine wX ?_ | exact wZ)
    refine ⟨⟨i + 1, L2, lb3, cap3, S2⟩, ⟨by rw [hrr, List.length_append]; omega, hnd2, hLi2, hS2, n, hbf, by omega⟩, by show l.length * l.length + 1 - (i + 1) < l.length * l.length + 1 - i; omega, ?_, wkE_refl _, wkE_refl _, wkE_refl _, trivial⟩
    (repeat' (first | exact trivial | refine And.intro (by with_reducible rfl) ?_ | (with_reducible exact wkC_refl _) | (with_reducible exact wkCs_refl _) | refine And.intro ?_ ?_))
    all_goals first | rfl | exact av_int (by rw [wrap_i64 (by omega)]; omega)
  obtain ⟨xi, hxi⟩ : ∃ z, x.c.items[k]? = some z := ⟨_, List.getElem?_eq_getElem (by omega)⟩
  obtain ⟨yi, hyi⟩ : ∃ z, y.c.items[k]? = some z := ⟨_, List.getElem?_eq_getElem (by omega)⟩
  have hxa : x.ia.isSome = true := by
    cases hq : x.ia with
    | none => rw [hxo.ia hq] at hxi; cases hxi
    | some b => rfl
  have hya : y.ia.isSome = true := by
    cases hq : y.ia with
    | none => rw [hyo.ia hq] at hyi; cases hyi
    | some b => rfl
  have hz : (x.c.items.zip y.c.items)[k]? = some (xi, yi) := List.getElem?_zip_eq_some.2 ⟨hxi, hyi⟩
  have hpi := hzi _ (List.mem_of_getElem? hz)
  obtain ⟨xm, rfl⟩ : ∃ n : Nat, xi = (n : Int) := ⟨xi.toNat, by have := hpi.1; simp only at this; omega⟩
  obtain ⟨ym, rfl⟩ : ∃ n : Nat, yi = (n : Int) := ⟨yi.toNat, by have := hpi.2; simp only at this; omega⟩
  have hxl : xm < l.length := by have := hpi.1.2; simp only [List.length_map] at this; omega
  have hyl : ym < l.length := by have := hpi.2.2; simp only [List.length_map] at this; omega
  have hsg := hS2.get _ hpi
  rw [hgl, show idxP l.length ((xm : Int), (ym : Int)) = xm * l.length + ym from rfl] at hsg
  obtain ⟨hiw1, hiw2⟩ := hiw xm ym hxl hyl
  (first | refine wX ?_ | exact wZ)
  refine Nd.mk ⟨hxa, by omega, by omega⟩ ?_
  (first | refine wX ?_ | exact wZ)
  refine LdN.one (.int .i64 (xm : Int)) rfl (fun w hw => (hw.1.2 x hxm).2) (by rw [Int.toNat_natCast]; show (iC x.c.items)[k * 1]? = _; rw [Nat.mul_one]; exact iC_get hxi) ?_
  (first | refine wX ?_ | exact wZ)
  refine Nd.mk ⟨hya, by omega, by omega⟩ ?_
  (first | refine wX ?_ | exact wZ)
  refine LdN.one (.int .i64 (ym : Int)) rfl (fun w hw => (hw.1.2 y hym).2) (by rw [Int.toNat_natCast]; show (iC y.c.items)[k * 1]? = _; rw [Nat.mul_one]; exact iC_get hyi) ?_
  (first | refine wX ?_ | exact wZ)
  rw [hiw1]
  refine Nd.mk ⟨rfl, by omega, by omega⟩ ?_
  (first | refine wX ?_ | exact wZ)
  refine LdN.one (a := some ⟨sb, 0, none⟩) (.bool (decide (((xm : Int), (ym : Int)) ∈ L2))) rfl (fun w hw => hw.2.1) (by rw [Int.toNat_natCast]; show (blC S2)[(xm * l.length + ym) * 1]? = _; rw [Nat.mul_one]; exact blC_get hsg) ?_
  have hnext : ((x.c.items.zip y.c.items).take (k + 1)).foldl push L = push L2 ((xm : Int), (ym : Int)) := by
    rw [List.take_add_one, hz, List.foldl_append, ← hL2]
    rfl
  cases hin2 : decide (((xm : Int), (ym : Int)) ∈ L2) with
  | true =>
    have hpl : push L2 ((xm : Int), (ym : Int)) = L2 := by unfold push; rw [if_pos (of_decide_eq_true hin2)]
    rw [hpl] at hnext
    (first | refine wX ?_ | exact wZ)
    refine ⟨⟨k + 1, L2, lb3, cap3, S2⟩, ⟨by omega, hnext.symm, hS2⟩, by show x.c.items.length - (k + 1) < x.c.items.length - k; omega, ?_, wkE_refl _, wkE_refl _, wkE_refl _, wkE_refl _, wkE_refl _, trivial⟩
    (repeat' (first | exact trivial | refine And.intro (by with_reducible rfl) ?_ | (with_reducible exact wkC_refl _) | (with_reducible exact wkCs_refl _) | refine And.intro ?_ ?_))
    all_goals first | rfl | exact av_int (by rw [wrap_i64 (by omega)]; omega)
  | false =>
    have hni : ¬ ((xm : Int), (ym : Int)) ∈ L2 := of_decide_eq_false hin2
    have hpl : push L2 ((xm : Int), (ym : Int)) = L2 ++ [((xm : Int), (ym : Int))] := by unfold push; rw [if_neg hni]
    rw [hpl] at hnext
    have hS3 := hS2.put hpi
    rw [hgl, show idxP l.length ((xm : Int), (ym : Int)) = xm * l.length + ym from rfl] at hS3
    have hSl : S2.length = l.length * l.length := by rw [hS2.len, hgl]
    (first | refine wX ?_ | exact wZ)
    refine Nd.mk ⟨rfl, by omega, by omega⟩ ?_
    (first | refine wX ?_ | exact wZ)
    refine EffW.appTo (i := 1) (q := xm * l.length + ym) (ys := [.bool true]) (blC (S2.set (xm * l.length + ym) true)) 1 rfl (by rw [Int.toNat_natCast]; show AV.c (CV.v (Value.pointer (some ((⟨sb, 0, none⟩ : Addr).add ((xm * l.length + ym) * 1))))) = _; rw [add_lit0, Nat.mul_one]) rfl rfl rfl rfl rfl (by show _ + 1 ≤ _ * 1; omega) (by rw [put_set _ (by simp [blC]; omega), blC_set]) rfl ?_
    generalize S2.set (xm * l.length + ym) true = S3 at *
    (first | refine wX ?_ | exact wZ)
    refine DrawN.plan [0, 1, 3, 6, 8] [(2, 1), (4, 1), (5, 1), (7, 1), (9, 1), (10, 1), (11, 1), (12, 0)] [(13, 0), (14, 0)] (by decide +kernel) ?_
    (first | refine wX ?_ | exact wZ)
    refine Nd.mk ⟨hxa, by omega, by omega⟩ ?_
    (first | refine wX ?_ | exact wZ)
    refine LdN.one (.int .i64 (xm : Int)) rfl (fun w hw => (hw.1.2 x hxm).2) (by rw [Int.toNat_natCast]; show (iC x.c.items)[k * 1]? = _; rw [Nat.mul_one]; exact iC_get hxi) ?_
    (first | refine wX ?_ | exact wZ)
    refine Nd.mk ⟨hya, by omega, by omega⟩ ?_
    (first | refine wX ?_ | exact wZ)
    refine LdN.one (.int .i64 (ym : Int)) rfl (fun w hw => (hw.1.2 y hym).2) (by rw [Int.toNat_natCast]; show (iC y.c.items)[k * 1]? = _; rw [Nat.mul_one]; exact iC_get hyi) ?_
    (first | refine wX ?_ | exact wZ)
    try refine Nd.mk ⟨Nat.le_refl 1, rfl, rfl⟩ ?_
    (conv => whnf)
    refine AppN.grow 2 (pC L2) [.int .i64 (xm : Int), .int .i64 (ym : Int)] rfl rfl ⟨Nat.le_refl 1, ⟨by show (L2.length + 1) * 16 ≤ _; omega, by omega⟩, by decide⟩ fun lb4 cap4 hc4 _ => ?_
    have hps := pC_snoc L2 ((xm : Int), (ym : Int))
    rw [show pC L2 ++ [Value.int .i64 (xm : Int), .int .i64 (ym : Int)] = pC (L2 ++ [((xm : Int), (ym : Int))]) from hps, show L2.length + 1 = (L2 ++ [((xm : Int), (ym : Int))]).length by simp]
    (first | refine wX ?_ | exact wZ)
    refine ⟨⟨k + 1, L2 ++ [((xm : Int), (ym : Int))], lb4, cap4, S3⟩, ⟨by omega, hnext.symm, hS3⟩, by show x.c.items.length - (k + 1) < x.c.items.length - k; omega, ?_, wkE_refl _, wkE_refl _, wkE_refl _, wkE_refl _, wkE_refl _, trivial⟩
    (repeat' (first | exact trivial | refine And.intro (by with_reducible rfl) ?_ | (with_reducible exact wkC_refl _) | (with_reducible exact wkCs_refl _) | refine And.intro ?_ ?_))
    all_goals first | rfl | exact av_int (by rw [wrap_i64 (by omega)]; omega)
end Go.Proofs.YtahjbnfbilkbcaaGreatDoor

/-
  Contracts: the strings.Builder within a writer of one's own.
-/
namespace Go.Proofs.YtahjbnfbilkbcaaGreatDoor
open Go.AX Go.RowKit Go.Core
set_option maxRecDepth 20000

/-- What the Builder's first cell holds: nothing, or its own address, within the writer. -/
def bC1 (u : Bool) : CV := match u with | true => .lp 0 1 | false => .v (.pointer none)
def wH (gv : Value) (F : World → Prop) (u : Bool) (out : List UInt8) (i : BSt) (way : List Int) (j : BSt) : List Ent :=
  [.blk 88 [.v gv, bC1 u, .v (.slice (at0 i.ob) out.length i.cap), .v (.slice (at0 j.ob) way.length j.cap)], .app 5 1 (u8s out) (at0 i.ob) out.length i.cap, .app 3 1 (iC way) (at0 j.ob) way.length j.cap, .fact F]
theorem wH_ok (gv : Value) (F : World → Prop) (u : Bool) (out : List UInt8) (i : BSt) (way : List Int) (j : BSt) : okH (wH gv F u out i way j).length (wH gv F u out i way j) := by cases u <;> exact okHB_eq rfl
variable (gv : Value) (F : World → Prop) (way : List Int) (j : BSt)

theorem copyCheck_w (u : Bool) (out : List UInt8) (i : BSt) : SpecH Tryz.prog 116 [.c (.lp 0 1)] (wH gv F u out i way j) (RetG (ι := Unit) (fun _ => True) (fun _ => .tuple #[]) fun _ => wH gv F true out i way j) := by
  refine ownC hm Tryz.func116 (by kernel_rfl) rfl rfl (fun _ _ => wH_ok _ _ _ _ _ _ _) (fun _ _ => Nat.le_refl _) ?_
  cases u with
  | false =>
    (first | refine wX ?_ | exact wZ)
    refine ReadW.toUnsafe 86 rfl (by kernel_rfl) (by kernel_rfl) (by kernel_rfl) rfl rfl (Nat.succ_lt_succ (Nat.zero_lt_succ _)) ?_
    (first | refine wX ?_ | exact wZ)
    refine EffW.ext (e := Extern.AbiNoEscape.same) rfl Tryz.func130 (by kernel_rfl) (by kernel_rfl) (by kernel_rfl) (by kernel_rfl) (.c (.lp 0 1)) ?_ ?_
    · (first | refine wX ?_ | exact wZ)
      refine ReadW.fromUnsafe 86 rfl (by kernel_rfl) (by kernel_rfl) (by kernel_rfl) rfl rfl (by show liesAt _ _ _ (4 / _) _ _ _ = true; kernel_rfl) ?_
      (first | refine wX ?_ | exact wZ)
      exact ⟨(), trivial, rfl, wkH_refl _⟩
    · intro ρ vs hr
      match vs, hr with
      | [v], hr => exact ⟨v, hr.1, fun w => rfl⟩
      | [], hr => exact hr.elim
      | _ :: _ :: _, hr => exact hr.2.elim
  | true =>
    (first | refine wX ?_ | exact wZ)
    refine ReadW.lp_nil rfl (by kernel_rfl) rfl rfl false (.inl ⟨rfl, rfl⟩) ?_
    (first | refine wX ?_ | exact wZ)
    refine ReadW.lp_same rfl (by kernel_rfl) rfl rfl false (.inr ⟨rfl, rfl⟩) ?_
    (first | refine wX ?_ | exact wZ)
    exact ⟨(), trivial, rfl, wkH_refl _⟩
theorem WriteString_w (u : Bool) (l x : List UInt8) (i0 : BSt) (ok : i0.ok l.length) (room : l.length + x.length ≤ 140737488355328) : SpecH Tryz.prog 95 [.c (.lp 0 1), .c (.v (.string (bs x)))] (wH gv F u l i0 way j)
    (RetG (ι := BSt) (fun i => i.ok (l ++ x).length) (fun _ => .tuple #[.int .i64 x.length, .nilIface]) fun i => wH gv F true (l ++ x) i way j) := by
  refine ownC hm Tryz.func95 (by kernel_rfl) rfl rfl (fun _ _ => wH_ok _ _ _ _ _ _ _) (fun _ _ => Nat.le_refl _) ?_
  cases u with
  | false =>
    (first | refine wX ?_ | exact wZ)
    refine callG (copyCheck_w gv F way j false l i0) [0, 1, 2, 3] rfl ⟨rfl, rfl, rfl, rfl, trivial⟩ rfl fun _ _ => ?_
    (first | refine wX ?_ | exact wZ)
    refine EffW.appStr 1 rfl rfl rfl (by kernel_rfl) (by kernel_rfl) (by kernel_rfl) rfl rfl rfl (by rw [bs_size]; exact room) fun ob' cap' h1 h2 h3 => ?_
    rw [bs_size, bs_list] at *
    (first | refine wX ?_ | exact wZ)
    refine ⟨⟨ob', cap'⟩, ⟨by simpa using h1, by simpa using h2, fun h => ?_⟩, by rw [bs_size], ?_⟩
    · obtain ⟨h4, h5⟩ := h3 h
      have := ok.2.2 h4
      rw [this] at h5
      cases ob' with
      | none => rfl
      | some _ => cases h5
    · exact wkH_of_eq (by simp [wH, u8s, bC1, rnC, rnCs, rnI, rnE])
  | true =>
    (first | refine wX ?_ | exact wZ)
    refine callG (copyCheck_w gv F way j true l i0) [0, 1, 2, 3] rfl ⟨rfl, rfl, rfl, rfl, trivial⟩ rfl fun _ _ => ?_
    (first | refine wX ?_ | exact wZ)
    refine EffW.appStr 1 rfl rfl rfl (by kernel_rfl) (by kernel_rfl) (by kernel_rfl) rfl rfl rfl (by rw [bs_size]; exact room) fun ob' cap' h1 h2 h3 => ?_
    rw [bs_size, bs_list] at *
    (first | refine wX ?_ | exact wZ)
    refine ⟨⟨ob', cap'⟩, ⟨by simpa using h1, by simpa using h2, fun h => ?_⟩, by rw [bs_size], ?_⟩
    · obtain ⟨h4, h5⟩ := h3 h
      have := ok.2.2 h4
      rw [this] at h5
      cases ob' with
      | none => rfl
      | some _ => cases h5
    · exact wkH_of_eq (by simp [wH, u8s, bC1, rnC, rnCs, rnI, rnE])
theorem Len_w (u : Bool) (l : List UInt8) (i0 : BSt) : SpecH Tryz.prog 94 [.c (.lp 0 1)] (wH gv F u l i0 way j) (RetG (ι := Unit) (fun _ => True) (fun _ => .int .i64 l.length) fun _ => wH gv F u l i0 way j) := by
  refine ownC hm Tryz.func94 (by kernel_rfl) rfl rfl (fun _ _ => wH_ok _ _ _ _ _ _ _) (fun _ _ => Nat.le_refl _) ?_
  (first | refine wX ?_ | exact wZ)
  exact ⟨(), trivial, rfl, wkH_refl _⟩
theorem String_w (u : Bool) (l : List UInt8) (i0 : BSt) (ok : i0.ok l.length) : SpecH Tryz.prog 52 [.c (.lp 0 1)] (wH gv F u l i0 way j)
    (RetG (ι := Unit) (fun _ => True) (fun _ => .string (bs l)) fun _ => [.dead, .dead, .dead, .fact F]) := by
  refine ownC hm Tryz.func52 (by kernel_rfl) rfl rfl (fun _ _ => ⟨trivial, trivial, trivial, trivial, trivial⟩) (fun _ _ => Nat.le_refl _) ?_
  (first | refine wX ?_ | exact wZ)
  refine DrawN.plan [0, 5] [(1, 1), (2, 1), (3, 1), (4, 1), (6, 1), (7, 1), (8, 1), (9, 1)] [(10, 0), (11, 0)] (by decide +kernel) ?_
  (first | refine wX ?_ | exact wZ)
  refine ReadW.sliceData rfl rfl rfl (fun h h2 => h (ok.2.2 h2)) ?_
  (first | refine wX ?_ | exact wZ)
  refine EffW.usStr 1 l rfl rfl rfl rfl (by kernel_rfl) (by kernel_rfl) rfl rfl rfl ?_
  (first | refine wX ?_ | exact wZ)
  exact ⟨(), trivial, rfl, trivial, trivial, trivial, fun _ h => h, trivial⟩
end Go.Proofs.YtahjbnfbilkbcaaGreatDoor

/-
  Plain: how long texts of cells become.
-/
namespace Go.Core

/-- What bounds a graph's texts. -/
structure Short (leafT : Cell → List UInt8) (g : List Cell) : Prop where
  leaf : ∀ a, isLeaf (at_ g a) = true → (leafT (at_ g a)).length ≤ 10000
  text : ∀ a, (at_ g a).kind = 8 → (at_ g a).text.length ≤ 2000
  names : ∀ a, ∀ s ∈ (at_ g a).names, s.length ≤ 40
  items : ∀ a, (at_ g a).items.length ≤ 2000
section
variable {M : Nat} {leafT : Cell → List UInt8} {g : List Cell}
theorem name_le (h : Short leafT g) (a : Int) (i : Nat) : ((at_ g a).names.getD i []).length ≤ 40 := by
  rw [List.getD_eq_getElem?_getD]
  cases hi : (at_ g a).names[i]? with
  | none => simp
  | some s => exact h.names a s (List.mem_of_getElem? hi)
theorem front_le (h : Short leafT g) (a : Int) : (frontT (at_ g a)).length ≤ 2002 := by
  unfold frontT
  split
  · simp
  split
  · have := h.text a (by assumption); simp; omega
  · simp
theorem back_le (c : Cell) : (backT c).length = 1 := by unfold backT; split <;> (try split) <;> rfl
theorem mark_le (c : Cell) : (markT c).length ≤ 4 := by unfold markT; split <;> simp
theorem pre_le (h : Short leafT g) (a : Int) (i : Nat) : (preT (at_ g a) i).length ≤ 50 := by
  have := name_le h a i
  unfold preT
  split
  · split <;> simp only [List.length_append, List.length_cons, List.length_nil] <;> omega
  split
  · simp
  split <;> simp
theorem foldT_len {f : List UInt8 → Int → List UInt8} {pre : Nat → List UInt8} {p X : Nat} (hp : ∀ i, (pre i).length ≤ p) (hX : M ≤ X) (h1 : ∀ o k, M < o.length → f o k = o) (h2 : ∀ o k, o.length ≤ M → (f o k).length ≤ X) :
    ∀ (l : List Int) (i : Nat) (out : List UInt8) (B : Nat), X ≤ B → out.length ≤ B → (foldT f pre i l out).length ≤ B + l.length * p
  | [], _, out, B, _, hb => by unfold foldT; simpa using hb
  | k :: l, i, out, B, hB, hb => by
    have hpi := hp i
    unfold foldT
    have h3 : (f (out ++ pre i) k).length ≤ B + p := by
      rcases Nat.lt_or_ge M (out ++ pre i).length with h | h
      · rw [h1 _ _ h, List.length_append]; omega
      · have := h2 _ k h; omega
    have := foldT_len hp hX h1 h2 l (i + 1) _ (B + p) (by omega) h3
    rw [List.length_cons, Nat.add_mul]
    omega
theorem write_same (n : Nat) (out : List UInt8) (way : List Int) (a : Int) (h : M < out.length) : writeS M leafT g n out way a = out := by
  cases n with
  | zero => rfl
  | succ n => unfold writeS; rw [if_pos h]
theorem write_len (h : Short leafT g) : ∀ (n : Nat) (out : List UInt8) (way : List Int) (a : Int), (writeS M leafT g n out way a).length ≤ max out.length M + n * 200000
  | 0, out, way, a => by unfold writeS; omega
  | n + 1, out, way, a => by
    have hf := front_le h a
    have hb := back_le (at_ g a)
    have hm := mark_le (at_ g a)
    have hi := h.items a
    unfold writeS
    split
    · omega
    split
    · rename_i hl
      have := h.leaf a hl
      rw [List.length_append]; omega
    split
    · simp only [List.length_append]; omega
    · rw [List.length_append]
      have := foldT_len (M := M) (f := fun o k => writeS M leafT g n o (way ++ [a]) k) (pre := preT (at_ g a)) (p := 50) (X := M + n * 200000) (pre_le h a) (by omega) (fun o k ho => write_same n o _ k ho) (fun o k ho => by have := write_len h n o (way ++ [a]) k; omega) (at_ g a).items 0 (out ++ frontT (at_ g a)) (max (out.length + 2002) M + n * 200000) (by omega) (by rw [List.length_append]; omega)
      omega
end
end Go.Core

/-
  What a writer knows of its graph; slices.Contains at numbers.
-/
namespace Go.Core
theorem foldT_snoc {f : List UInt8 → Int → List UInt8} {pre : Nat → List UInt8} : ∀ (l : List Int) (i : Nat) (o : List UInt8) (x : Int), foldT f pre i (l ++ [x]) o = f (foldT f pre i l o ++ pre (i + l.length)) x
  | [], i, o, x => by simp [foldT]
  | y :: l, i, o, x => by
    rw [List.cons_append]
    unfold foldT
    rw [foldT_snoc l (i + 1), List.length_cons]
    rw [show i + 1 + l.length = i + (l.length + 1) by omega]
theorem foldT_take {f : List UInt8 → Int → List UInt8} {pre : Nat → List UInt8} {l : List Int} {k : Nat} {x : Int} (h : l[k]? = some x) (o : List UInt8) : foldT f pre 0 (l.take (k + 1)) o = f (foldT f pre 0 (l.take k) o ++ pre k) x := by
  have hk := (List.getElem?_eq_some_iff.1 h).1
  rw [List.take_add_one, h]
  show foldT f pre 0 (l.take k ++ [x]) o = _
  rw [foldT_snoc, List.length_take, Nat.zero_add, Nat.min_eq_left (by omega)]
theorem writeS_in {M : Nat} {leafT : Cell → List UInt8} {g : List Cell} {n : Nat} {out : List UInt8} {way : List Int} {u : Int} {c : Cell} (h : ¬ M < out.length) (hc : at_ g u = c) (hl : ¬ isLeaf c = true) : writeS M leafT g (n + 1) out way u = if u ∈ way then out ++ frontT c ++ markT c ++ backT c else
    foldT (fun o k => writeS M leafT g n o (way ++ [u]) k) (preT c) 0 c.items (out ++ frontT c) ++ backT c := by
  subst hc
  conv => lhs; unfold writeS
  rw [if_neg h, if_neg hl]
theorem preT_6 {c : Cell} (h : c.kind = 6) (k : Nat) : preT c k = if 0 < k then [44, 32] else [] := by
  unfold preT
  rw [if_neg (by omega), if_neg (by omega)]
theorem preT_7 {c : Cell} (h : c.kind = 7) (k : Nat) : preT c k = if k % 2 = 1 then [32, 61, 62, 32] else if 0 < k then [44, 32] else [] := by
  unfold preT
  rw [if_neg (by omega)]
  by_cases h2 : k % 2 = 1
  · rw [if_pos ⟨h, h2⟩, if_pos h2]
  · rw [if_neg (fun e => h2 e.2), if_neg h2]
theorem preT_8 {c : Cell} (h : c.kind = 8) (k : Nat) : preT c k = (if k = 0 then [32] else [44, 32]) ++ c.names.getD k [] ++ [61] := by
  unfold preT
  rw [if_pos h]
theorem way_le {n : Nat} {way : List Int} (hn : way.Nodup) (hr : ∀ x ∈ way, 0 ≤ x ∧ x < (n : Int)) : way.length ≤ n := by
  have h1 : (way.map Int.toNat).Nodup := (List.pairwise_map.2 (hn.imp_of_mem fun {a b} ha hb hab => by
    have := hr a ha
    have := hr b hb
    omega))
  have := Go.AX.nodup_len (b := List.range n) h1 fun x hx => by
    obtain ⟨y, hy, rfl⟩ := List.mem_map.1 hx
    have := hr y hy
    exact List.mem_range.2 (by omega)
  simpa using this
def leafS (qt : List UInt8 → List UInt8) (it : Int → List UInt8) (c : Cell) : List UInt8 :=
  if c.kind = 0 then [110, 105, 108] else if c.kind = 1 then [116, 114, 117, 101] else if c.kind = 2 then [102, 97, 108, 115, 101] else if c.kind = 3 then it c.num else if c.kind = 4 then [34] ++ qt c.text ++ [34] else [58] ++ c.text
theorem at_cases (g : List Cell) (a : Int) : at_ g a ∈ g ∨ at_ g a = nilC := by
  unfold at_
  rw [List.getD_eq_getElem?_getD]
  cases h : g[a.toNat]? with
  | none => exact .inr rfl
  | some c => exact .inl (List.mem_of_getElem? h)
theorem cellD_kind {n : Nat} {c : Cell} (h : cellD n c = true) : 0 ≤ c.kind ∧ c.kind ≤ 8 := by
  unfold cellD at h
  simp only [Bool.and_eq_true, Bool.not_eq_true', Bool.or_eq_false_iff, decide_eq_false_iff_not] at h
  have := h.1.2.1.1.1
  omega
theorem cellD_text {n : Nat} {c : Cell} (h : cellD n c = true) : c.text.length ≤ 2000 := by
  have hk := cellD_kind h
  unfold cellD at h
  simp only [Bool.and_eq_true] at h
  have h2 := h.2
  split at h2
  · have := h2
    simp only [Bool.and_eq_true, decide_eq_true_eq] at this
    rw [this.1.1]; simp
  split at h2
  · simpa using h2
  split at h2
  · have : c.text.length ≤ 40 := by simpa using h2
    omega
  split at h2
  · simp only [Bool.and_eq_true, decide_eq_true_eq] at h2
    rw [h2.1]; simp
  split at h2
  · simp only [Bool.and_eq_true] at h2
    have := h2.1.1
    unfold constD wordD at this
    simp only [Bool.and_eq_true, decide_eq_true_eq] at this
    omega
  · have : c.text = [] := by simpa using h2
    rw [this]; simp
theorem cellD_names {n : Nat} {c : Cell} (h : cellD n c = true) : ∀ s ∈ c.names, s.length ≤ 40 := by
  intro s hs
  have hk : c.kind = 8 := by
    unfold cellD at h
    simp only [Bool.and_eq_true, Bool.not_eq_true', Bool.or_eq_false_iff, Bool.and_eq_false_iff, decide_eq_false_iff_not] at h
    rcases h.1.2.1.2 with h1 | h1
    · simpa using h1
    · have : c.names = [] := by simpa using h1
      rw [this] at hs; cases hs
  have h1 := cell_eq n c
  rw [h] at h1
  unfold plainS at h1
  simp only [Bool.and_eq_true] at h1
  have h2 := h1.1.2
  rw [if_neg (by omega), if_neg (by omega)] at h2
  simp only [Bool.and_eq_true] at h2
  have := List.all_eq_true.1 h2.2 s hs
  unfold Go.Scan.iiB at this
  simp only [Bool.and_eq_true, decide_eq_true_eq] at this
  exact this.2
theorem cellD_lens {n : Nat} {c : Cell} (h : cellD n c = true) (h8 : c.kind = 8) : c.names.length = c.items.length := by
  have h1 := cell_eq n c
  rw [h] at h1
  unfold plainS at h1
  simp only [Bool.and_eq_true] at h1
  have h2 := h1.1.2
  rw [if_neg (by omega), if_neg (by omega)] at h2
  simp only [Bool.and_eq_true, decide_eq_true_eq] at h2
  exact h2.1.1
theorem valid_short {g : List Cell} {qt : List UInt8 → List UInt8} {it : Int → List UInt8} (hv : ValidP g) (hs : ∀ c ∈ g, c.items.length ≤ 2000) (hq : ∀ s, (qt s).length ≤ 2 * s.length) (hi : ∀ x, (it x).length ≤ 30) : Short (leafS qt it) g := by
  have hall : ∀ a, cellD g.length (at_ g a) = true ∨ at_ g a = nilC := fun a => (at_cases g a).imp (hv.2.1 _) id
  have ht : ∀ a, (at_ g a).text.length ≤ 2000 := fun a => by
    rcases hall a with h | h
    · exact cellD_text h
    · rw [h]; exact Nat.zero_le _
  refine ⟨fun a _ => ?_, fun a _ => ht a, fun a s hsm => ?_, fun a => ?_⟩
  · have h1 := ht a
    have h2 := hq (at_ g a).text
    have h3 := hi (at_ g a).num
    unfold leafS
    repeat' split
    all_goals first | omega | (simp only [List.length_append, List.length_cons, List.length_nil]; omega)
  · rcases hall a with h | h
    · exact cellD_names h s hsm
    · rw [h] at hsm; cases hsm
  · rcases at_cases g a with h | h
    · exact hs _ h
    · rw [h]; exact Nat.zero_le _
end Go.Core
namespace Go.Proofs.YtahjbnfbilkbcaaGreatDoor
open Go.AX Go.RowKit Go.Core Go.Scan
set_option maxRecDepth 20000

structure WEnv (a : Option Addr) (l : List CellP) (E : World → Prop) (qt : List UInt8 → List UInt8) (it : Int → List UInt8) : Prop where
  ha : a = none → l = []
  sm : Small l
  ok : ∀ p ∈ l, CellOk p
  val : ValidP (l.map (·.c))
  q : ∀ p ∈ l, p.c.kind = 4 → ∀ H, SpecH Tryz.prog 98 (pvs [.string (bs p.c.text)]) H (Ret (.string (bs (qt p.c.text))) H)
  ql : ∀ s, (qt s).length ≤ 2 * s.length
  i : ∀ p ∈ l, p.c.kind = 3 → ∀ H, (∀ w, Facts H w → E w) → SpecH Tryz.prog 97 (pvs [.int .i64 p.c.num]) H (Ret (.string (bs (it p.c.num))) H)
  il : ∀ x, (it x).length ≤ 30
theorem WEnv.short {a : Option Addr} {l : List CellP} {E : World → Prop} {qt : List UInt8 → List UInt8} {it : Int → List UInt8} (V : WEnv a l E qt it) : Short (leafS qt it) (l.map (·.c)) :=
  valid_short V.val (fun c hc => by
    obtain ⟨p, hp, rfl⟩ := List.mem_map.1 hc
    exact (V.sm.2 p hp).2) V.ql V.il
theorem contains_c (ob : Option Nat) (cap : Nat) (way : List Int) (x : Int) (hob : ob = none → way = []) (hl : way.length ≤ 200000000000000) : ∀ H, (∀ w, Facts H w → SlAt (at0 ob) (way.length * 1) (iC way) w) → SpecH Tryz.prog 121 (pvs [.slice (at0 ob) way.length cap, .int .i64 x]) H (Ret (.bool (decide (x ∈ way))) H) := fun H hH =>
  SpecH.rawP (R := fun r => r = .bool (decide (x ∈ way))) (callOk Tryz.func121 (by kernel_rfl) rfl) (fun w hw => by
    cases ob with
    | none =>
      obtain rfl := hob rfl
      exact (Tryz.slices_Contains_int_empty _ cap x w).mono fun e w' ⟨he, hw'⟩ => by
        subst hw'
        exact ⟨_, he, by simp, Below.refl _ _⟩
    | some b =>
      have hs := hH w hw
      refine (Tryz.slices_Contains_int b 0 way.length cap way x w (Nat.le_refl _) (by omega) fun j hj => ?_).mono fun e w' ⟨he, hw'⟩ => ?_
      · have := hs.2.2 j (by omega)
        unfold iC at this
        rw [List.getElem?_map, List.getElem?_eq_getElem hj] at this
        rw [List.getD_eq_getElem?_getD, List.getElem?_eq_getElem hj]
        have e2 : ((at0 (some b)).getD default).add j = ⟨b, 0 + j, none⟩ := add_lit _ _ _
        rw [e2] at this
        exact this
      · subst hw'
        refine ⟨_, he, ?_, Below.refl _ _⟩
        rw [List.take_length, List.contains_eq_mem]) fun r hr => by subst hr; exact ⟨rfl, rfl⟩
end Go.Proofs.YtahjbnfbilkbcaaGreatDoor

/-
  Contracts: what a list has; what a cell's text begins and ends with (document).
-/
namespace Go.Core
end Go.Core
namespace Go.Proofs.YtahjbnfbilkbcaaGreatDoor
open Go.AX Go.RowKit Go.Core Go.Scan
set_option maxRecDepth 20000

end Go.Proofs.YtahjbnfbilkbcaaGreatDoor

/-
  Contract: strings.NewReplacer: a struct at a known address that holds the texts.
-/
namespace Go.Proofs.YtahjbnfbilkbcaaGreatDoor
open Go.AX Go.RowKit
set_option maxRecDepth 20000

end Go.Proofs.YtahjbnfbilkbcaaGreatDoor

/-
  Contract: (*strings.byteStringReplacer).Replace: each byte replaced by what the table holds.
-/
namespace Go.Proofs.YtahjbnfbilkbcaaGreatDoor
open Go.AX Go.RowKit
set_option maxRecDepth 20000

end Go.Proofs.YtahjbnfbilkbcaaGreatDoor

/-
  sync.Once, one goroutine: the parts of its slow road, after the kit's worked LazyParts.
-/
namespace Go.Proofs.YtahjbnfbilkbcaaGreatDoor
set_option maxRecDepth 100000
set_option maxHeartbeats 1600000

end Go.Proofs.YtahjbnfbilkbcaaGreatDoor

/-
  sync.Once, one goroutine: Do, not yet done and its lock free, of a function by its contract; Do, done already.
-/
namespace Go.Proofs.YtahjbnfbilkbcaaGreatDoor
set_option maxRecDepth 100000
set_option maxHeartbeats 3200000

end Go.Proofs.YtahjbnfbilkbcaaGreatDoor

/-
  Contract: Quote of the document.
-/
namespace Go.Proofs.YtahjbnfbilkbcaaGreatDoor
open Go.AX Go.RowKit Go.Scan
set_option maxRecDepth 20000

/-- A byte as the language writes it. -/
def qt (c : UInt8) : List UInt8 := if c == 92 then [92, 92] else if c == 34 then [92, 34] else if c == 35 then [92, 35] else if c == 10 then [92, 110] else if c == 0 then [92, 48] else [c]
end Go.Proofs.YtahjbnfbilkbcaaGreatDoor

/-
  The table of bytes that are replaced, as it is filled.
-/
namespace Go.Proofs.YtahjbnfbilkbcaaGreatDoor
open Go.AX Go.RowKit
set_option maxRecDepth 20000

end Go.Proofs.YtahjbnfbilkbcaaGreatDoor

/-
  Contract: (*strings.Replacer).Replace, for the first time: the bytes that Quote replaces.
-/
namespace Go.Proofs.YtahjbnfbilkbcaaGreatDoor
open Go.AX Go.RowKit
set_option maxRecDepth 20000

end Go.Proofs.YtahjbnfbilkbcaaGreatDoor

/-
  Contract: Quote (program).
-/
namespace Go.Proofs.YtahjbnfbilkbcaaGreatDoor
open Go.AX Go.RowKit Go.Scan
set_option maxRecDepth 20000

end Go.Proofs.YtahjbnfbilkbcaaGreatDoor
