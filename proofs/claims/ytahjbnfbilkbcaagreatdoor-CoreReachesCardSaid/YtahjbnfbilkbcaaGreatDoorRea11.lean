/-
  CoreReachesCardSaid is proved: of every graph and cell CoreReaches returns true and leaves its arguments as they were; the listed tables are tied to the program's text.
-/
import Derived.Test.YtahjbnfbilkbcaaGreatDoorCards
import Derived.Test.YtahjbnfbilkbcaaGreatDoorTie
import Derived.Test.YtahjbnfbilkbcaaGreatDoorRea10
/-
  Contracts: what is reached, whether a circle is, how deep (document).
-/
namespace Go.Proofs.YtahjbnfbilkbcaaGreatDoor
open Go.AX Go.RowKit Go.Core
set_option maxRecDepth 20000

def rdH (F : World → Prop) (L : List Int) (o : BSt) : List Ent := [.app 3 1 (iC L) (at0 o.ob) L.length o.cap, .fact F]
theorem rdH_ok (F : World → Prop) (L : List Int) (o : BSt) : okH (rdH F L o).length (rdH F L o) := okHB_eq rfl
set_option maxHeartbeats 4000000 in
theorem reached_c (a : Option Addr) (ca : Nat) (l : List CellP) (ha : a = none → l = []) (hs : Small l) (hok : ∀ p ∈ l, CellOk p) (hg : InG (l.map (·.c))) : ∀ (n : Nat) (L : List Int) (o : BSt) (i : Int), InI (l.map (·.c)) i → freeN (l.map (·.c)) L < n → L.length + freeN (l.map (·.c)) L ≤ 3000 → o.ok L.length →
    SpecH Tryz.prog 68 (pvs [.slice a l.length ca, .int .i64 i, .slice (at0 o.ob) L.length o.cap]) (rdH (GrF a l) L o) (RetG (ι := BSt) (fun o => o.ok (reachF (l.map (·.c)) n L i).length) (fun o => .slice (at0 o.ob) (reachF (l.map (·.c)) n L i).length o.cap) (fun o => rdH (GrF a l) (reachF (l.map (·.c)) n L i) o)) := by
  intro n
  induction n with
  | zero => intro L o i _ h; omega
  | succ n ih =>
    rintro L ⟨ob0, ocap⟩ i0 hi hn hlen ho
    obtain ⟨i, rfl⟩ : ∃ i : Nat, i0 = (i : Int) := ⟨i0.toNat, by have := hi.1; omega⟩
    have hil : i < l.length := by have := hi.2; simp only [List.length_map] at this; omega
    obtain ⟨p, hp⟩ : ∃ x, l[i]? = some x := ⟨_, List.getElem?_eq_getElem hil⟩
    have hpm := List.mem_of_getElem? hp
    have hpo := hok p hpm
    have hps := hs.2 p hpm
    have hl := hs.1
    have hsa : a.isSome = true := by
      cases a with
      | none => rw [ha rfl] at hil; exact absurd hil (Nat.not_lt_zero _)
      | some b => rfl
    refine ownC hm Tryz.func68 (by kernel_rfl) rfl rfl (fun _ _ => rdH_ok _ _ _) (fun _ _ => Nat.le_refl _) ?_
    (first | refine wX ?_ | exact wZ)
    refine call1 (rHas_c (at0 ob0) ocap L (i : Int) (fun h => by cases ob0 with | none => exact List.eq_nil_of_length_eq_zero (ho.1 rfl).1 | some b => cases h) (by omega) _ (fun w hw => hw.1)) ?_
    cases hmem : decide ((i : Int) ∈ L) with
    | true =>
      have hsf : reachF (l.map (·.c)) (n + 1) L (i : Int) = L := by unfold reachF; rw [if_pos (of_decide_eq_true hmem)]
      rw [hsf]
      (first | refine wX ?_ | exact wZ)
      exact ⟨⟨ob0, ocap⟩, ho, rfl, wkH_refl _⟩
    | false =>
    have hmem2 : ¬ (i : Int) ∈ L := of_decide_eq_false hmem
    have hsf : reachF (l.map (·.c)) (n + 1) L (i : Int) = (outs (l.map (·.c)) (i : Int)).foldl (reachF (l.map (·.c)) n) (L ++ [(i : Int)]) := by
      conv => lhs; unfold reachF
      rw [if_neg hmem2]
    rw [hsf, show outs (l.map (·.c)) (i : Int) = p.c.items by unfold outs; rw [at_map hp]]
    have hlt := free_lt hi hmem2 (t := L ++ [(i : Int)]) (fun x hx => by simp [hx]) (by simp)
    (first | refine wX ?_ | exact wZ)
    try refine Nd.mk ⟨Nat.le_refl 1, rfl, rfl⟩ ?_
    (conv => whnf)
    refine AppN.grow 0 (iC L) [.int .i64 (i : Int)] rfl rfl ⟨Nat.le_refl 1, ⟨by show (L.length + 1) * 8 ≤ _; omega, by omega⟩, Nat.one_ne_zero⟩ fun wb wc hwc _ => ?_
    have hcl : iC L ++ [.int .i64 (i : Int)] = iC (L ++ [(i : Int)]) := by simp [iC]
    have hll : L.length + 1 = (L ++ [(i : Int)]).length := by simp
    have hlen2 : (L ++ [(i : Int)]).length + freeN (l.map (·.c)) (L ++ [(i : Int)]) ≤ 3000 := by rw [← hll]; omega
    rw [hcl, hll]
    have hwc2 : (L ++ [(i : Int)]).length ≤ wc := by rw [← hll]; exact hwc
    generalize L ++ [(i : Int)] = L2 at *
    have hitem : ∀ x ∈ p.c.items, InI (l.map (·.c)) x := fun x hx => outs_in hg hi (by unfold outs; rw [at_map hp]; exact hx)
    obtain ⟨f, hf⟩ : ∃ f, f = reachF (l.map (·.c)) n := ⟨_, rfl⟩
    have hfl : ∀ k, ((p.c.items.take k).foldl f L2).length + freeN (l.map (·.c)) ((p.c.items.take k).foldl f L2) ≤ 3000 := fun k => by
      rw [hf]
      have := fold_len (g := l.map (·.c)) (fun L k hk => reach_len hg n L k hk) (p.c.items.take k) L2 (fun x hx => hitem x (List.mem_of_mem_take hx))
      omega
    have hff : ∀ k, freeN (l.map (·.c)) ((p.c.items.take k).foldl f L2) < n := fun k => by
      rw [hf]
      have := free_mono (g := l.map (·.c)) (s := L2) (t := (p.c.items.take k).foldl (reachF (l.map (·.c)) n) L2) (fun x hx => fold_sub _ n x _ _ hx)
      omega
    rw [← hf] at ih ⊢
    (first | refine wX ?_ | exact wZ)
    refine LoopN.intro (Nat × BSt) (fun ⟨k, o⟩ => k ≤ p.c.items.length ∧ o.ok ((p.c.items.take k).foldl f L2).length)
      (fun ⟨k, o⟩ => mkS Tryz.f68.ntmps 0 [(0, .c (.v (.slice a l.length ca))), (1, .c (.v (.int .i64 (i : Int)))), (2, .c (.v (.slice (at0 o.ob) ((p.c.items.take k).foldl f L2).length o.cap))), (7, .c (.v (.int .i64 (k : Int))))])
      (fun ⟨k, o⟩ => rdH (GrF a l) ((p.c.items.take k).foldl f L2) o ++ [.dead]) (fun ⟨k, _⟩ => p.c.items.length - k) [] rfl (fun ⟨_, _⟩ => rfl) (fun ⟨_, _⟩ => rfl) (fun ⟨_, _⟩ _ => okHB_eq rfl) ?_ ?_
    · refine ⟨(0, ⟨some wb, wc⟩), ⟨Nat.zero_le _, (fun h => by cases h), hwc2, fun h => by have : wc = 0 := h; omega⟩, ?_, wkE_refl _, wkE_refl _, trivial, trivial⟩
      (repeat' (first | exact trivial | refine And.intro (by with_reducible rfl) ?_ | (with_reducible exact wkC_refl _) | (with_reducible exact wkCs_refl _) | refine And.intro ?_ ?_))
      all_goals rfl
    rintro ⟨k, o⟩ ⟨hk3, hst⟩
    (first | refine wX ?_ | exact wZ)
    refine Nd.mk ⟨hsa, by omega, by omega⟩ ?_
    (first | refine wX ?_ | exact wZ)
    refine LdN.fld (.slice p.ia p.c.items.length p.ic) rfl (fun w hw => hw.2.1.1) (by rw [Int.toNat_natCast]; exact grC_get l i 4 (by decide) hp) ?_
    (first | refine wX ?_ | exact wZ)
    refine brd_dec (fun h1 => ?_) (fun h1 => ?_)
    · obtain ⟨x, hx⟩ : ∃ z, p.c.items[k]? = some z := ⟨_, List.getElem?_eq_getElem (by omega)⟩
      have hxa : p.ia.isSome = true := by
        cases hq : p.ia with
        | none => rw [hpo.ia hq] at hx; cases hx
        | some b => rfl
      (first | refine wX ?_ | exact wZ)
      refine Nd.mk ⟨hsa, by omega, by omega⟩ ?_
      (first | refine wX ?_ | exact wZ)
      refine LdN.fld (.slice p.ia p.c.items.length p.ic) rfl (fun w hw => hw.2.1.1) (by rw [Int.toNat_natCast]; exact grC_get l i 4 (by decide) hp) ?_
      (first | refine wX ?_ | exact wZ)
      refine Nd.mk ⟨hxa, by omega, by omega⟩ ?_
      (first | refine wX ?_ | exact wZ)
      refine LdN.one (.int .i64 x) rfl (fun w hw => (hw.2.1.2 p hpm).2) (by rw [Int.toNat_natCast]; show (iC p.c.items)[k * 1]? = _; rw [Nat.mul_one]; exact iC_get hx) ?_
      (first | refine wX ?_ | exact wZ)
      refine callG (ih ((p.c.items.take k).foldl f L2) o x (hitem x (List.mem_of_getElem? hx)) (hff k) (hfl k) hst) [0, 1] rfl ⟨rfl, rfl, trivial⟩ rfl fun o2 hst2 => ?_
      have hnx : f ((p.c.items.take k).foldl f L2) x = (p.c.items.take (k + 1)).foldl f L2 := (foldl_take hx).symm
      rw [hnx] at hst2 ⊢
      (first | refine wX ?_ | exact wZ)
      refine ⟨(k + 1, o2), ⟨by omega, hst2⟩, by show p.c.items.length - (k + 1) < p.c.items.length - k; omega, ?_, wkH_refl _⟩
      (repeat' (first | exact trivial | refine And.intro (by with_reducible rfl) ?_ | (with_reducible exact wkC_refl _) | (with_reducible exact wkCs_refl _) | refine And.intro ?_ ?_))
      all_goals first | rfl | exact av_int (by rw [wrap_i64 (by omega)]; omega)
    · have hkl : k = p.c.items.length := by omega
      subst hkl
      rw [List.take_length] at hst ⊢
      (first | refine wX ?_ | exact wZ)
      exact ⟨o, hst, rfl, wkE_refl _, wkE_refl _, trivial⟩
end Go.Proofs.YtahjbnfbilkbcaaGreatDoor

/-
  Contract: whether a circle is reached (document).
-/
namespace Go.Core
/-- A cell that leads on. -/
def leadB (g : List Cell) (L : List Int) (x : Int) : Bool := (outs g x).any fun k => decide (k ∈ L)
theorem any_step {f : Int → Bool} {l : List Int} {k : Nat} {x : Int} (h : l[k]? = some x) : (l.take (k + 1)).any f = ((l.take k).any f || f x) := by
  rw [List.take_add_one, h, List.any_append]
  simp
theorem filter_step {f : Int → Bool} {l : List Int} {k : Nat} {x : Int} (h : l[k]? = some x) : (l.take (k + 1)).filter f = if f x then (l.take k).filter f ++ [x] else (l.take k).filter f := by
  rw [List.take_add_one, h, List.filter_append]
  cases hx : f x <;> simp [hx]
end Go.Core
namespace Go.Proofs.YtahjbnfbilkbcaaGreatDoor
open Go.AX Go.RowKit Go.Core
set_option maxRecDepth 20000

structure CSt where
  L : List Int
  ob : Option Nat
  cap : Nat
def CInv (g : List Cell) (B : Bool) : CSt → Prop := fun ⟨L, ob, _⟩ => (∀ x ∈ L, InI g x) ∧ L.length ≤ 3000 ∧ (ob = none → L = []) ∧ ∃ n, peelF g n L = B ∧ L.length < n
set_option maxHeartbeats 4000000 in
theorem rcircular_c {a : Option Addr} (ca : Nat) {l : List CellP} (ha : a = none → l = []) (hs : Small l) (hok : ∀ p ∈ l, CellOk p) (hg : InG (l.map (·.c))) (i : Int) (hi : InI (l.map (·.c)) i) :
    ∀ H, (∀ w, Facts H w → GrF a l w) → SpecH Tryz.prog 69 (pvs [.slice a l.length ca, .int .i64 i]) H (Ret (.bool (circB (l.map (·.c)) i)) H) := by
  refine factC hm Tryz.func69 (by kernel_rfl) rfl rfl ?_
  have hgl : (l.map (·.c)).length = l.length := by simp
  have hl := hs.1
  have hfr := free_le (l.map (·.c)) []
  have hB : circB (l.map (·.c)) i = peelF (l.map (·.c)) ((reachL (l.map (·.c)) i).length + 1) (reachL (l.map (·.c)) i) := circ_peel hg hi (Nat.lt_succ_self _) (Nat.lt_succ_self _) (Nat.lt_succ_self _)
  obtain ⟨B, hBB⟩ : ∃ B, B = circB (l.map (·.c)) i := ⟨_, rfl⟩
  rw [← hBB] at hB ⊢
  have hrl : (reachL (l.map (·.c)) i).length ≤ 3000 := by
    have := reach_len hg ((l.map (·.c)).length + 1) [] i hi
    unfold reachL
    simp only [List.length_nil] at this
    omega
  have hri : ∀ x ∈ reachL (l.map (·.c)) i, InI (l.map (·.c)) x := fun x hx => to_in hg ((reach_iff hg (Nat.lt_succ_self _) hi x).1 hx) hi
  (first | refine wX ?_ | exact wZ)
  refine SpecH.pad [.app 3 1 [] none 0 0] rfl ?_
  refine callG (reached_c a ca l ha hs hok hg ((l.map (·.c)).length + 1) [] ⟨none, 0⟩ i hi (by omega) (by simp only [List.length_nil]; omega) ⟨fun _ => ⟨rfl, rfl⟩, Nat.le_refl _, fun _ => rfl⟩) [1, 0] rfl ⟨rfl, rfl, trivial⟩ rfl fun o ho => ?_
  obtain ⟨ob0, ocap⟩ := o
  rw [show reachF (l.map (·.c)) ((l.map (·.c)).length + 1) [] i = reachL (l.map (·.c)) i from rfl] at ho ⊢
  generalize reachL (l.map (·.c)) i = L0 at *
  (first | refine wX ?_ | exact wZ)
  refine LoopN.introS CSt (CInv (l.map (·.c)) B) (fun ⟨L, ob, cap⟩ => mkS Tryz.f69.ntmps 0 [(0, .c (.v (.slice a l.length ca))), (5, .c (.v (.slice (at0 ob) L.length cap)))])
    (fun ⟨L, ob, cap⟩ => [.fact (GrF a l), .fact (fun w => SlAt (at0 ob) (L.length * 1) (iC L) w)]) (fun ⟨L, _, _⟩ => L.length) [] rfl (fun _ => rfl) (fun _ => rfl) (fun _ _ => ⟨trivial, trivial, trivial⟩) ?_ ?_
  · refine ⟨⟨L0, ob0, ocap⟩, ⟨hri, hrl, (fun h => List.eq_nil_of_length_eq_zero (ho.1 h).1), _, hB.symm, Nat.lt_succ_self _⟩, ?_, [.fact (GrF a l), .fact (fun w => SlAt (at0 ob0) (L0.length * 1) (iC L0) w)], turnS ⟨.inr (.inl rfl), .inr (.inr ⟨_, rfl, fun w hw => hw.2.1⟩), trivial⟩, wkH_refl _⟩
    (repeat' (first | exact trivial | refine And.intro (by with_reducible rfl) ?_ | (with_reducible exact wkC_refl _) | (with_reducible exact wkCs_refl _) | refine And.intro ?_ ?_))
    all_goals rfl
  rintro ⟨L, ob, cap⟩ ⟨hLi, hLl, hLn, n, hpe, hn⟩
  obtain ⟨n, rfl⟩ : ∃ m, n = m + 1 := ⟨n - 1, by omega⟩
  have hsome : ∀ {k : Nat} {x : Int}, L[k]? = some x → (at0 ob).isSome = true := fun {k x} h => by
    cases ob with
    | none => rw [hLn rfl] at h; cases h
    | some b => rfl
  (first | refine wX ?_ | exact wZ)
  refine LoopN.intro (Nat × BSt) (fun ⟨k, o⟩ => k ≤ L.length ∧ o.ok ((L.take k).filter (leadB (l.map (·.c)) L)).length) (fun ⟨k, o⟩ => mkS Tryz.f69.ntmps 0 [(0, .c (.v (.slice a l.length ca))), (5, .c (.v (.slice (at0 ob) L.length cap))), (6, .c (.v (.slice (at0 o.ob) ((L.take k).filter (leadB (l.map (·.c)) L)).length o.cap))), (7, .c (.v (.int .i64 (k : Int))))])
    (fun ⟨k, o⟩ => [.fact (GrF a l), .fact (fun w => SlAt (at0 ob) (L.length * 1) (iC L) w), .app 3 1 (iC ((L.take k).filter (leadB (l.map (·.c)) L))) (at0 o.ob) ((L.take k).filter (leadB (l.map (·.c)) L)).length o.cap]) (fun ⟨k, _⟩ => L.length - k) [.app 3 1 [] none 0 0] rfl (fun ⟨_, _⟩ => rfl) (fun ⟨_, _⟩ => rfl) (fun ⟨_, _⟩ _ => okHB_eq rfl) ?_ ?_
  · refine ⟨(0, ⟨none, 0⟩), ⟨Nat.zero_le _, fun _ => ⟨rfl, rfl⟩, Nat.le_refl _, fun _ => rfl⟩, ?_, wkE_refl _, wkE_refl _, wkE_refl _, trivial⟩
    (repeat' (first | exact trivial | refine And.intro (by with_reducible rfl) ?_ | (with_reducible exact wkC_refl _) | (with_reducible exact wkCs_refl _) | refine And.intro ?_ ?_))
    all_goals rfl
  rintro ⟨k, o⟩ ⟨hk, ho2⟩
  (first | refine wX ?_ | exact wZ)
  refine brd_dec (fun h1 => ?_) (fun h1 => ?_)
  rotate_left
  · have hkl : k = L.length := by omega
    subst hkl
    rw [List.take_length] at ho2 ⊢
    have hpe2 : (if (L.filter (leadB (l.map (·.c)) L)).length = L.length then decide (0 < L.length) else peelF (l.map (·.c)) n (L.filter (leadB (l.map (·.c)) L))) = B := hpe
    have hsub : ∀ x ∈ L.filter (leadB (l.map (·.c)) L), x ∈ L := fun x hx => (List.mem_filter.1 hx).1
    have hle : (L.filter (leadB (l.map (·.c)) L)).length ≤ L.length := List.length_filter_le _ _
    generalize L.filter (leadB (l.map (·.c)) L) = S at *
    obtain ⟨ob2, cap2⟩ := o
    (first | refine wX ?_ | exact wZ)
    refine brd_eq (fun h2 => ?_) (fun h2 => ?_)
    · rw [if_pos (by omega)] at hpe2
      (first | refine wX ?_ | exact wZ)
      exact out_bool (by rw [← hpe2, decide_eq_decide]; omega)
    · rw [if_neg (by omega)] at hpe2
      (first | refine wX ?_ | exact wZ)
      refine ⟨⟨S, ob2, cap2⟩, ⟨fun x hx => hLi x (hsub x hx), by omega, (fun h => List.eq_nil_of_length_eq_zero (ho2.1 h).1), n, hpe2, by omega⟩, by show S.length < L.length; omega, ?_, [.fact (GrF a l), .fact (fun w => SlAt (at0 ob2) (S.length * 1) (iC S) w), .dead], turnS ⟨.inr (.inl rfl), .inr (.inr ⟨_, rfl, fun w hw => hw.2.2.1⟩), .inl rfl, trivial⟩, wkE_refl _, wkE_refl _, trivial⟩
      (repeat' (first | exact trivial | refine And.intro (by with_reducible rfl) ?_ | (with_reducible exact wkC_refl _) | (with_reducible exact wkCs_refl _) | refine And.intro ?_ ?_))
      all_goals rfl
  obtain ⟨x, hx⟩ : ∃ z, L[k]? = some z := ⟨_, List.getElem?_eq_getElem (by omega)⟩
  have hxi := hLi x (List.mem_of_getElem? hx)
  obtain ⟨xn, rfl⟩ : ∃ n : Nat, x = (n : Int) := ⟨x.toNat, by have := hxi.1; omega⟩
  have hxl : xn < l.length := by have := hxi.2; simp only [List.length_map] at this; omega
  obtain ⟨p, hp⟩ : ∃ x, l[xn]? = some x := ⟨_, List.getElem?_eq_getElem hxl⟩
  have hpm := List.mem_of_getElem? hp
  have hpo := hok p hpm
  have hps := hs.2 p hpm
  have hla := hsome hx
  have hsa : a.isSome = true := by
    cases a with
    | none => rw [ha rfl] at hxl; exact absurd hxl (Nat.not_lt_zero _)
    | some b => rfl
  (first | refine wX ?_ | exact wZ)
  refine Nd.mk ⟨hla, by omega, by omega⟩ ?_
  (first | refine wX ?_ | exact wZ)
  refine LdN.one (.int .i64 (xn : Int)) rfl (fun w hw => hw.2.1) (by rw [Int.toNat_natCast]; show (iC L)[k * 1]? = _; rw [Nat.mul_one]; exact iC_get hx) ?_
  (first | refine wX ?_ | exact wZ)
  refine Nd.mk ⟨hsa, by omega, by omega⟩ ?_
  (first | refine wX ?_ | exact wZ)
  refine LdN.fld (.slice p.ia p.c.items.length p.ic) rfl (fun w hw => hw.1.1) (by rw [Int.toNat_natCast]; exact grC_get l xn 4 (by decide) hp) ?_
  (first | refine wX ?_ | exact wZ)
  have hld : leadB (l.map (·.c)) L (xn : Int) = p.c.items.any fun k => decide (k ∈ L) := by unfold leadB outs; rw [at_map hp]
  have hfs := filter_step (f := leadB (l.map (·.c)) L) hx
  rw [hld] at hfs
  have hfl : ((L.take k).filter (leadB (l.map (·.c)) L)).length ≤ 3000 := by
    have h1 := List.length_filter_le (leadB (l.map (·.c)) L) (L.take k)
    rw [List.length_take] at h1
    omega
  refine loopS Nat (fun q => q ≤ p.c.items.length) (fun q => mkS Tryz.f69.ntmps 0 [(0, .c (.v (.slice a l.length ca))), (5, .c (.v (.slice (at0 ob) L.length cap))), (6, .c (.v (.slice (at0 o.ob) ((L.take k).filter (leadB (l.map (·.c)) L)).length o.cap))), (7, .c (.v (.int .i64 (k : Int)))), (8, .c (.v (.bool ((p.c.items.take q).any fun k => decide (k ∈ L))))), (9, .c (.v (.slice p.ia p.c.items.length p.ic))), (10, .c (.v (.int .i64 (q : Int))))]) (fun q => p.c.items.length - q) rfl (fun _ => rfl) 0 (Nat.zero_le _) ?_ ?_
  · (repeat' (first | exact trivial | refine And.intro (by with_reducible rfl) ?_ | (with_reducible exact wkC_refl _) | (with_reducible exact wkCs_refl _) | refine And.intro ?_ ?_))
    all_goals rfl
  intro q hq
  (first | refine wX ?_ | exact wZ)
  refine brd_dec (fun h2 => ?_) (fun h2 => ?_)
  · obtain ⟨y, hy⟩ : ∃ z, p.c.items[q]? = some z := ⟨_, List.getElem?_eq_getElem (by omega)⟩
    have hxa : p.ia.isSome = true := by
      cases hq : p.ia with
      | none => rw [hpo.ia hq] at hy; cases hy
      | some b => rfl
    have has := any_step (f := fun k => decide (k ∈ L)) hy
    cases hb : (p.c.items.take q).any fun k => decide (k ∈ L) with
    | true =>
      rw [hb, Bool.true_or] at has
      (first | refine wX ?_ | exact wZ)
      refine ⟨q + 1, by omega, by omega, ?_, by (repeat' (first | exact trivial | exact wkE_refl _ | refine And.intro ?_ ?_))⟩
      (repeat' (first | exact trivial | refine And.intro (by with_reducible rfl) ?_ | (with_reducible exact wkC_refl _) | (with_reducible exact wkCs_refl _) | refine And.intro ?_ ?_))
      all_goals first | rfl | exact av_int (by rw [wrap_i64 (by omega)]; omega) | (rw [has])
    | false =>
      rw [hb, Bool.false_or] at has
      (first | refine wX ?_ | exact wZ)
      refine Nd.mk ⟨hxa, by omega, by omega⟩ ?_
      (first | refine wX ?_ | exact wZ)
      refine LdN.one (.int .i64 y) rfl (fun w hw => (hw.1.2 p hpm).2) (by rw [Int.toNat_natCast]; show (iC p.c.items)[q * 1]? = _; rw [Nat.mul_one]; exact iC_get hy) ?_
      (first | refine wX ?_ | exact wZ)
      refine call1 (rHas_c (at0 ob) cap L y (fun h => hLn (by cases ob with | none => rfl | some b => cases h)) (by omega) _ (fun w hw => hw.2.1)) ?_
      (first | refine wX ?_ | exact wZ)
      refine ⟨q + 1, by omega, by omega, ?_, by (repeat' (first | exact trivial | exact wkE_refl _ | refine And.intro ?_ ?_))⟩
      (repeat' (first | exact trivial | refine And.intro (by with_reducible rfl) ?_ | (with_reducible exact wkC_refl _) | (with_reducible exact wkCs_refl _) | refine And.intro ?_ ?_))
      all_goals first | rfl | exact av_int (by rw [wrap_i64 (by omega)]; omega) | (rw [has])
  have hql : q = p.c.items.length := by omega
  subst hql
  rw [List.take_length]
  cases hb : p.c.items.any fun k => decide (k ∈ L) with
  | false =>
    rw [hb, if_neg (by decide)] at hfs
    (first | refine wX ?_ | exact wZ)
    refine ⟨(k + 1, o), ⟨by omega, by rw [hfs]; exact ho2⟩, by show L.length - (k + 1) < L.length - k; omega, ?_, ?_⟩
    · (repeat' (first | exact trivial | refine And.intro (by with_reducible rfl) ?_ | (with_reducible exact wkC_refl _) | (with_reducible exact wkCs_refl _) | refine And.intro ?_ ?_))
      all_goals first | rfl | exact av_int (by rw [wrap_i64 (by omega)]; omega) | (rw [hfs])
    · show wkH _ [_, _, Ent.app _ _ (iC ((L.take (k + 1)).filter _)) _ _ _]
      rw [hfs]
      exact wkH_refl _
  | true =>
    rw [hb, if_pos rfl] at hfs
    (first | refine wX ?_ | exact wZ)
    refine Nd.mk ⟨hla, by omega, by omega⟩ ?_
    (first | refine wX ?_ | exact wZ)
    refine LdN.one (.int .i64 (xn : Int)) rfl (fun w hw => hw.2.1) (by rw [Int.toNat_natCast]; show (iC L)[k * 1]? = _; rw [Nat.mul_one]; exact iC_get hx) ?_
    (first | refine wX ?_ | exact wZ)
    try refine Nd.mk ⟨Nat.le_refl 1, rfl, rfl⟩ ?_
    (conv => whnf)
    refine AppN.grow 2 (iC ((L.take k).filter (leadB (l.map (·.c)) L))) [.int .i64 (xn : Int)] rfl rfl ⟨Nat.le_refl 1, ⟨by show (((L.take k).filter (leadB (l.map (·.c)) L)).length + 1) * 8 ≤ _; omega, by omega⟩, Nat.one_ne_zero⟩ fun wb wc hwc _ => ?_
    have hcl : iC ((L.take k).filter (leadB (l.map (·.c)) L)) ++ [.int .i64 (xn : Int)] = iC ((L.take (k + 1)).filter (leadB (l.map (·.c)) L)) := by rw [hfs]; simp [iC]
    have hll : ((L.take k).filter (leadB (l.map (·.c)) L)).length + 1 = ((L.take (k + 1)).filter (leadB (l.map (·.c)) L)).length := by rw [hfs]; simp
    rw [hcl, hll]
    rw [hll] at hwc
    (first | refine wX ?_ | exact wZ)
    refine ⟨(k + 1, ⟨some wb, wc⟩), ⟨by omega, (fun h => by cases h), hwc, fun h => by have : wc = 0 := h; omega⟩, by show L.length - (k + 1) < L.length - k; omega, ?_, wkE_refl _, wkE_refl _, wkE_refl _, trivial⟩
    (repeat' (first | exact trivial | refine And.intro (by with_reducible rfl) ?_ | (with_reducible exact wkC_refl _) | (with_reducible exact wkCs_refl _) | refine And.intro ?_ ?_))
    all_goals first | rfl | exact av_int (by rw [wrap_i64 (by omega)]; omega)
end Go.Proofs.YtahjbnfbilkbcaaGreatDoor

/-
  Contract: how deep (document).
-/
namespace Go.Core
/-- What is known already. -/
def KnD (g : List Cell) (S : List Int) : Prop := S.length = g.length ∧ ∀ (j : Nat) (v : Int), S[j]? = some v → v = 0 ∨ (v = (dep g (j : Int) : Int) ∧ 0 < v)
theorem KnD.none (g : List Cell) : KnD g (List.replicate g.length 0) := ⟨by simp, fun j v h => by
  rw [List.getElem?_replicate] at h
  split at h
  · exact .inl (Option.some.inj h).symm
  · cases h⟩
theorem KnD.put {g : List Cell} {S : List Int} (h : KnD g S) {i : Nat} (hp : 0 < dep g (i : Int)) : KnD g (S.set i (dep g (i : Int) : Int)) := by
  refine ⟨by rw [List.length_set, h.1], fun j v hj => ?_⟩
  by_cases e : i = j
  · subst e
    rw [List.getElem?_set] at hj
    simp only [if_true] at hj
    split at hj
    · cases hj; exact .inr ⟨rfl, by omega⟩
    · cases hj
  · rw [List.getElem?_set_ne e] at hj
    exact h.2 j v hj
end Go.Core
namespace Go.Proofs.YtahjbnfbilkbcaaGreatDoor
open Go.AX Go.RowKit Go.Core
set_option maxRecDepth 20000

theorem iC_set (S : List Int) (i : Nat) (x : Int) : (iC S).set i (.int .i64 x) = iC (S.set i x) := by unfold iC; rw [List.map_set]
def deH (F : World → Prop) (kb n : Nat) (S : List Int) : List Ent := [.app 3 1 (iC S) (some ⟨kb, 0, none⟩) n n, .fact F]
theorem deH_ok (F : World → Prop) (kb n : Nat) (S : List Int) : okH (deH F kb n S).length (deH F kb n S) := okHB_eq rfl
set_option maxHeartbeats 4000000 in
theorem deep_c (a : Option Addr) (ca : Nat) (l : List CellP) (ha : a = none → l = []) (hs : Small l) (hok : ∀ p ∈ l, CellOk p) (hg : InG (l.map (·.c))) (kb : Nat) : ∀ (h : Nat) (i : Int), FinH (l.map (·.c)) h i → h ≤ l.length → InI (l.map (·.c)) i → ∀ S, KnD (l.map (·.c)) S →
    SpecH Tryz.prog 71 (pvs [.slice a l.length ca, .int .i64 i, .slice (some ⟨kb, 0, none⟩) l.length l.length]) (deH (GrF a l) kb l.length S) (RetG (ι := List Int) (KnD (l.map (·.c))) (fun _ => .int .i64 (dep (l.map (·.c)) i : Int)) (deH (GrF a l) kb l.length)) := by
  intro h
  induction h with
  | zero => intro i hf; exact hf.elim
  | succ h ih =>
    rintro i0 hf hh hi S hS
    obtain ⟨i, rfl⟩ : ∃ i : Nat, i0 = (i : Int) := ⟨i0.toNat, by have := hi.1; omega⟩
    have hgl : (l.map (·.c)).length = l.length := by simp
    have hil : i < l.length := by have := hi.2; rw [hgl] at this; omega
    obtain ⟨p, hp⟩ : ∃ x, l[i]? = some x := ⟨_, List.getElem?_eq_getElem hil⟩
    have hpm := List.mem_of_getElem? hp
    have hpo := hok p hpm
    have hps := hs.2 p hpm
    have hl := hs.1
    have hsa : a.isSome = true := by
      cases a with
      | none => rw [ha rfl] at hil; exact absurd hil (Nat.not_lt_zero _)
      | some b => rfl
    have hout : outs (l.map (·.c)) (i : Int) = p.c.items := by unfold outs; rw [at_map hp]
    have hstep := dep_step hf (by rw [hgl]; exact hh)
    rw [hout] at hstep
    have hdl := dep_le (l.map (·.c)) (i : Int)
    rw [hgl] at hdl
    have hSl : S.length = l.length := by rw [hS.1, hgl]
    obtain ⟨s, hsi⟩ : ∃ s, S[i]? = some s := ⟨_, List.getElem?_eq_getElem (by omega)⟩
    have hsv := hS.2 i s hsi
    refine ownC hm Tryz.func71 (by kernel_rfl) rfl rfl (fun _ _ => deH_ok _ _ _ _) (fun _ _ => Nat.le_refl _) ?_
    (first | refine wX ?_ | exact wZ)
    refine Nd.mk ⟨rfl, by omega, by omega⟩ ?_
    (first | refine wX ?_ | exact wZ)
    refine LdN.one (.int .i64 s) rfl (fun w hw => hw.1) (by rw [Int.toNat_natCast]; show (iC S)[i * 1]? = _; rw [Nat.mul_one]; exact iC_get hsi) ?_
    (first | refine wX ?_ | exact wZ)
    refine brd_dec (fun h0 => ?_) (fun h0 => ?_)
    · obtain ⟨rfl, _⟩ := hsv.resolve_left (by omega)
      (first | refine wX ?_ | exact wZ)
      refine Nd.mk ⟨rfl, by omega, by omega⟩ ?_
      (first | refine wX ?_ | exact wZ)
      refine LdN.one (.int .i64 (dep (l.map (·.c)) (i : Int) : Int)) rfl (fun w hw => hw.1) (by rw [Int.toNat_natCast]; show (iC S)[i * 1]? = _; rw [Nat.mul_one]; exact iC_get hsi) ?_
      (first | refine wX ?_ | exact wZ)
      exact ⟨S, hS, rfl, wkE_refl _, wkE_refl _, trivial⟩
    have hmx : ∀ k, (p.c.items.take k).foldl (fun m k => max m (dep (l.map (·.c)) k)) 0 ≤ l.length := fun k => fold_max _ _ (Nat.zero_le _) fun x _ => by have := dep_le (l.map (·.c)) x; omega
    (first | refine wX ?_ | exact wZ)
    refine LoopN.intro (Nat × List Int) (fun ⟨k, S⟩ => k ≤ p.c.items.length ∧ KnD (l.map (·.c)) S)
      (fun ⟨k, _⟩ => mkS Tryz.f71.ntmps 0 [(0, .c (.v (.slice a l.length ca))), (1, .c (.v (.int .i64 (i : Int)))), (2, .c (.v (.slice (some ⟨kb, 0, none⟩) l.length l.length))), (7, .c (.v (.int .i64 (((p.c.items.take k).foldl (fun m k => max m (dep (l.map (·.c)) k)) 0 : Nat) : Int)))), (8, .c (.v (.int .i64 (k : Int))))])
      (fun ⟨_, S⟩ => deH (GrF a l) kb l.length S) (fun ⟨k, _⟩ => p.c.items.length - k) [] rfl (fun ⟨_, _⟩ => rfl) (fun ⟨_, _⟩ => rfl) (fun ⟨_, _⟩ _ => okHB_eq rfl) ?_ ?_
    · refine ⟨(0, S), ⟨Nat.zero_le _, hS⟩, ?_, wkE_refl _, wkE_refl _, trivial⟩
      (repeat' (first | exact trivial | refine And.intro (by with_reducible rfl) ?_ | (with_reducible exact wkC_refl _) | (with_reducible exact wkCs_refl _) | refine And.intro ?_ ?_))
      all_goals rfl
    rintro ⟨k, S2⟩ ⟨hk3, hS2⟩
    have hS2l : S2.length = l.length := by rw [hS2.1, hgl]
    (first | refine wX ?_ | exact wZ)
    refine Nd.mk ⟨hsa, by omega, by omega⟩ ?_
    (first | refine wX ?_ | exact wZ)
    refine LdN.fld (.slice p.ia p.c.items.length p.ic) rfl (fun w hw => hw.2.1.1) (by rw [Int.toNat_natCast]; exact grC_get l i 4 (by decide) hp) ?_
    (first | refine wX ?_ | exact wZ)
    refine brd_dec (fun h1 => ?_) (fun h1 => ?_)
    · obtain ⟨x, hx⟩ : ∃ z, p.c.items[k]? = some z := ⟨_, List.getElem?_eq_getElem (by omega)⟩
      have hxa : p.ia.isSome = true := by
        cases hq : p.ia with
        | none => rw [hpo.ia hq] at hx; cases hx
        | some b => rfl
      have hxo : x ∈ outs (l.map (·.c)) (i : Int) := by rw [hout]; exact List.mem_of_getElem? hx
      have hft := fold_take (f := dep (l.map (·.c))) hx
      have hm1 := hmx k
      (first | refine wX ?_ | exact wZ)
      refine Nd.mk ⟨hsa, by omega, by omega⟩ ?_
      (first | refine wX ?_ | exact wZ)
      refine LdN.fld (.slice p.ia p.c.items.length p.ic) rfl (fun w hw => hw.2.1.1) (by rw [Int.toNat_natCast]; exact grC_get l i 4 (by decide) hp) ?_
      (first | refine wX ?_ | exact wZ)
      refine Nd.mk ⟨hxa, by omega, by omega⟩ ?_
      (first | refine wX ?_ | exact wZ)
      refine LdN.one (.int .i64 x) rfl (fun w hw => (hw.2.1.2 p hpm).2) (by rw [Int.toNat_natCast]; show (iC p.c.items)[k * 1]? = _; rw [Nat.mul_one]; exact iC_get hx) ?_
      (first | refine wX ?_ | exact wZ)
      refine callG (ih x (hf x hxo) (by omega) (outs_in hg hi hxo) S2 hS2) [0, 1] rfl ⟨rfl, rfl, trivial⟩ rfl fun S3 hS3 => ?_
      (first | refine wX ?_ | exact wZ)
      refine ⟨(k + 1, S3), ⟨by omega, hS3⟩, by show p.c.items.length - (k + 1) < p.c.items.length - k; omega, ?_, wkE_refl _, wkE_refl _, trivial⟩
      (repeat' (first | exact trivial | refine And.intro (by with_reducible rfl) ?_ | (with_reducible exact wkC_refl _) | (with_reducible exact wkCs_refl _) | refine And.intro ?_ ?_))
      all_goals first | rfl | exact av_int (by rw [wrap_i64 (by omega)]; omega) | exact av_int (by rw [hft]; unfold Go.AX.maxI; split <;> omega)
    · have hkl : k = p.c.items.length := by omega
      subst hkl
      rw [List.take_length] at *
      have hm1 := hmx p.c.items.length
      rw [List.take_length] at hm1
      have hpos : 0 < dep (l.map (·.c)) (i : Int) := by omega
      have hput := hS2.put hpos
      (first | refine wX ?_ | exact wZ)
      refine Nd.mk ⟨rfl, by omega, by omega⟩ ?_
      (first | refine wX ?_ | exact wZ)
      rw [show IntKind.i64.wrap (((p.c.items.foldl (fun m k => max m (dep (l.map (·.c)) k)) 0 : Nat) : Int) + 1) = (dep (l.map (·.c)) (i : Int) : Int) by rw [wrap_i64 (by omega), hstep]; omega]
      refine EffW.appTo (i := 0) (q := i) (ys := [.int .i64 (dep (l.map (·.c)) (i : Int) : Int)]) (iC (S2.set i (dep (l.map (·.c)) (i : Int) : Int))) 1 rfl (by rw [Int.toNat_natCast]; show AV.c (CV.v (Value.pointer (some ((⟨kb, 0, none⟩ : Addr).add (i * 1))))) = _; rw [add_lit0, Nat.mul_one]) rfl rfl rfl rfl rfl (by show _ + 1 ≤ _ * 1; omega) (by rw [put_set _ (by simp [iC]; omega), iC_set]) rfl ?_
      (first | refine wX ?_ | exact wZ)
      rw [show ((p.c.items.foldl (fun m k => max m (dep (l.map (·.c)) k)) 0 : Nat) : Int) + 1 = (dep (l.map (·.c)) (i : Int) : Int) by rw [hstep]; omega]
      exact ⟨_, hput, rfl, wkE_refl _, wkE_refl _, trivial⟩
end Go.Proofs.YtahjbnfbilkbcaaGreatDoor

/-
  Contracts: Reach, Circular, Depth (document); CoreReaches (law).
-/
namespace Go.Proofs.YtahjbnfbilkbcaaGreatDoor
open Go.AX Go.RowKit Go.Core
set_option maxRecDepth 20000

set_option maxHeartbeats 4000000 in
theorem RReach_c {a : Option Addr} (ca : Nat) {l : List CellP} (ha : a = none → l = []) (hs : Small l) (hok : ∀ p ∈ l, CellOk p) (u : Int) :
    ∃ e : Bool, (e = true ↔ AskP (l.map (·.c)) [u]) ∧ SpecF Tryz.prog 34 [.slice a l.length ca, .int .i64 u] (GrF a l) (IntE e (if e then reachL (l.map (·.c)) u else [])) := by
  obtain ⟨e, he⟩ := ask_bool (l.map (·.c)) [u]
  refine ⟨e, he, ?_⟩
  have hl := hs.1
  refine specF hm Tryz.func34 (by kernel_rfl) rfl rfl ?_
  (first | refine wX ?_ | exact wZ)
  -- x: the entries, $2: the facts
  obtain ⟨t, ht1, ht2⟩ := RIs_c a ca l ha (by omega) hok u [.fact (GrF a l)] (fun w hw => hw.1)
  obtain rfl : t = e := by rw [Bool.eq_iff_iff, ht1, he]
  refine call1 ht2 ?_
  cases t with
  | false =>
    (first | refine wX ?_ | exact wZ)
    exact fin_p (fun _ => True) ⟨_, _, rfl, fun _ => rfl, fun w _ => SlAt.nil⟩ fun w hw => trivial
  | true =>
    have hask := he.1 rfl
    have hin := valid_in hask.1
    have hfr := free_le (l.map (·.c)) []
    have hgl : (l.map (·.c)).length = l.length := by simp
    (first | refine wX ?_ | exact wZ)
    refine SpecH.pad [.app 3 1 [] none 0 0] rfl ?_
    refine callG (reached_c a ca l ha hs hok hin ((l.map (·.c)).length + 1) [] ⟨none, 0⟩ u (hask.2 u (by simp)) (by omega) (by simp only [List.length_nil]; omega) ⟨fun _ => ⟨rfl, rfl⟩, Nat.le_refl _, fun _ => rfl⟩) [1, 0] rfl ⟨rfl, rfl, trivial⟩ rfl fun o ho => ?_
    obtain ⟨ob0, ocap⟩ := o
    rw [show reachF (l.map (·.c)) ((l.map (·.c)).length + 1) [] u = reachL (l.map (·.c)) u from rfl] at ho ⊢
    (first | refine wX ?_ | exact wZ)
    refine fin_p (SlAt (at0 ob0) ((reachL (l.map fun p : CellP => p.c) u).length * 1) (iC (reachL (l.map fun p : CellP => p.c) u))) ⟨_, _, rfl, fun h => ?_, fun w hw => hw⟩ fun w hw => ?_
    · cases ob0 with
      | none => exact List.eq_nil_of_length_eq_zero (ho.1 rfl).1
      | some b => cases h
    · exact hw.2.1
set_option maxHeartbeats 4000000 in
theorem RCircular_c {a : Option Addr} (ca : Nat) {l : List CellP} (ha : a = none → l = []) (hs : Small l) (hok : ∀ p ∈ l, CellOk p) (u : Int) :
    ∀ H, (∀ w, Facts H w → GrF a l w) → ∃ e : Bool, (e = true ↔ AskP (l.map (·.c)) [u]) ∧ SpecH Tryz.prog 35 (pvs [.slice a l.length ca, .int .i64 u]) H (Ret (.tuple #[.bool (e && circB (l.map (·.c)) u), errI e]) H) := by
  intro H hH
  obtain ⟨e, he⟩ := ask_bool (l.map (·.c)) [u]
  refine ⟨e, he, ?_⟩
  have hl := hs.1
  refine factC hm Tryz.func35 (by kernel_rfl) rfl rfl ?_ H hH
  (first | refine wX ?_ | exact wZ)
  -- x: the entries, $2: the facts
  obtain ⟨t, ht1, ht2⟩ := RIs_c a ca l ha (by omega) hok u [.fact (GrF a l)] (fun w hw => hw.1)
  obtain rfl : t = e := by rw [Bool.eq_iff_iff, ht1, he]
  refine call1 ht2 ?_
  cases t with
  | false =>
    (first | refine wX ?_ | exact wZ)
    rfl
  | true =>
    have hask := he.1 rfl
    have hin := valid_in hask.1
    (first | refine wX ?_ | exact wZ)
    refine call1 (rcircular_c ca ha hs hok hin u (hask.2 u (by simp)) _ (fun w hw => hw.1)) ?_
    (first | refine wX ?_ | exact wZ)
    rfl
set_option maxHeartbeats 4000000 in
theorem RDepth_c {a : Option Addr} (ca : Nat) {l : List CellP} (ha : a = none → l = []) (hs : Small l) (hok : ∀ p ∈ l, CellOk p) (u : Int) :
    ∀ H, (∀ w, Facts H w → GrF a l w) → ∃ e : Bool, (e = true ↔ AskP (l.map (·.c)) [u]) ∧ SpecH Tryz.prog 37 (pvs [.slice a l.length ca, .int .i64 u]) H (Ret (depV e (l.map (·.c)) u) H) := by
  intro H hH
  obtain ⟨e, he⟩ := ask_bool (l.map (·.c)) [u]
  refine ⟨e, he, ?_⟩
  have hl := hs.1
  refine factC hm Tryz.func37 (by kernel_rfl) rfl rfl ?_ H hH
  (first | refine wX ?_ | exact wZ)
  -- x: the entries, $2: the facts
  obtain ⟨t, ht1, ht2⟩ := RIs_c a ca l ha (by omega) hok u [.fact (GrF a l)] (fun w hw => hw.1)
  obtain rfl : t = e := by rw [Bool.eq_iff_iff, ht1, he]
  refine call1 ht2 ?_
  cases t with
  | false =>
    (first | refine wX ?_ | exact wZ)
    rfl
  | true =>
    have hask := he.1 rfl
    have hin := valid_in hask.1
    have hgl : (l.map (·.c)).length = l.length := by simp
    have h500 := hask.1.1
    have hu := hask.2 u (by simp)
    (first | refine wX ?_ | exact wZ)
    refine call1 (rcircular_c ca ha hs hok hin u hu _ (fun w hw => hw.1)) ?_
    cases hcb : circB (l.map (·.c)) u with
    | true =>
      (first | refine wX ?_ | exact wZ)
      unfold depV
      rw [hcb]
      rfl
    | false =>
    have hfin := circ_no hin hu hcb
    (first | refine wX ?_ | exact wZ)
    refine EffW.mkRow (e := 3) l.length (iC (List.replicate l.length 0)) rfl (by kernel_rfl) rfl rfl rfl rfl rfl rfl ⟨by omega, by decide⟩ (by unfold iC; rw [List.map_replicate]) fun kb => ?_
    (first | refine wX ?_ | exact wZ)
    refine callG (deep_c a ca l ha hs hok hin kb (l.map (·.c)).length u hfin (by rw [hgl]; exact Nat.le_refl _) hu (List.replicate l.length 0) (by have := KnD.none (l.map (·.c)); rw [hgl] at this; exact this)) [1, 0] rfl ⟨rfl, rfl, trivial⟩ rfl fun S _ => ?_
    (first | refine wX ?_ | exact wZ)
    unfold depV
    rw [hcb]
    rfl
set_option maxHeartbeats 1000000 in
theorem ints_c (a b : Option Addr) (ca cb : Nat) (L : List Int) (ha : a = none → L = []) (hb : b = none → L = []) (hl : L.length ≤ 200000000000000) :
    ∀ H, (∀ w, Facts H w → SlAt a (L.length * 1) (iC L) w ∧ SlAt b (L.length * 1) (iC L) w) → SpecH Tryz.prog 38 (pvs [.slice a L.length ca, .slice b L.length cb]) H (Ret (.bool true) H) := by
  refine factC hm Tryz.func38 (by kernel_rfl) rfl rfl ?_
  (first | refine wX ?_ | exact wZ)
  refine brd_ne (fun h => absurd rfl h) (fun _ => ?_)
  (first | refine wX ?_ | exact wZ)
  refine loopS Nat (fun k => k ≤ L.length) (fun k => mkS Tryz.f38.ntmps 0 [(0, .c (.v (.slice a L.length ca))), (1, .c (.v (.slice b L.length cb))), (5, .c (.v (.int .i64 (k : Int))))]) (fun k => L.length - k) rfl (fun _ => rfl) 0 (Nat.zero_le _) ?_ ?_
  · (repeat' (first | exact trivial | refine And.intro (by with_reducible rfl) ?_ | (with_reducible exact wkC_refl _) | (with_reducible exact wkCs_refl _) | refine And.intro ?_ ?_))
    all_goals rfl
  intro k hk
  (first | refine wX ?_ | exact wZ)
  refine brd_dec (fun h2 => ?_) (fun h2 => ?_)
  · obtain ⟨x, hx⟩ : ∃ x, L[k]? = some x := ⟨_, List.getElem?_eq_getElem (by omega)⟩
    have hsa : a.isSome = true := by
      cases a with
      | none => rw [ha rfl] at hx; cases hx
      | some b => rfl
    have hsb : b.isSome = true := by
      cases b with
      | none => rw [hb rfl] at hx; cases hx
      | some b => rfl
    (first | refine wX ?_ | exact wZ)
    refine Nd.mk ⟨hsa, by omega, by omega⟩ ?_
    (first | refine wX ?_ | exact wZ)
    refine LdN.one (.int .i64 x) rfl (fun w hw => hw.1.1) (by rw [Int.toNat_natCast]; show (iC L)[k * 1]? = _; rw [Nat.mul_one]; exact iC_get hx) ?_
    (first | refine wX ?_ | exact wZ)
    refine Nd.mk ⟨hsb, by omega, by omega⟩ ?_
    (first | refine wX ?_ | exact wZ)
    refine LdN.one (.int .i64 x) rfl (fun w hw => hw.1.2) (by rw [Int.toNat_natCast]; show (iC L)[k * 1]? = _; rw [Nat.mul_one]; exact iC_get hx) ?_
    (first | refine wX ?_ | exact wZ)
    refine brd_ne (fun h => absurd rfl h) (fun _ => ?_)
    (first | refine wX ?_ | exact wZ)
    refine ⟨k + 1, by omega, by omega, ?_, by (repeat' (first | exact trivial | exact wkE_refl _ | refine And.intro ?_ ?_))⟩
    (repeat' (first | exact trivial | refine And.intro (by with_reducible rfl) ?_ | (with_reducible exact wkC_refl _) | (with_reducible exact wkCs_refl _) | refine And.intro ?_ ?_))
    all_goals first | rfl | exact av_int (by rw [wrap_i64 (by omega)]; omega)
  · (first | refine wX ?_ | exact wZ)
set_option maxHeartbeats 4000000 in
theorem CoreReaches_c (a : Option Addr) (ca : Nat) (l : List CellP) (ha : a = none → l = []) (hl : l.length ≤ 200000000000000) (hok : ∀ p ∈ l, CellOk p) (u : Int) : ∀ H, (∀ w, Facts H w → GrF a l w) → SpecH Tryz.prog 10 (pvs [.slice a l.length ca, .int .i64 u]) H (Ret (.bool true) H) := by
  refine factC hm Tryz.func10 (by kernel_rfl) rfl rfl ?_
  (first | refine wX ?_ | exact wZ)
  refine call1 (large_c a ca l ha hl hok _ (fun w hw => hw.1)) ?_
  cases hlb : largeB l with
  | true =>
    (first | refine wX ?_ | exact wZ)
    refine call1 (sane_c _) ?_
    (first | refine wX ?_ | exact wZ)
  | false =>
    have hs := small_of hlb
    have hgl : (l.map (·.c)).length = l.length := by simp
    obtain ⟨e, he, hes⟩ := Reach_c ca ha hs hok u
    obtain ⟨L, hL⟩ : ∃ L, L = if e = true then reachL (l.map (·.c)) u else [] := ⟨_, rfl⟩
    have hLl : L.length ≤ 200000000000000 := by
      rw [hL]
      cases e with
      | false => exact Nat.zero_le _
      | true =>
        have hask := he.1 rfl
        have h1 := reach_len (valid_in hask.1) ((l.map (·.c)).length + 1) [] u (hask.2 u (by simp))
        have h2 := free_le (l.map (·.c)) []
        have h3 := hask.1.1
        simp only [List.length_nil] at h1
        show (reachL (l.map (·.c)) u).length ≤ _
        unfold reachL
        omega
    rw [← hL] at hes
    (first | refine wX ?_ | exact wZ)
    refine SpecF.call hes (fun w hw => hw.1) fun v0 G0 hv0 => ?_
    obtain ⟨ra, rc, rfl, hra, hG0⟩ := hv0
    (first | refine wX ?_ | exact wZ)
    -- a graph for the specification: x the facts so far, 1 the name's number
    refine SpecF.call (as_c a ca l ha hs hok) (fun w hw => hw.1) fun v1 G1 hv1 => ?_
    obtain ⟨oa1, oc1, m1, rfl, hoa1, hmc1, hmo1, hG1⟩ := hv1
    have hms1 : Small m1 := small_as hs hmc1
    obtain ⟨e2, he2, hes2⟩ := RReach_c oc1 hoa1 hms1 hmo1 u
    rw [hmc1] at he2 hes2
    obtain rfl : e2 = e := by rw [Bool.eq_iff_iff, he, he2]
    rw [← hL] at hes2
    (first | refine wX ?_ | exact wZ)
    refine SpecF.call hes2 (fun w hw => hG1 w hw.2.2.1) fun v2 G2 hv2 => ?_
    obtain ⟨rb, rd, rfl, hrb, hG2⟩ := hv2
    (first | refine wX ?_ | exact wZ)
    obtain ⟨e3, he3, hes3⟩ := Circular_c ca ha hs hok u [.fact (GrF a l), .fact G0, .fact G1, .fact G2] (fun w hw => hw.1)
    obtain rfl : e3 = e2 := by rw [Bool.eq_iff_iff, he, he3]
    refine call1 hes3 ?_
    (first | refine wX ?_ | exact wZ)
    -- a graph for the specification: x the facts so far, 3 the name's number
    refine SpecF.call (as_c a ca l ha hs hok) (fun w hw => hw.1) fun v3 G3 hv3 => ?_
    obtain ⟨oa3, oc3, m3, rfl, hoa3, hmc3, hmo3, hG3⟩ := hv3
    have hms3 : Small m3 := small_as hs hmc3
    obtain ⟨e4, he4, hes4⟩ := RCircular_c oc3 hoa3 hms3 hmo3 u [.fact (GrF a l), .fact G0, .fact G1, .fact G2, .fact G3] (fun w hw => hG3 w hw.2.2.2.2.1)
    rw [hmc3] at he4 hes4
    obtain rfl : e4 = e3 := by rw [Bool.eq_iff_iff, he, he4]
    (first | refine wX ?_ | exact wZ)
    refine call1 hes4 ?_
    obtain ⟨e5, he5, hes5⟩ := Depth_c ca ha hs hok u [.fact (GrF a l), .fact G0, .fact G1, .fact G2, .fact G3] (fun w hw => hw.1)
    obtain rfl : e5 = e4 := by rw [Bool.eq_iff_iff, he, he5]
    (first | refine wX ?_ | exact wZ)
    refine call1 hes5 ?_
    (first | refine wX ?_ | exact wZ)
    -- a graph for the specification: x the facts so far, 4 the name's number
    refine SpecF.call (as_c a ca l ha hs hok) (fun w hw => hw.1) fun v4 G4 hv4 => ?_
    obtain ⟨oa4, oc4, m4, rfl, hoa4, hmc4, hmo4, hG4⟩ := hv4
    have hms4 : Small m4 := small_as hs hmc4
    obtain ⟨e6, he6, hes6⟩ := RDepth_c oc4 hoa4 hms4 hmo4 u [.fact (GrF a l), .fact G0, .fact G1, .fact G2, .fact G3, .fact G4] (fun w hw => hG4 w hw.2.2.2.2.2.1)
    rw [hmc4] at he6 hes6
    obtain rfl : e6 = e5 := by rw [Bool.eq_iff_iff, he, he6]
    (first | refine wX ?_ | exact wZ)
    refine call1 hes6 ?_
    unfold depV errI
    clear hes hes2 hes3 hes4 hes5 hes6 hL
    obtain ⟨n1, hn1⟩ : ∃ n, n = (if (e6 && !circB (l.map (·.c)) u) = true then (dep (l.map (·.c)) u : Int) else 0) := ⟨_, rfl⟩
    obtain ⟨n2, hn2⟩ : ∃ n, n = (if e6 = true then (if circB (l.map (·.c)) u = true then (10 : Int) else 0) else 1) := ⟨_, rfl⟩
    rw [← hn1, ← hn2]
    generalize (e6 && circB (l.map (·.c)) u) = q at *
    generalize (if e6 = true then (0 : Int) else 1) = x at *
    (first | refine wX ?_ | exact wZ)
    refine call1 (ints_c ra rb rc rd L hra hrb hLl _ (fun w hw => ⟨hG0 w hw.2.1, hG2 w hw.2.2.2.1⟩)) ?_
    cases q with
    | false =>
      (first | refine wX ?_ | exact wZ)
      rw [beq_self_eq_true]
      (first | refine wX ?_ | exact wZ)
      rw [beq_self_eq_true]
      (first | refine wX ?_ | exact wZ)
      rw [beq_self_eq_true]
      (first | refine wX ?_ | exact wZ)
      rw [beq_self_eq_true]
      (first | refine wX ?_ | exact wZ)
      rw [beq_self_eq_true]
      (first | refine wX ?_ | exact wZ)
      refine call1 (sane_c _) ?_
      (first | refine wX ?_ | exact wZ)
    | true =>
      (first | refine wX ?_ | exact wZ)
      rw [beq_self_eq_true]
      (first | refine wX ?_ | exact wZ)
      rw [beq_self_eq_true]
      (first | refine wX ?_ | exact wZ)
      rw [beq_self_eq_true]
      (first | refine wX ?_ | exact wZ)
      rw [beq_self_eq_true]
      (first | refine wX ?_ | exact wZ)
      rw [beq_self_eq_true]
      (first | refine wX ?_ | exact wZ)
      refine call1 (sane_c _) ?_
      (first | refine wX ?_ | exact wZ)
end Go.Proofs.YtahjbnfbilkbcaaGreatDoor

/-
  CoreReachesCardSaid is proved: of every graph and cell CoreReaches returns true and leaves its arguments as they were; the listed tables are tied to the program's text.
-/
namespace Go.Proofs.YtahjbnfbilkbcaaGreatDoor
open Go.ChangeShapes Go.WideShapes Go.ChangeAt Go.RowKit Go.AX Go.Core
set_option maxRecDepth 100000

namespace CoreReaches
theorem own : ownKnob Tryz.prog.godebug = none := own0
theorem walk {H : Type} {enc : TypeId × Value → H} (W : World) (base : Nat) (args : Array Value) (ds : List (DataW H)) (p : List MemPlace) (k : Known enc Tryz.prog Tryz.f10 W base args ds p) (_hL : laidMetH Tryz.prog laid3 W) : Walk Tryz.prog 10 args W := by
  obtain ⟨u, v, rfl⟩ := arr2 (trodAll_len k.trod).2
  obtain ⟨d, q, hd, h⟩ := trodAll_get k.trod 0 _ u rfl rfl
  obtain ⟨n, rfl⟩ := okWide_int Tryz.underlying3 (k.val 1 _ v rfl rfl)
  obtain ⟨a, l, cap, rfl, hl, hsl, ha, hQ⟩ := known_rows (e := 42) (m := 5) cellC (fun _ => rfl) Tryz.underlying22 (by kernel_rfl) (by decide +kernel) cell_read k.weights rfl hd (k.val 0 _ u rfl rfl) h
  exact walkH [.fact (GrF a l)] (fun _ he => ⟨_, List.mem_singleton.1 he, hsl.and (Imm.all fun x hx => (SlAt.imm (hQ x hx).2.1).and (SlAt.imm (hQ x hx).2.2))⟩)
    (CoreReaches_c a cap l ha hl (fun x hx => (hQ x hx).1) n _ fun w hw => hw.1)

theorem lifted (os : Os) (started : os.Started) (H : Type) (enc : TypeId × Value → H) :
    ReturnsInHanded {} Tryz.checked os 10 .any (fun w args => (Rows.coreReachesSpec.pre enc Tryz.prog Tryz.f10 [] false w args ∧ laidMetH Tryz.prog laid3 w) ∧ sizedMet enc Tryz.prog Tryz.f10 (OpenSpec.ofChange Rows.coreReachesSpec) false w args) (Rows.coreReachesSpec.post enc Tryz.prog Tryz.f10 false true false false) := by
  refine liftS (C := Tryz.checked) own started (by kernel_rfl) Tryz.func10
    (ChangeSpec.witness_shaped (enc := enc) (C := Tryz.checked) (os := os) (X := fun w _ => laidMetH Tryz.prog laid3 w) false (World.laidAll Tryz.prog os laid3) #[.slice none 0 0, .int .i64 0] 8 (World.laidAll_os _ _ _) (World.shaped_of_ZipB (by kernel_rfl) (by kernel_rfl)) (by kernel_rfl) (by kernel_rfl) (by kernel_rfl) (door_met os _))
    laidOut rfl (t := _) rfl (by kernel_rfl) (by kernel_rfl) ?_ walk
  intro ds hd
  match ds, hd with
  | [d0, d1], _ => rfl

theorem over : Rows.coreReachesRow.holds Tryz.pinned (OpenSpec.ofChange Rows.coreReachesSpec) :=
  OpenClaim.holds_of_wide 10 Tryz.f10 rfl rfl rfl rfl rfl rfl rfl ⟨rfl, rfl, rfl, rfl, rfl⟩ rfl rfl rfl rfl rfl (by kernel_rfl) Tryz.func10 (by kernel_rfl)
    (of_decide_eq_true (by kernel_rfl)) (by unfold Func.isWrapper; first | (rw [if_pos (by decide +kernel)]; kernel_rfl) | (rw [if_neg (by decide +kernel)]; exact ⟨rfl, rfl⟩))
    (fun os started H enc _ => lifted os started H enc)

theorem proved : Rows.CoreReachesCardSaid :=
  Claim7.holds_tied_plain_at .later [] [.data, .data, .data] true (true, "8c46145c91ca01cbbdc693332ca60911ae9d66bc5eabc04f89f5f042d1271d1b") true
    over (fun _ h => by cases h) (by kernel_rfl) (fun _ h => by cases h) coreReaches_row_tie rfl ⟨rfl, rfl⟩ (by kernel_rfl) rfl
    (fun f fn hf hfn => by
      obtain rfl : f = 10 := Option.some.inj ((show Tryz.prog.funcNamed "cabochon/cabochonlaw21.CoreReaches" = some 10 by kernel_rfl).symm.trans hf) |>.symm
      obtain rfl : fn = Tryz.f10 := (Option.some.inj (Tryz.func10.symm.trans hfn)).symm
      exact ⟨by kernel_rfl, fun j t ht => by
        have hm : t ∈ Tryz.f10.params.toList := by simpa using Array.mem_of_getElem? ht
        have hall : (Tryz.f10.params.toList.all fun u => !Tryz.prog.wantsStandIn u) = true := by kernel_rfl
        exact (show Tryz.prog.wantsStandIn t = false by simpa using List.all_eq_true.1 hall t hm)⟩)
    (by kernel_rfl)
#print axioms proved
end CoreReaches
end Go.Proofs.YtahjbnfbilkbcaaGreatDoor
