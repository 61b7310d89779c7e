/-
  Lemmas (C8 C7 C9 G1 C10 Ax49 V1).
-/
import Derived.RangeFuncBox
import Derived.RangeFuncLeaves
import Derived.Shelf.Abstract
import Derived.WalkKit
import Derived.OwnWalkIn
import Derived.TacticsInMore
import Derived.LoopNIn
import Derived.LoopIn
import Derived.Maps.AppendAt
import Derived.Test.YtahjbnfbilkbcaaGreatDoorEqv5
/-
  Contract: whether a cell is valid (document).
-/
namespace Go.Proofs.YtahjbnfbilkbcaaGreatDoor
open Go.AX Go.RowKit Go.Core Go.Scan
set_option maxRecDepth 20000

theorem all_step {α : Type} {Q : α → Prop} {l : List α} {i : Nat} {p : α} (h : ∀ c ∈ l.take i, Q c) (hp : l[i]? = some p) (hq : Q p) : ∀ c ∈ l.take (i + 1), Q c := by
  rw [List.take_add_one, hp]
  intro c hc
  rcases List.mem_append.1 hc with hc | hc
  · exact h c hc
  · rw [List.mem_singleton.1 (show c ∈ [p] from hc)]; exact hq
theorem range_no {n : Nat} {c : Cell} {x : Int} (h : x ∈ c.items) (hx : ¬ (0 ≤ x ∧ x < (n : Int))) : cellD n c = false := by
  have : rangeB n c = false := by
    cases hb : rangeB n c with
    | false => rfl
    | true =>
      unfold rangeB at hb
      have := List.all_eq_true.1 hb x h
      simp at this
      exact absurd this hx
  unfold cellD
  rw [this]
  simp
theorem slat_take {a : Option Addr} {l : List (List UInt8)} {w : World} {i : Nat} (h : SlAt a (l.length * 1) (strC l) w) (hi : i ≤ l.length) : SlAt a (i * 1) (strC (l.take i)) w := by
  obtain ⟨h1, h2, h3⟩ := h
  refine ⟨by simp [strC]; omega, fun h => h2 (by omega), fun j hj => ?_⟩
  rw [h3 j (by omega)]
  unfold strC
  rw [List.getElem?_map, List.getElem?_map, List.getElem?_take_of_lt (by omega)]
set_option maxHeartbeats 4000000 in
theorem cell_c0 (a : Option Addr) (ca n : Nat) (hn : n ≤ 200000000000000) (kind num : Int) (text : List UInt8) (names : List (List UInt8)) (items : List Int) (na : Option Addr) (nc : Nat) (ia : Option Addr) (ic : Nat) (hna : na = none → names = []) (hia : ia = none → items = []) (hnl : names.length ≤ 200000000000000) (hil : items.length ≤ 200000000000000) (hnw : ∀ s ∈ names, s.length ≤ 200000000000000) (htl : text.length ≤ 200000000000000) (hnb : names.length ≤ nc) :
    ∀ H, (∀ w, Facts H w → SlAt na (names.length * 1) (strC names) w ∧ SlAt ia (items.length * 1) (iC items) w) → SpecH Tryz.prog 43 (pvs [.slice a n ca, .agg #[.int .i64 kind, .int .i64 num, .string (bs text), .slice na names.length nc, .slice ia items.length ic]]) H (Ret (.bool (cellD n ⟨kind, num, text, names, items⟩)) H) := by
  refine factC hm Tryz.func43 (by kernel_rfl) rfl rfl ?_
  (first | refine wX ?_ | exact wZ)
  refine loopS Nat (fun i => i ≤ items.length ∧ ∀ x ∈ items.take i, 0 ≤ x ∧ x < (n : Int)) (fun i => mkS Tryz.f43.ntmps 0 [(0, .c (.v (.slice a n ca))), (3, .c (.lp 1 0)), (5, .c (.v (.int .i64 (i : Int))))]) (fun i => items.length - i) rfl (fun _ => rfl) 0 ⟨Nat.zero_le _, by simp⟩ ?_ ?_
  · (repeat' (first | exact trivial | refine And.intro (by with_reducible rfl) ?_ | (with_reducible exact wkC_refl _) | (with_reducible exact wkCs_refl _) | refine And.intro ?_ ?_))
    all_goals rfl
  intro i ⟨hi, hr⟩
  (first | refine wX ?_ | exact wZ)
  refine brd_dec (fun h1 => ?_) (fun h1 => ?_)
  · obtain ⟨x, hx⟩ : ∃ x, items[i]? = some x := ⟨_, List.getElem?_eq_getElem (by omega)⟩
    have hxm := List.mem_of_getElem? hx
    have hsa : ia.isSome = true := by
      cases ia with
      | none => rw [hia rfl] at hx; cases hx
      | some b => rfl
    (first | refine wX ?_ | exact wZ)
    refine Nd.mk ⟨hsa, by omega, by omega⟩ ?_
    (first | refine wX ?_ | exact wZ)
    refine LdN.one (.int .i64 x) rfl (fun w hw => hw.1.2) (by rw [Int.toNat_natCast]; show (iC items)[i * 1]? = _; rw [Nat.mul_one]; exact iC_get hx) ?_
    (first | refine wX ?_ | exact wZ)
    refine brd_dec (fun h2 => ?_) (fun h2 => ?_)
    · (first | refine wX ?_ | exact wZ)
      exact out_bool (range_no (c := ⟨kind, num, text, names, items⟩) hxm (by omega)).symm
    (first | refine wX ?_ | exact wZ)
    refine Nd.mk ⟨hsa, by omega, by omega⟩ ?_
    (first | refine wX ?_ | exact wZ)
    refine LdN.one (.int .i64 x) rfl (fun w hw => hw.1.2) (by rw [Int.toNat_natCast]; show (iC items)[i * 1]? = _; rw [Nat.mul_one]; exact iC_get hx) ?_
    (first | refine wX ?_ | exact wZ)
    refine brd_dec (fun h3 => ?_) (fun h3 => ?_)
    · (first | refine wX ?_ | exact wZ)
      exact out_bool (range_no (c := ⟨kind, num, text, names, items⟩) hxm (by omega)).symm
    (first | refine wX ?_ | exact wZ)
    refine ⟨i + 1, ⟨by omega, all_step hr hx (by omega)⟩, by omega, ?_, by (repeat' (first | exact trivial | exact wkE_refl _ | refine And.intro ?_ ?_))⟩
    (repeat' (first | exact trivial | refine And.intro (by with_reducible rfl) ?_ | (with_reducible exact wkC_refl _) | (with_reducible exact wkCs_refl _) | refine And.intro ?_ ?_))
    all_goals first | rfl | exact av_int (by rw [wrap_i64 (by omega)]; omega)
  have hin : i = items.length := by omega
  subst hin
  rw [List.take_length] at hr
  have hrB : rangeB n ⟨kind, num, text, names, items⟩ = true := List.all_eq_true.2 fun x hx => by have := hr x hx; simp; omega
  clear h1 hi
  (first | refine wX ?_ | exact wZ)
  refine brd_dec (fun hk0 => ?_) (fun hk0 => ?_)
  · (first | refine wX ?_ | exact wZ)
    exact out_bool (by unfold cellD; simp [hk0])
  (first | refine wX ?_ | exact wZ)
  have hkk : 8 < kind ∨ kind = 0 ∨ kind = 1 ∨ kind = 2 ∨ kind = 3 ∨ kind = 4 ∨ kind = 5 ∨ kind = 6 ∨ kind = 7 ∨ kind = 8 := by omega
  rcases hkk with hk | rfl | rfl | rfl | rfl | rfl | rfl | rfl | rfl | rfl
  · refine brd_dec (fun _ => ?_) (fun h => absurd hk h)
    (first | refine wX ?_ | exact wZ)
    exact out_bool (by unfold cellD; simp [hk])
  · -- 0: the kind
    -- 0: the kind
    (first | refine wX ?_ | exact wZ)
    refine call1 (leaf_c ⟨⟨0, num, text, names, items⟩, na, nc, ia, ic⟩ _) ?_
    (first | refine wX ?_ | exact wZ)
    refine brd_dec (fun hi => ?_) (fun hi => ?_)
    · (first | refine wX ?_ | exact wZ)
      exact out_bool (by
        have h0 : items ≠ [] := fun e => by rw [e] at hi; simp at hi
        unfold cellD
        rw [hrB]
        simp [h0])
    have hi0 : items = [] := List.eq_nil_of_length_eq_zero (by omega)
    (first | refine wX ?_ | exact wZ)
    refine brd_dec (fun hi => ?_) (fun hi => ?_)
    · (first | refine wX ?_ | exact wZ)
      exact out_bool (by
        have h0 : names ≠ [] := fun e => by rw [e] at hi; simp at hi
        unfold cellD
        rw [hrB]
        simp [h0])
    have hn0 : names = [] := List.eq_nil_of_length_eq_zero (by omega)
    (first | refine wX ?_ | exact wZ)
    refine brd_ne (fun hu => ?_) (fun hu => ?_)
    · (first | refine wX ?_ | exact wZ)
      exact out_bool (by
        unfold cellD
        rw [hrB]
        simp [hu])
    (first | refine wX ?_ | exact wZ)
    -- hi0, : what is known of items
    exact out_bool (by
      rw [bs_list, Bool.eq_iff_iff]
      unfold cellD
      rw [hrB]
      simp [hi0, hn0, hu])
  · -- 1: the kind
    -- 1: the kind
    (first | refine wX ?_ | exact wZ)
    refine call1 (leaf_c ⟨⟨1, num, text, names, items⟩, na, nc, ia, ic⟩ _) ?_
    (first | refine wX ?_ | exact wZ)
    refine brd_dec (fun hi => ?_) (fun hi => ?_)
    · (first | refine wX ?_ | exact wZ)
      exact out_bool (by
        have h0 : items ≠ [] := fun e => by rw [e] at hi; simp at hi
        unfold cellD
        rw [hrB]
        simp [h0])
    have hi0 : items = [] := List.eq_nil_of_length_eq_zero (by omega)
    (first | refine wX ?_ | exact wZ)
    refine brd_dec (fun hi => ?_) (fun hi => ?_)
    · (first | refine wX ?_ | exact wZ)
      exact out_bool (by
        have h0 : names ≠ [] := fun e => by rw [e] at hi; simp at hi
        unfold cellD
        rw [hrB]
        simp [h0])
    have hn0 : names = [] := List.eq_nil_of_length_eq_zero (by omega)
    (first | refine wX ?_ | exact wZ)
    refine brd_ne (fun hu => ?_) (fun hu => ?_)
    · (first | refine wX ?_ | exact wZ)
      exact out_bool (by
        unfold cellD
        rw [hrB]
        simp [hu])
    (first | refine wX ?_ | exact wZ)
    -- hi0, : what is known of items
    exact out_bool (by
      rw [bs_list, Bool.eq_iff_iff]
      unfold cellD
      rw [hrB]
      simp [hi0, hn0, hu])
  · -- 2: the kind
    -- 2: the kind
    (first | refine wX ?_ | exact wZ)
    refine call1 (leaf_c ⟨⟨2, num, text, names, items⟩, na, nc, ia, ic⟩ _) ?_
    (first | refine wX ?_ | exact wZ)
    refine brd_dec (fun hi => ?_) (fun hi => ?_)
    · (first | refine wX ?_ | exact wZ)
      exact out_bool (by
        have h0 : items ≠ [] := fun e => by rw [e] at hi; simp at hi
        unfold cellD
        rw [hrB]
        simp [h0])
    have hi0 : items = [] := List.eq_nil_of_length_eq_zero (by omega)
    (first | refine wX ?_ | exact wZ)
    refine brd_dec (fun hi => ?_) (fun hi => ?_)
    · (first | refine wX ?_ | exact wZ)
      exact out_bool (by
        have h0 : names ≠ [] := fun e => by rw [e] at hi; simp at hi
        unfold cellD
        rw [hrB]
        simp [h0])
    have hn0 : names = [] := List.eq_nil_of_length_eq_zero (by omega)
    (first | refine wX ?_ | exact wZ)
    refine brd_ne (fun hu => ?_) (fun hu => ?_)
    · (first | refine wX ?_ | exact wZ)
      exact out_bool (by
        unfold cellD
        rw [hrB]
        simp [hu])
    (first | refine wX ?_ | exact wZ)
    -- hi0, : what is known of items
    exact out_bool (by
      rw [bs_list, Bool.eq_iff_iff]
      unfold cellD
      rw [hrB]
      simp [hi0, hn0, hu])
  · -- 3: the kind
    (first | refine wX ?_ | exact wZ)
    refine call1 (leaf_c ⟨⟨3, num, text, names, items⟩, na, nc, ia, ic⟩ _) ?_
    (first | refine wX ?_ | exact wZ)
    refine brd_dec (fun hi => ?_) (fun hi => ?_)
    · (first | refine wX ?_ | exact wZ)
      exact out_bool (by
        have h0 : items ≠ [] := fun e => by rw [e] at hi; simp at hi
        unfold cellD
        rw [hrB]
        simp [h0])
    have hi0 : items = [] := List.eq_nil_of_length_eq_zero (by omega)
    (first | refine wX ?_ | exact wZ)
    refine brd_dec (fun hi => ?_) (fun hi => ?_)
    · (first | refine wX ?_ | exact wZ)
      exact out_bool (by
        have h0 : names ≠ [] := fun e => by rw [e] at hi; simp at hi
        unfold cellD
        rw [hrB]
        simp [h0])
    have hn0 : names = [] := List.eq_nil_of_length_eq_zero (by omega)
    (first | refine wX ?_ | exact wZ)
    -- the text is empty, or not
    rw [bs_list]
    cases ht : text == ([] : List UInt8) with
    | false =>
      have ht0 : text ≠ [] := fun e => by rw [e] at ht; cases ht
      (first | refine wX ?_ | exact wZ)
      exact out_bool (by
        unfold cellD
        rw [hrB]
        simp [ht0])
    | true =>
    have ht0 : text = [] := eq_of_beq ht
    (first | refine wX ?_ | exact wZ)
    refine brd_dec (fun hm1 => ?_) (fun hm1 => ?_)
    · (first | refine wX ?_ | exact wZ)
      exact out_bool (by
        rw [Bool.eq_iff_iff]
        unfold cellD
        rw [hrB]
        have hmm : -Go.Core.maxI ≤ num := hm1
        simp [hi0, hn0, ht0, hmm]
        exact Iff.rfl)
    · (first | refine wX ?_ | exact wZ)
      exact out_bool (by
        have : ¬ (-Go.Core.maxI ≤ num) := hm1
        unfold cellD
        rw [hrB]
        simp [this])
  · -- 4: the kind
    (first | refine wX ?_ | exact wZ)
    refine call1 (leaf_c ⟨⟨4, num, text, names, items⟩, na, nc, ia, ic⟩ _) ?_
    (first | refine wX ?_ | exact wZ)
    refine brd_dec (fun hi => ?_) (fun hi => ?_)
    · (first | refine wX ?_ | exact wZ)
      exact out_bool (by
        have h0 : items ≠ [] := fun e => by rw [e] at hi; simp at hi
        unfold cellD
        rw [hrB]
        simp [h0])
    have hi0 : items = [] := List.eq_nil_of_length_eq_zero (by omega)
    (first | refine wX ?_ | exact wZ)
    refine brd_dec (fun hi => ?_) (fun hi => ?_)
    · (first | refine wX ?_ | exact wZ)
      exact out_bool (by
        have h0 : names ≠ [] := fun e => by rw [e] at hi; simp at hi
        unfold cellD
        rw [hrB]
        simp [h0])
    have hn0 : names = [] := List.eq_nil_of_length_eq_zero (by omega)
    (first | refine wX ?_ | exact wZ)
    refine brd_ne (fun hu => ?_) (fun hu => ?_)
    · (first | refine wX ?_ | exact wZ)
      exact out_bool (by
        unfold cellD
        rw [hrB]
        simp [hu])
    (first | refine wX ?_ | exact wZ)
    exact out_bool (by
      rw [bs_size, Bool.eq_iff_iff]
      unfold cellD
      rw [hrB]
      simp [hi0, hn0, hu]
      try omega)
  · -- 5: the kind
    (first | refine wX ?_ | exact wZ)
    refine call1 (leaf_c ⟨⟨5, num, text, names, items⟩, na, nc, ia, ic⟩ _) ?_
    (first | refine wX ?_ | exact wZ)
    refine brd_dec (fun hi => ?_) (fun hi => ?_)
    · (first | refine wX ?_ | exact wZ)
      exact out_bool (by
        have h0 : items ≠ [] := fun e => by rw [e] at hi; simp at hi
        unfold cellD
        rw [hrB]
        simp [h0])
    have hi0 : items = [] := List.eq_nil_of_length_eq_zero (by omega)
    (first | refine wX ?_ | exact wZ)
    refine brd_dec (fun hi => ?_) (fun hi => ?_)
    · (first | refine wX ?_ | exact wZ)
      exact out_bool (by
        have h0 : names ≠ [] := fun e => by rw [e] at hi; simp at hi
        unfold cellD
        rw [hrB]
        simp [h0])
    have hn0 : names = [] := List.eq_nil_of_length_eq_zero (by omega)
    (first | refine wX ?_ | exact wZ)
    refine brd_ne (fun hu => ?_) (fun hu => ?_)
    · (first | refine wX ?_ | exact wZ)
      exact out_bool (by
        unfold cellD
        rw [hrB]
        simp [hu])
    (first | refine wX ?_ | exact wZ)
    exact out_bool (by
      rw [bs_size, Bool.eq_iff_iff]
      unfold cellD
      rw [hrB]
      simp [hi0, hn0, hu]
      try omega)
  · -- 6: the kind
    (first | refine wX ?_ | exact wZ)
    refine call1 (leaf_c ⟨⟨6, num, text, names, items⟩, na, nc, ia, ic⟩ _) ?_
    (first | refine wX ?_ | exact wZ)
    refine brd_dec (fun hi => ?_) (fun hi => ?_)
    · (first | refine wX ?_ | exact wZ)
      exact out_bool (by
        have h0 : names ≠ [] := fun e => by rw [e] at hi; simp at hi
        unfold cellD
        rw [hrB]
        simp [h0])
    have hn0 : names = [] := List.eq_nil_of_length_eq_zero (by omega)
    (first | refine wX ?_ | exact wZ)
    refine brd_ne (fun hu => ?_) (fun hu => ?_)
    · (first | refine wX ?_ | exact wZ)
      exact out_bool (by
        unfold cellD
        rw [hrB]
        simp [hu])
    (first | refine wX ?_ | exact wZ)
    -- : what is known of items
    exact out_bool (by
      rw [bs_list, Bool.eq_iff_iff]
      unfold cellD
      rw [hrB]
      simp [hn0, hu])
  · -- 7: the kind
    (first | refine wX ?_ | exact wZ)
    refine call1 (leaf_c ⟨⟨7, num, text, names, items⟩, na, nc, ia, ic⟩ _) ?_
    (first | refine wX ?_ | exact wZ)
    refine brd_dec (fun hi => ?_) (fun hi => ?_)
    · (first | refine wX ?_ | exact wZ)
      exact out_bool (by
        have h0 : names ≠ [] := fun e => by rw [e] at hi; simp at hi
        unfold cellD
        rw [hrB]
        simp [h0])
    have hn0 : names = [] := List.eq_nil_of_length_eq_zero (by omega)
    (first | refine wX ?_ | exact wZ)
    refine brd_ne (fun hu => ?_) (fun hu => ?_)
    · (first | refine wX ?_ | exact wZ)
      exact out_bool (by
        unfold cellD
        rw [hrB]
        simp [hu])
    (first | refine wX ?_ | exact wZ)
    -- the text is empty, or not
    rw [bs_list]
    cases ht : text == ([] : List UInt8) with
    | false =>
      have ht0 : text ≠ [] := fun e => by rw [e] at ht; cases ht
      (first | refine wX ?_ | exact wZ)
      exact out_bool (by
        unfold cellD
        rw [hrB]
        simp [ht0])
    | true =>
    have ht0 : text = [] := eq_of_beq ht
    (first | refine wX ?_ | exact wZ)
    exact out_bool (by
      rw [Bool.eq_iff_iff]
      unfold cellD
      rw [hrB]
      simp [hn0, hu, ht0]
      rw [Int.tmod_eq_emod_of_nonneg (by omega)]
      omega)
  · -- 8: the kind
    (first | refine wX ?_ | exact wZ)
    refine call1 (leaf_c ⟨⟨8, num, text, names, items⟩, na, nc, ia, ic⟩ _) ?_
    (first | refine wX ?_ | exact wZ)
    refine brd_ne (fun hu => ?_) (fun hu => ?_)
    · (first | refine wX ?_ | exact wZ)
      exact out_bool (by
        unfold cellD
        rw [hrB]
        simp [hu])
    (first | refine wX ?_ | exact wZ)
    refine call1 (dConst_c text htl _) ?_
    cases hcn : constD text with
    | false =>
      (first | refine wX ?_ | exact wZ)
      exact out_bool (by
        unfold cellD
        rw [hrB, hcn]
        simp)
    | true =>
    (first | refine wX ?_ | exact wZ)
    refine brd_ne (fun hln => ?_) (fun hln => ?_)
    · (first | refine wX ?_ | exact wZ)
      exact out_bool (by
        have : ¬ names.length = items.length := by omega
        unfold cellD
        rw [hrB, hcn]
        simp [this])
    (first | refine wX ?_ | exact wZ)
    refine loopS Nat (fun i => i ≤ names.length ∧ ∀ j, j < i → (ivarD (names.getD j []) && !decide (names.getD j [] ∈ names.take j)) = true) (fun i => mkS Tryz.f43.ntmps 0 [(0, .c (.v (.slice a n ca))), (3, .c (.lp 1 0)), (6, .c (.v (.int .i64 (i : Int))))]) (fun i => names.length - i) rfl (fun _ => rfl) 0 ⟨Nat.zero_le _, fun _ h => by omega⟩ ?_ ?_
    · (repeat' (first | exact trivial | refine And.intro (by with_reducible rfl) ?_ | (with_reducible exact wkC_refl _) | (with_reducible exact wkCs_refl _) | refine And.intro ?_ ?_))
      all_goals rfl
    intro i ⟨hi, hj⟩
    (first | refine wX ?_ | exact wZ)
    refine brd_dec (fun h1 => ?_) (fun h1 => ?_)
    · obtain ⟨x, hx⟩ : ∃ x, names[i]? = some x := ⟨_, List.getElem?_eq_getElem (by omega)⟩
      have hxm := List.mem_of_getElem? hx
      have hsa : na.isSome = true := by
        cases na with
        | none => rw [hna rfl] at hx; cases hx
        | some b => rfl
      have hxd : names.getD i [] = x := by rw [List.getD_eq_getElem?_getD, hx]; rfl
      have hbad : (ivarD x && !decide (x ∈ names.take i)) = false → false = cellD n ⟨8, num, text, names, items⟩ := fun h => by
        cases hcd : cellD n ⟨8, num, text, names, items⟩ with
        | false => rfl
        | true =>
          unfold cellD at hcd
          simp only [show ¬ (8 : Int) = 3 by decide, show ¬ (8 : Int) = 4 by decide, show ¬ (8 : Int) = 5 by decide, show ¬ (8 : Int) = 7 by decide, if_false, if_true, Bool.and_eq_true] at hcd
          have := List.all_eq_true.1 hcd.2.2 i (List.mem_range.2 (by omega))
          rw [hxd, h] at this
          cases this
      (first | refine wX ?_ | exact wZ)
      refine Nd.mk ⟨hsa, by omega, by omega⟩ ?_
      (first | refine wX ?_ | exact wZ)
      refine LdN.one (.string (bs x)) rfl (fun w hw => hw.1.1) (by rw [Int.toNat_natCast]; show (strC names)[i * 1]? = _; rw [Nat.mul_one]; exact strC_get hx) ?_
      (first | refine wX ?_ | exact wZ)
      refine callQ (dIvar_c x (hnw x hxm) _) ?_
      cases hiv : ivarD x with
      | false =>
        (first | refine wX ?_ | exact wZ)
        exact out_bool (hbad (by rw [hiv]; rfl))
      | true =>
      (first | refine wX ?_ | exact wZ)
      refine ReadW.slc_hi rfl (by kernel_rfl) rfl rfl (by omega) ?_
      rw [Int.toNat_natCast]
      (first | refine wX ?_ | exact wZ)
      refine Nd.mk ⟨hsa, by omega, by omega⟩ ?_
      (first | refine wX ?_ | exact wZ)
      refine LdN.one (.string (bs x)) rfl (fun w hw => hw.1.1) (by rw [Int.toNat_natCast]; show (strC names)[i * 1]? = _; rw [Nat.mul_one]; exact strC_get hx) ?_
      (first | refine wX ?_ | exact wZ)
      have htk : (names.take i).length = i := by rw [List.length_take]; omega
      have hh := dHas_c na nc (names.take i) x (fun h => by rw [hna h]; simp) (by omega)
      rw [htk] at hh
      refine callQ (hh _ ?_) ?_
      · exact fun w hw => slat_take hw.1.1 (by omega)
      cases hmm : decide (x ∈ names.take i) with
      | true =>
        (first | refine wX ?_ | exact wZ)
        exact out_bool (hbad (by rw [hmm]; simp))
      | false =>
        (first | refine wX ?_ | exact wZ)
        refine ⟨i + 1, ⟨by omega, fun j hj2 => ?_⟩, by omega, ?_, by (repeat' (first | exact trivial | exact wkE_refl _ | refine And.intro ?_ ?_))⟩
        · by_cases e : j = i
          · subst e; rw [hxd, hiv, hmm]; rfl
          · exact hj j (by omega)
        · (repeat' (first | exact trivial | refine And.intro (by with_reducible rfl) ?_ | (with_reducible exact wkC_refl _) | (with_reducible exact wkCs_refl _) | refine And.intro ?_ ?_))
          all_goals first | rfl | exact av_int (by rw [wrap_i64 (by omega)]; omega)
    · have hin : i = names.length := by omega
      subst hin
      (first | refine wX ?_ | exact wZ)
      refine out_bool ?_
      unfold cellD
      rw [hrB, hcn, List.all_eq_true.2 fun j hj2 => hj j (List.mem_range.1 hj2)]
      simp [hu]
      omega
theorem cell_c (a : Option Addr) (ca n : Nat) (hn : n ≤ 200000000000000) (p : CellP) (hp : CellOk p) : ∀ H, (∀ w, Facts H w → CellF p w) → SpecH Tryz.prog 43 (pvs [.slice a n ca, cellV p]) H (Ret (.bool (cellD n p.c)) H) := by
  obtain ⟨⟨kind, num, text, names, items⟩, na, nc, ia, ic⟩ := p
  exact cell_c0 a ca n hn kind num text names items na nc ia ic hp.na hp.ia hp.nl hp.il hp.nw hp.tl hp.nb
end Go.Proofs.YtahjbnfbilkbcaaGreatDoor

/-
  Contract: whether two keys of a table are one (program).
-/
namespace Go.Core
def keyB (g : List Cell) (a b : Int) : Bool := decide (a = b) || oneKeyB (at_ g a) (at_ g b)
/-- Two keys of a table are one. -/
def Twice (g : List Cell) (it : List Int) : Prop := ∃ i k : Nat, k < i ∧ i < it.length ∧ i % 2 = 0 ∧ k % 2 = 0 ∧ keyB g (it.getD i 0) (it.getD k 0) = true
end Go.Core
namespace Go.Proofs.YtahjbnfbilkbcaaGreatDoor
open Go.AX Go.RowKit Go.Core
set_option maxRecDepth 20000

theorem at_map {l : List CellP} {i : Nat} {p : CellP} (h : l[i]? = some p) : at_ (l.map (·.c)) (i : Int) = p.c := by
  unfold at_
  rw [Int.toNat_natCast, List.getD_eq_getElem?_getD, List.getElem?_map, h]
  rfl
set_option maxHeartbeats 1000000 in
theorem twice_c (a : Option Addr) (c : Nat) (l : List CellP) (p : CellP) (ha : a = none → l = []) (hl : l.length ≤ 200000000000000) (hp : CellOk p) (hin : ∀ x ∈ p.c.items, 0 ≤ x ∧ x < (l.length : Int)) :
    ∀ H, (∀ w, Facts H w → GrF a l w ∧ CellF p w) → ∃ b : Bool, (b = true ↔ Twice (l.map (·.c)) p.c.items) ∧ SpecH Tryz.prog 48 (pvs [.slice a l.length c, cellV p]) H (Ret (.bool b) H) := by
  intro H hH
  obtain ⟨b, hb⟩ : ∃ b : Bool, b = true ↔ Twice (l.map (·.c)) p.c.items := by
    by_cases h : Twice (l.map (·.c)) p.c.items
    · exact ⟨true, fun _ => h, fun _ => rfl⟩
    · exact ⟨false, (fun h => by cases h), fun h2 => absurd h2 h⟩
  refine ⟨b, hb, ?_⟩
  have hil := hp.il
  refine factC hm Tryz.func48 (by kernel_rfl) rfl rfl ?_ H hH
  (first | refine wX ?_ | exact wZ)
  refine loopS Nat (fun i => i ≤ p.c.items.length + 1 ∧ i % 2 = 0 ∧ ∀ i' k, k < i' → i' < i → i' < p.c.items.length → i' % 2 = 0 → k % 2 = 0 → keyB (l.map (·.c)) (p.c.items.getD i' 0) (p.c.items.getD k 0) = false) (fun i => mkS Tryz.f48.ntmps 0 [(0, .c (.v (.slice a l.length c))), (3, .c (.lp 1 0)), (5, .c (.v (.int .i64 (i : Int))))]) (fun i => p.c.items.length + 2 - i) rfl (fun _ => rfl) 0 ⟨Nat.zero_le _, rfl, fun _ _ _ h => by omega⟩ ?_ ?_
  · (repeat' (first | exact trivial | refine And.intro (by with_reducible rfl) ?_ | (with_reducible exact wkC_refl _) | (with_reducible exact wkCs_refl _) | refine And.intro ?_ ?_))
    all_goals rfl
  intro i ⟨hi, hi2, hno⟩
  (first | refine wX ?_ | exact wZ)
  refine brd_dec (fun h1 => ?_) (fun h1 => ?_)
  · obtain ⟨x, hx⟩ : ∃ x, p.c.items[i]? = some x := ⟨_, List.getElem?_eq_getElem (by omega)⟩
    have hsi : p.ia.isSome = true := by
      cases hna : p.ia with
      | none => rw [hp.ia hna] at hx; cases hx
      | some b => rfl
    (first | refine wX ?_ | exact wZ)
    refine loopS Nat (fun k => k ≤ i + 1 ∧ k % 2 = 0 ∧ ∀ k', k' < k → k' < i → k' % 2 = 0 → keyB (l.map (·.c)) (p.c.items.getD i 0) (p.c.items.getD k' 0) = false) (fun k => mkS Tryz.f48.ntmps 0 [(0, .c (.v (.slice a l.length c))), (3, .c (.lp 1 0)), (5, .c (.v (.int .i64 (i : Int)))), (6, .c (.v (.int .i64 (k : Int))))]) (fun k => i + 2 - k) rfl (fun _ => rfl) 0 ⟨Nat.zero_le _, rfl, fun _ h => by omega⟩ ?_ ?_
    · (repeat' (first | exact trivial | refine And.intro (by with_reducible rfl) ?_ | (with_reducible exact wkC_refl _) | (with_reducible exact wkCs_refl _) | refine And.intro ?_ ?_))
      all_goals rfl
    intro k ⟨hk, hk2, hnk⟩
    (first | refine wX ?_ | exact wZ)
    refine brd_dec (fun h2 => ?_) (fun h2 => ?_)
    · obtain ⟨y, hy⟩ : ∃ y, p.c.items[k]? = some y := ⟨_, List.getElem?_eq_getElem (by omega)⟩
      obtain ⟨hx0, hx1⟩ := hin x (List.mem_of_getElem? hx)
      obtain ⟨hy0, hy1⟩ := hin y (List.mem_of_getElem? hy)
      obtain ⟨u, rfl⟩ : ∃ u : Nat, x = (u : Int) := ⟨x.toNat, by omega⟩
      obtain ⟨v, rfl⟩ : ∃ v : Nat, y = (v : Int) := ⟨y.toNat, by omega⟩
      obtain ⟨q, hq⟩ : ∃ q, l[u]? = some q := ⟨_, List.getElem?_eq_getElem (by omega)⟩
      obtain ⟨r, hr⟩ : ∃ r, l[v]? = some r := ⟨_, List.getElem?_eq_getElem (by omega)⟩
      have hke : keyB (l.map (·.c)) (p.c.items.getD i 0) (p.c.items.getD k 0) = (decide ((u : Int) = v) || oneKeyB q.c r.c) := by
        rw [List.getD_eq_getElem?_getD, List.getD_eq_getElem?_getD, hx, hy]
        show keyB _ (u : Int) (v : Int) = _
        unfold keyB
        rw [at_map hq, at_map hr]
      (first | refine wX ?_ | exact wZ)
      refine Nd.mk ⟨hsi, by omega, by omega⟩ ?_
      (first | refine wX ?_ | exact wZ)
      refine LdN.one (.int .i64 (u : Int)) rfl (fun w hw => hw.1.2.2) (by rw [Int.toNat_natCast]; show (iC p.c.items)[i * 1]? = _; rw [Nat.mul_one]; exact iC_get hx) ?_
      (first | refine wX ?_ | exact wZ)
      refine Nd.mk ⟨hsi, by omega, by omega⟩ ?_
      (first | refine wX ?_ | exact wZ)
      refine LdN.one (.int .i64 (v : Int)) rfl (fun w hw => hw.1.2.2) (by rw [Int.toNat_natCast]; show (iC p.c.items)[k * 1]? = _; rw [Nat.mul_one]; exact iC_get hy) ?_
      (first | refine wX ?_ | exact wZ)
      have hok := oneKey_c a c l u v q r hq hr ha hl
      rw [← hke] at hok
      refine callQ (hok _ ?_) ?_
      · exact fun w hw => hw.1.1
      cases hkb : keyB (l.map (·.c)) (p.c.items.getD i 0) (p.c.items.getD k 0) with
      | true =>
        (first | refine wX ?_ | exact wZ)
        exact out_bool ((hb.2 ⟨i, k, by omega, by omega, hi2, hk2, hkb⟩).symm)
      | false =>
        (first | refine wX ?_ | exact wZ)
        refine ⟨k + 2, ⟨by omega, by omega, fun k' h3 h4 h5 => ?_⟩, by omega, ?_, by (repeat' (first | exact trivial | exact wkE_refl _ | refine And.intro ?_ ?_))⟩
        · by_cases e : k' = k
          · subst e; exact hkb
          · exact hnk k' (by omega) h4 h5
        · (repeat' (first | exact trivial | refine And.intro (by with_reducible rfl) ?_ | (with_reducible exact wkC_refl _) | (with_reducible exact wkCs_refl _) | refine And.intro ?_ ?_))
          all_goals first | rfl | exact av_int (by rw [wrap_i64 (by omega)]; omega)
    · (first | refine wX ?_ | exact wZ)
      refine ⟨i + 2, ⟨by omega, by omega, fun i' k' h3 h4 h5 h6 h7 => ?_⟩, by omega, ?_, by (repeat' (first | exact trivial | exact wkE_refl _ | refine And.intro ?_ ?_))⟩
      · by_cases e : i' = i
        · subst e; exact hnk k' (by omega) h3 h7
        · exact hno i' k' h3 (by omega) h5 h6 h7
      · (repeat' (first | exact trivial | refine And.intro (by with_reducible rfl) ?_ | (with_reducible exact wkC_refl _) | (with_reducible exact wkCs_refl _) | refine And.intro ?_ ?_))
        all_goals first | rfl | exact av_int (by rw [wrap_i64 (by omega)]; omega)
  · (first | refine wX ?_ | exact wZ)
    refine out_bool ?_
    cases b with
    | false => rfl
    | true =>
      obtain ⟨i', k, h2, h3, h4, h5, h6⟩ := hb.1 rfl
      rw [hno i' k h2 (by omega) h3 h4 h5] at h6
      cases h6
end Go.Proofs.YtahjbnfbilkbcaaGreatDoor

/-
  Contract: whether a graph is valid (document).
-/
namespace Go.Core
def ValidP (g : List Cell) : Prop := g.length ≤ 500 ∧ (∀ c ∈ g, cellD g.length c = true) ∧ ∀ c ∈ g, c.kind = 7 → ¬ Twice g c.items
theorem cellD_in {n : Nat} {c : Cell} (h : cellD n c = true) : ∀ x ∈ c.items, 0 ≤ x ∧ x < (n : Int) := by
  unfold cellD at h
  simp only [Bool.and_eq_true] at h
  intro x hx
  have := List.all_eq_true.1 h.1.1 x hx
  simpa using this
end Go.Core
namespace Go.Proofs.YtahjbnfbilkbcaaGreatDoor
open Go.AX Go.RowKit Go.Core Go.Scan
set_option maxRecDepth 20000

set_option maxHeartbeats 4000000 in
theorem Valid_c (a : Option Addr) (ca : Nat) (l : List CellP) (ha : a = none → l = []) (hl : l.length ≤ 200000000000000) (hok : ∀ p ∈ l, CellOk p) :
    ∀ H, (∀ w, Facts H w → GrF a l w) → ∃ b : Bool, (b = true ↔ ValidP (l.map (·.c))) ∧ SpecH Tryz.prog 17 (pvs [.slice a l.length ca]) H (Ret (.bool b) H) := by
  intro H hH
  obtain ⟨b, hb⟩ : ∃ b : Bool, b = true ↔ ValidP (l.map (·.c)) := by
    by_cases h : ValidP (l.map (·.c))
    · exact ⟨true, fun _ => h, fun _ => rfl⟩
    · exact ⟨false, (fun h => by cases h), fun h2 => absurd h2 h⟩
  refine ⟨b, hb, ?_⟩
  have hml : (l.map (·.c)).length = l.length := by simp
  have hno : ¬ ValidP (l.map (·.c)) → false = b := fun h => by
    cases b with
    | false => rfl
    | true => exact absurd (hb.1 rfl) h
  refine factC hm Tryz.func17 (by kernel_rfl) rfl rfl ?_ H hH
  (first | refine wX ?_ | exact wZ)
  refine brd_dec (fun h0 => ?_) (fun h0 => ?_)
  · (first | refine wX ?_ | exact wZ)
    exact out_bool (hno fun h => by have := h.1; omega)
  (first | refine wX ?_ | exact wZ)
  refine loopS Nat (fun i => i ≤ l.length ∧ ∀ p ∈ l.take i, cellD l.length p.c = true) (fun i => mkS Tryz.f17.ntmps 0 [(0, .c (.v (.slice a l.length ca))), (3, .c (.v (.int .i64 (i : Int))))]) (fun i => l.length - i) rfl (fun _ => rfl) 0 ⟨Nat.zero_le _, by simp⟩ ?_ ?_
  · (repeat' (first | exact trivial | refine And.intro (by with_reducible rfl) ?_ | (with_reducible exact wkC_refl _) | (with_reducible exact wkCs_refl _) | refine And.intro ?_ ?_))
    all_goals rfl
  intro i ⟨hi, hc⟩
  (first | refine wX ?_ | exact wZ)
  refine brd_dec (fun h1 => ?_) (fun h1 => ?_)
  · obtain ⟨p, hp⟩ : ∃ p, l[i]? = some p := ⟨_, List.getElem?_eq_getElem (by omega)⟩
    have hpm := List.mem_of_getElem? hp
    have hsa : a.isSome = true := by
      cases a with
      | none => rw [ha rfl] at hp; cases hp
      | some b => rfl
    (first | refine wX ?_ | exact wZ)
    refine Nd.mk ⟨hsa, by omega, by omega⟩ ?_
    (first | refine wX ?_ | exact wZ)
    refine LdN.agg (cellC p) rfl (fun w hw => hw.1.1) rfl (fun k hk => by rw [Int.toNat_natCast]; exact grC_get l i k hk hp) ?_
    (first | refine wX ?_ | exact wZ)
    refine call1 (cell_c a ca l.length hl p (hok p hpm) _ (fun w hw => hw.1.2 p hpm)) ?_
    cases hcd : cellD l.length p.c with
    | false =>
      (first | refine wX ?_ | exact wZ)
      exact out_bool (hno fun h => by
        have := h.2.1 p.c (List.mem_map.2 ⟨p, hpm, rfl⟩)
        rw [hml, hcd] at this
        cases this)
    | true =>
      (first | refine wX ?_ | exact wZ)
      refine ⟨i + 1, ⟨by omega, all_step hc hp hcd⟩, by omega, ?_, by (repeat' (first | exact trivial | exact wkE_refl _ | refine And.intro ?_ ?_))⟩
      (repeat' (first | exact trivial | refine And.intro (by with_reducible rfl) ?_ | (with_reducible exact wkC_refl _) | (with_reducible exact wkCs_refl _) | refine And.intro ?_ ?_))
      all_goals first | rfl | exact av_int (by rw [wrap_i64 (by omega)]; omega)
  have hil : i = l.length := by omega
  subst hil
  rw [List.take_length] at hc
  clear h1
  (first | refine wX ?_ | exact wZ)
  refine loopS Nat (fun i => i ≤ l.length ∧ ∀ p ∈ l.take i, p.c.kind = 7 → ¬ Twice (l.map (·.c)) p.c.items) (fun i => mkS Tryz.f17.ntmps 0 [(0, .c (.v (.slice a l.length ca))), (4, .c (.v (.int .i64 (i : Int))))]) (fun i => l.length - i) rfl (fun _ => rfl) 0 ⟨Nat.zero_le _, by simp⟩ ?_ ?_
  · (repeat' (first | exact trivial | refine And.intro (by with_reducible rfl) ?_ | (with_reducible exact wkC_refl _) | (with_reducible exact wkCs_refl _) | refine And.intro ?_ ?_))
    all_goals rfl
  intro i ⟨hi, ht⟩
  (first | refine wX ?_ | exact wZ)
  refine brd_dec (fun h1 => ?_) (fun h1 => ?_)
  · obtain ⟨p, hp⟩ : ∃ p, l[i]? = some p := ⟨_, List.getElem?_eq_getElem (by omega)⟩
    have hpm := List.mem_of_getElem? hp
    have hpo := hok p hpm
    have hpil := hpo.il
    have hsa : a.isSome = true := by
      cases a with
      | none => rw [ha rfl] at hp; cases hp
      | some b => rfl
    (first | refine wX ?_ | exact wZ)
    refine Nd.mk ⟨hsa, by omega, by omega⟩ ?_
    (first | refine wX ?_ | exact wZ)
    refine LdN.fld (.int .i64 p.c.kind) rfl (fun w hw => hw.1.1) (by rw [Int.toNat_natCast]; exact grC_get l i 0 (by decide) hp) ?_
    (first | refine wX ?_ | exact wZ)
    refine brd_ne (fun h7 => ?_) (fun h7 => ?_)
    · (first | refine wX ?_ | exact wZ)
      refine ⟨i + 1, ⟨by omega, all_step ht hp (fun h => absurd h h7)⟩, by omega, ?_, by (repeat' (first | exact trivial | exact wkE_refl _ | refine And.intro ?_ ?_))⟩
      (repeat' (first | exact trivial | refine And.intro (by with_reducible rfl) ?_ | (with_reducible exact wkC_refl _) | (with_reducible exact wkCs_refl _) | refine And.intro ?_ ?_))
      all_goals first | rfl | exact av_int (by rw [wrap_i64 (by omega)]; omega)
    (first | refine wX ?_ | exact wZ)
    refine Nd.mk ⟨hsa, by omega, by omega⟩ ?_
    (first | refine wX ?_ | exact wZ)
    refine LdN.fld (.slice p.ia p.c.items.length p.ic) rfl (fun w hw => hw.1.1) (by rw [Int.toNat_natCast]; exact grC_get l i 4 (by decide) hp) ?_
    (first | refine wX ?_ | exact wZ)
    have hin := cellD_in (hc p hpm)
    refine loopS Nat (fun u => u ≤ p.c.items.length + 1 ∧ u % 2 = 0 ∧ ∀ i' k, k < i' → i' < u → i' < p.c.items.length → i' % 2 = 0 → k % 2 = 0 → keyB (l.map (·.c)) (p.c.items.getD i' 0) (p.c.items.getD k 0) = false) (fun u => mkS Tryz.f17.ntmps 0 [(0, .c (.v (.slice a l.length ca))), (4, .c (.v (.int .i64 (i : Int)))), (5, .c (.v (.slice p.ia p.c.items.length p.ic))), (6, .c (.v (.int .i64 (u : Int))))]) (fun u => p.c.items.length + 2 - u) rfl (fun _ => rfl) 0 ⟨Nat.zero_le _, rfl, fun _ _ _ h => by omega⟩ ?_ ?_
    · (repeat' (first | exact trivial | refine And.intro (by with_reducible rfl) ?_ | (with_reducible exact wkC_refl _) | (with_reducible exact wkCs_refl _) | refine And.intro ?_ ?_))
      all_goals rfl
    intro u ⟨hu, hu2, hno2⟩
    (first | refine wX ?_ | exact wZ)
    refine brd_dec (fun h2 => ?_) (fun h2 => ?_)
    · obtain ⟨x, hx⟩ : ∃ x, p.c.items[u]? = some x := ⟨_, List.getElem?_eq_getElem (by omega)⟩
      have hsi : p.ia.isSome = true := by
        cases hna : p.ia with
        | none => rw [hpo.ia hna] at hx; cases hx
        | some b => rfl
      (first | refine wX ?_ | exact wZ)
      refine loopS Nat (fun k => k ≤ u + 1 ∧ k % 2 = 0 ∧ ∀ k', k' < k → k' < u → k' % 2 = 0 → keyB (l.map (·.c)) (p.c.items.getD u 0) (p.c.items.getD k' 0) = false) (fun k => mkS Tryz.f17.ntmps 0 [(0, .c (.v (.slice a l.length ca))), (4, .c (.v (.int .i64 (i : Int)))), (5, .c (.v (.slice p.ia p.c.items.length p.ic))), (6, .c (.v (.int .i64 (u : Int)))), (7, .c (.v (.int .i64 (k : Int))))]) (fun k => u + 2 - k) rfl (fun _ => rfl) 0 ⟨Nat.zero_le _, rfl, fun _ h => by omega⟩ ?_ ?_
      · (repeat' (first | exact trivial | refine And.intro (by with_reducible rfl) ?_ | (with_reducible exact wkC_refl _) | (with_reducible exact wkCs_refl _) | refine And.intro ?_ ?_))
        all_goals rfl
      intro k ⟨hk, hk2, hnk⟩
      (first | refine wX ?_ | exact wZ)
      refine brd_dec (fun h3 => ?_) (fun h3 => ?_)
      · obtain ⟨y, hy⟩ : ∃ y, p.c.items[k]? = some y := ⟨_, List.getElem?_eq_getElem (by omega)⟩
        obtain ⟨hx0, hx1⟩ := hin x (List.mem_of_getElem? hx)
        obtain ⟨hy0, hy1⟩ := hin y (List.mem_of_getElem? hy)
        obtain ⟨xn, rfl⟩ : ∃ xn : Nat, x = (xn : Int) := ⟨x.toNat, by omega⟩
        obtain ⟨yn, rfl⟩ : ∃ yn : Nat, y = (yn : Int) := ⟨y.toNat, by omega⟩
        obtain ⟨q, hq⟩ : ∃ q, l[xn]? = some q := ⟨_, List.getElem?_eq_getElem (by omega)⟩
        obtain ⟨r, hr⟩ : ∃ r, l[yn]? = some r := ⟨_, List.getElem?_eq_getElem (by omega)⟩
        have hke : keyB (l.map (·.c)) (p.c.items.getD u 0) (p.c.items.getD k 0) = (decide ((xn : Int) = yn) || oneKeyB q.c r.c) := by
          rw [List.getD_eq_getElem?_getD, List.getD_eq_getElem?_getD, hx, hy]
          show keyB _ (xn : Int) (yn : Int) = _
          unfold keyB
          rw [at_map hq, at_map hr]
        (first | refine wX ?_ | exact wZ)
        -- an item of the table; u: its place, xn: its value
        refine Nd.mk ⟨hsi, by omega, by omega⟩ ?_
        (first | refine wX ?_ | exact wZ)
        refine LdN.one (.int .i64 (xn : Int)) rfl (fun w hw => (hw.1.2 p hpm).2) (by rw [Int.toNat_natCast]; show (iC p.c.items)[u * 1]? = _; rw [Nat.mul_one]; exact iC_get (by assumption)) ?_
        (first | refine wX ?_ | exact wZ)
        -- an item of the table; k: its place, yn: its value
        refine Nd.mk ⟨hsi, by omega, by omega⟩ ?_
        (first | refine wX ?_ | exact wZ)
        refine LdN.one (.int .i64 (yn : Int)) rfl (fun w hw => (hw.1.2 p hpm).2) (by rw [Int.toNat_natCast]; show (iC p.c.items)[k * 1]? = _; rw [Nat.mul_one]; exact iC_get (by assumption)) ?_
        (first | refine wX ?_ | exact wZ)
        have hoc := okey_c a ca l xn yn q r hq hr ha hl
        rw [← hke] at hoc
        refine callQ (hoc _ ?_) ?_
        · exact fun w hw => hw.1
        cases hkb : keyB (l.map (·.c)) (p.c.items.getD u 0) (p.c.items.getD k 0) with
        | true =>
          (first | refine wX ?_ | exact wZ)
          exact out_bool (hno fun h => h.2.2 p.c (List.mem_map.2 ⟨p, hpm, rfl⟩) h7 ⟨u, k, by omega, by omega, hu2, hk2, hkb⟩)
        | false =>
          (first | refine wX ?_ | exact wZ)
          refine ⟨k + 2, ⟨by omega, by omega, fun k' h4 h5 h6 => ?_⟩, by omega, ?_, by (repeat' (first | exact trivial | exact wkE_refl _ | refine And.intro ?_ ?_))⟩
          · by_cases e : k' = k
            · subst e; exact hkb
            · exact hnk k' (by omega) h5 h6
          · (repeat' (first | exact trivial | refine And.intro (by with_reducible rfl) ?_ | (with_reducible exact wkC_refl _) | (with_reducible exact wkCs_refl _) | refine And.intro ?_ ?_))
            all_goals first | rfl | exact av_int (by rw [wrap_i64 (by omega)]; omega)
      · (first | refine wX ?_ | exact wZ)
        refine ⟨u + 2, ⟨by omega, by omega, fun i' k' g3 g4 g5 g6 g8 => ?_⟩, by omega, ?_, by (repeat' (first | exact trivial | exact wkE_refl _ | refine And.intro ?_ ?_))⟩
        · by_cases e : i' = u
          · subst e; exact hnk k' (by omega) g3 g8
          · exact hno2 i' k' g3 (by omega) g5 g6 g8
        · (repeat' (first | exact trivial | refine And.intro (by with_reducible rfl) ?_ | (with_reducible exact wkC_refl _) | (with_reducible exact wkCs_refl _) | refine And.intro ?_ ?_))
          all_goals first | rfl | exact av_int (by rw [wrap_i64 (by omega)]; omega)
    · (first | refine wX ?_ | exact wZ)
      refine ⟨i + 1, ⟨by omega, all_step ht hp (fun _ ⟨i', k, h3, h4, h5, h6, h8⟩ => by rw [hno2 i' k h3 (by omega) h4 h5 h6] at h8; cases h8)⟩, by omega, ?_, by (repeat' (first | exact trivial | exact wkE_refl _ | refine And.intro ?_ ?_))⟩
      (repeat' (first | exact trivial | refine And.intro (by with_reducible rfl) ?_ | (with_reducible exact wkC_refl _) | (with_reducible exact wkCs_refl _) | refine And.intro ?_ ?_))
      all_goals first | rfl | exact av_int (by rw [wrap_i64 (by omega)]; omega)
  · have hil : i = l.length := by omega
    subst hil
    rw [List.take_length] at ht
    (first | refine wX ?_ | exact wZ)
    refine out_bool (hb.2 ⟨by omega, fun c hcm => ?_, fun c hcm => ?_⟩).symm
    · obtain ⟨p, hp, rfl⟩ := List.mem_map.1 hcm
      rw [hml]
      exact hc p hp
    · obtain ⟨p, hp, rfl⟩ := List.mem_map.1 hcm
      exact ht p hp
end Go.Proofs.YtahjbnfbilkbcaaGreatDoor

/-
  Contract: the graphs that numbers make (law).
-/
namespace Go.Proofs.YtahjbnfbilkbcaaGreatDoor
open Go.AX Go.RowKit Go.Core
set_option maxRecDepth 20000

/-- A cell that numbers make. -/
structure GrwC (n : Nat) (p : CellP) : Prop where
  ok : CellOk p
  it : ∀ y ∈ p.c.items, 0 ≤ y
  il : p.c.items.length ≤ 4
  nl : p.c.names.length ≤ 2
theorem grw_plain (n : Nat) (k nu : Int) (t : List UInt8) (ht : t.length ≤ 2) : GrwC n ⟨⟨k, nu, t, [], []⟩, none, 0, none, 0⟩ :=
  ⟨⟨fun _ => rfl, fun _ => rfl, Nat.zero_le _, Nat.zero_le _, (fun s h => (by cases h)), (by show t.length ≤ _; omega), Nat.le_refl _, Nat.le_refl _⟩, (fun y h => (by cases h)), Nat.zero_le _, Nat.zero_le _⟩
theorem grw_item (x : Int) (k d e n : Nat) (hx : 0 ≤ x ∧ x ≤ 2049638230412172402) (hk : k ≤ 3) (hd : 1 ≤ d) (he : e ≤ 10) : 0 ≤ (IntKind.i64.wrap (IntKind.u64.wrap (IntKind.u64.wrap (x.tdiv (d : Int)) + IntKind.u64.wrap (IntKind.u64.wrap (k : Int) * (e : Int))))).tmod (n : Int) := by
  have h1 : 0 ≤ x.tdiv (d : Int) ∧ x.tdiv (d : Int) ≤ x := by
    rw [Int.tdiv_eq_ediv_of_nonneg hx.1]
    exact ⟨Int.ediv_nonneg hx.1 (by omega), Int.ediv_le_self _ hx.1⟩
  have h2 : 0 ≤ (k : Int) * (e : Int) ∧ (k : Int) * (e : Int) ≤ 30 := by
    have := Nat.mul_le_mul hk he
    rw [← Int.natCast_mul]
    omega
  rw [wrap_u64 (x := x.tdiv (d : Int)) (by omega), wrap_u64 (x := (k : Int)) (by omega), wrap_u64 (x := (k : Int) * (e : Int)) (by omega), wrap_u64 (by omega), wrap_i64 (by omega)]
  exact Int.tmod_nonneg _ (by omega)
/-- A cell with other items. -/
def setI (p : CellP) (its : List Int) (ia : Option Addr) (ic : Nat) : CellP := ⟨{ p.c with items := its }, p.na, p.nc, ia, ic⟩
theorem grC_set : ∀ {m : List CellP} {j : Nat} {p : CellP} (its : List Int) (ia : Option Addr) (ic : Nat), m[j]? = some p → (grC m).set (j * 5 + 4) (.slice ia its.length ic) = grC (m.set j (setI p its ia ic))
  | [], _, _, _, _, _, h => by cases h
  | q :: m, 0, p, its, ia, ic, h => by
    obtain rfl := Option.some.inj h
    rfl
  | q :: m, j + 1, p, its, ia, ic, h => by
    have ih := grC_set its ia ic (show m[j]? = some p from h)
    have e : ∀ q : CellP, grC (q :: m) = cellC q ++ grC m := fun q => by unfold grC; rw [List.flatMap_cons]
    rw [e, List.set_cons_succ, show (j + 1) * 5 + 4 = (j * 5 + 4) + 5 by omega]
    have e2 : grC (q :: m.set j (setI p its ia ic)) = cellC q ++ grC (m.set j (setI p its ia ic)) := by unfold grC; rw [List.flatMap_cons]
    rw [e2, ← ih]
    rfl
theorem SlAt.take {a : Option Addr} {k j : Nat} {xs : List Value} {w : World} (h : SlAt a k xs w) (hj : j ≤ k) : SlAt a j (xs.take j) w :=
  ⟨by rw [List.length_take, h.1]; omega, fun h0 => h.2.1 (by omega), fun i hi => by rw [h.2.2 i (by omega), List.getElem?_take_of_lt hi]⟩
theorem grw_set {n : Nat} {m : List CellP} (h : ∀ p ∈ m, GrwC n p) {j : Nat} {p : CellP} (hp : p ∈ m) {its : List Int} (b ic : Nat) (h0 : ∀ y ∈ its, 0 ≤ y) (hl : its.length ≤ 4) (hc : its.length ≤ ic) : ∀ q ∈ m.set j (setI p its (some ⟨b, 0, none⟩) ic), GrwC n q := fun q hq => by
  rcases List.mem_or_eq_of_mem_set hq with hq | rfl
  · exact h q hq
  · have g := h p hp
    exact ⟨⟨g.ok.na, (fun h => by cases h), g.ok.nl, (by show its.length ≤ _; omega), g.ok.nw, g.ok.tl, g.ok.nb, hc⟩, h0, hl, g.nl⟩
theorem grw_small {n : Nat} {m : List CellP} (h : ∀ p ∈ m, GrwC n p) (hl : m.length ≤ 12) : Small m :=
  ⟨by omega, fun p hp => ⟨by have := (h p hp).nl; omega, by have := (h p hp).il; omega⟩⟩
theorem Valid_b (a : Option Addr) (ca : Nat) (l : List CellP) (ha : a = none → l = []) (hl : l.length ≤ 200000000000000) (hok : ∀ p ∈ l, CellOk p) :
    ∃ b : Bool, (b = true ↔ ValidP (l.map (·.c))) ∧ ∀ H, (∀ w, Facts H w → GrF a l w) → SpecH Tryz.prog 17 (pvs [.slice a l.length ca]) H (Ret (.bool b) H) := by
  obtain ⟨b, hb⟩ : ∃ b : Bool, b = true ↔ ValidP (l.map (·.c)) := by
    by_cases h : ValidP (l.map (·.c))
    · exact ⟨true, fun _ => h, fun _ => rfl⟩
    · exact ⟨false, (fun h => by cases h), fun h2 => absurd h2 h⟩
  refine ⟨b, hb, fun H hH => ?_⟩
  obtain ⟨b2, hb2, h⟩ := Valid_c a ca l ha hl hok H hH
  obtain rfl : b2 = b := by rw [Bool.eq_iff_iff, hb, hb2]
  exact h
theorem set_rows {m : List CellP} {j : Nat} {p : CellP} (hp : p ∈ m) {its : List Int} {ia : Option Addr} {ic : Nat} {w : World} (h : ∀ q ∈ m, CellF q w) (hi : SlAt ia (its.length * 1) (iC its) w) : ∀ q ∈ m.set j (setI p its ia ic), CellF q w := fun q hq => by
  rcases List.mem_or_eq_of_mem_set hq with hq | rfl
  · exact h q hq
  · exact ⟨(h p hp).1, hi⟩
/-- A graph that numbers make. -/
def GrwR (v : Value) (G : World → Prop) : Prop := ∃ (oa : Option Addr) (oc : Nat) (m : List CellP), v = .slice oa m.length oc ∧ (oa = none → m = []) ∧ (∀ p ∈ m, CellOk p) ∧ Small m ∧ (m = [] ∨ ValidP (m.map (·.c))) ∧ ∀ w, G w → GrF oa m w
structure GSt where
  i : Nat
  ob : Option Nat
  oc : Nat
  m : List CellP
set_option maxHeartbeats 4000000 in
theorem Grown_c (a : Option Addr) (ca : Nat) (L : List Int) (ha : a = none → L = []) (hl : L.length ≤ 200000000000000) : SpecF Tryz.prog 22 [.slice a L.length ca] (fun w => SlAt a (L.length * 1) (iC L) w) GrwR := by
  refine specF hm Tryz.func22 (by kernel_rfl) rfl rfl ?_
  (first | refine wX ?_ | exact wZ)
  obtain ⟨n, hn⟩ : ∃ n, n = min L.length 12 := ⟨_, rfl⟩
  refine LoopN.introS GSt (fun ⟨i, ob, oc, m⟩ => i ≤ n ∧ m.length = i ∧ (∀ p ∈ m, GrwC n p) ∧ (ob = none → m = []) ∧ m.length ≤ oc) (fun ⟨i, ob, oc, m⟩ => mkS Tryz.f22.ntmps 0 [(0, .c (.v (.slice a L.length ca))), (3, .c (.v (.int .i64 (n : Int)))), (4, .c (.v (.slice (at0 ob) m.length oc))), (5, .c (.v (.int .i64 (i : Int))))]) (fun ⟨i, ob, oc, m⟩ => [.fact (fun w => SlAt a (L.length * 1) (iC L) w), .app 42 5 (grC m) (at0 ob) m.length oc, .fact (fun w => ∀ p ∈ m, CellF p w)]) (fun ⟨i, _, _, _⟩ => n - i) [.app 42 5 [] none 0 0, .dead] rfl (fun _ => rfl) (fun _ => rfl) (fun _ _ => ⟨trivial, trivial, trivial, trivial⟩) ?_ ?_
  · refine ⟨⟨0, none, 0, []⟩, ⟨Nat.zero_le _, rfl, (fun p h => by cases h), (fun _ => rfl), Nat.le_refl _⟩, ?_, [.fact (fun w => SlAt a (L.length * 1) (iC L) w), .app 42 5 [] none 0 0, .fact (fun w => ∀ p ∈ [], CellF p w)], turnS ⟨.inr (.inl rfl), .inr (.inl rfl), .inr (.inr ⟨_, rfl, fun w _ p hp => by cases hp⟩), trivial⟩, wkH_refl _⟩
    (repeat' (first | exact trivial | refine And.intro (by with_reducible rfl) ?_ | (with_reducible exact wkC_refl _) | (with_reducible exact wkCs_refl _) | refine And.intro ?_ ?_))
    all_goals first | rfl | exact av_int (by rw [hn]; unfold Go.AX.minI; split <;> omega)
  rintro ⟨i, ob, oc, m⟩ ⟨hi, hml, hmo, hoa, hoc⟩
  (first | refine wX ?_ | exact wZ)
  refine brd_dec (fun h1 => ?_) (fun h1 => ?_)
  · obtain ⟨z, hz⟩ : ∃ z, L[i]? = some z := ⟨_, List.getElem?_eq_getElem (by omega)⟩
    have hsa : a.isSome = true := by
      cases a with
      | none => rw [ha rfl] at hz; cases hz
      | some b => rfl
    (first | refine wX ?_ | exact wZ)
    refine Nd.mk ⟨hsa, by omega, by omega⟩ ?_
    (first | refine wX ?_ | exact wZ)
    refine LdN.one (.int .i64 z) rfl (fun w hw => hw.1) (by rw [Int.toNat_natCast]; show (iC L)[i * 1]? = _; rw [Nat.mul_one]; exact iC_get hz) ?_
    (first | refine wX ?_ | exact wZ)
    have hXb := wrap_u64_bd z
    generalize IntKind.u64.wrap z = X at *
    have hx0 : IntKind.u64.wrap (X.tdiv 9) = X / 9 := by rw [Int.tdiv_eq_ediv_of_nonneg (by omega)]; exact wrap_u64 (by omega)
    have hk0 : IntKind.i64.wrap (X.tmod 9) = X % 9 := by rw [Int.tmod_eq_emod_of_nonneg (by omega)]; exact wrap_i64 (by omega)
    rw [hx0, hk0]
    obtain ⟨x, hx⟩ : ∃ x, x = X / 9 := ⟨_, rfl⟩
    obtain ⟨kd, hkd⟩ : ∃ kd, kd = X % 9 := ⟨_, rfl⟩
    rw [← hx, ← hkd]
    have hxb : 0 ≤ x ∧ x ≤ 2049638230412172402 := by omega
    have hkb : 0 ≤ kd ∧ kd ≤ 8 := by omega
    clear hx0 hk0
    have hkk : kd = 0 ∨ kd = 1 ∨ kd = 2 ∨ kd = 3 ∨ kd = 4 ∨ kd = 5 ∨ kd = 6 ∨ kd = 7 ∨ kd = 8 := by omega
    clear hkd hkb hXb
    rcases hkk with rfl | rfl | rfl | rfl | rfl | rfl | rfl | rfl | rfl
    · -- the cell is put behind the graph; ⟨⟨0, 0, [], [], []⟩, none, 0, none, 0⟩: the cell, , .dead, .dead: what else is over, ⟨SlAt.nil, SlAt.nil⟩: its rows
      (first | refine wX ?_ | exact wZ)
      try refine Nd.mk ⟨Nat.le_refl 1, rfl, rfl⟩ ?_
      (conv => whnf)
      refine AppN.grow 1 (grC m) (cellC (⟨⟨0, 0, [], [], []⟩, none, 0, none, 0⟩ : CellP)) rfl rfl ⟨Nat.le_refl 1, ⟨by show (m.length + 1) * 80 ≤ _; omega, by omega⟩, by decide⟩ fun ob2 oc2 hoc2 _ => ?_
      (first | refine wX ?_ | exact wZ)
      have hm2 : m.length + 1 = (m ++ [(⟨⟨0, 0, [], [], []⟩, none, 0, none, 0⟩ : CellP)]).length := by simp
      have hg2 := grC_snoc m ⟨⟨0, 0, [], [], []⟩, none, 0, none, 0⟩
      refine ⟨⟨i + 1, some ob2, oc2, m ++ [⟨⟨0, 0, [], [], []⟩, none, 0, none, 0⟩]⟩, ⟨by omega, by rw [← hm2, hml], ?_, (fun h => by cases h), by rw [← hm2]; exact hoc2⟩, by show n - (i + 1) < n - i; omega, ?_, [.fact (fun w => SlAt a (L.length * 1) (iC L) w), .app 42 5 (grC m ++ cellC ⟨⟨0, 0, [], [], []⟩, none, 0, none, 0⟩) (some ⟨ob2, 0, none⟩) (m.length + 1) oc2, .fact (fun w => ∀ q ∈ m ++ [(⟨⟨0, 0, [], [], []⟩, none, 0, none, 0⟩ : CellP)], CellF q w), .dead, .dead], turnS ⟨.inr (.inl rfl), .inr (.inl rfl), .inr (.inr ⟨_, rfl, fun w hw q hq => ?_⟩), by repeat (first | exact trivial | refine ⟨.inl rfl, ?_⟩)⟩, ?_⟩
      · intro q hq
        rcases List.mem_append.1 hq with hq | hq
        · exact hmo q hq
        · rw [List.mem_singleton.1 hq]
          exact grw_plain n _ _ _ (by decide)
      · (repeat' (first | exact trivial | refine And.intro (by with_reducible rfl) ?_ | (with_reducible exact wkC_refl _) | (with_reducible exact wkCs_refl _) | refine And.intro ?_ ?_))
        all_goals first | rfl | exact av_int (by rw [wrap_i64 (by omega)]; omega) | (rw [hm2]; rfl)
      · rcases List.mem_append.1 hq with hq | hq
        · exact hw.2.1 q hq
        · rw [List.mem_singleton.1 hq]
          exact ⟨SlAt.nil, SlAt.nil⟩
      · show wkH _ [Ent.fact _, .app 42 5 (grC (m ++ [_])) _ (m ++ [_]).length _, _]
        rw [← hm2, hg2]
        exact ⟨wkE_refl _, wkE_refl _, wkE_refl _, trivial⟩
    · -- the cell is put behind the graph; ⟨⟨1, 0, [], [], []⟩, none, 0, none, 0⟩: the cell, , .dead, .dead: what else is over, ⟨SlAt.nil, SlAt.nil⟩: its rows
      (first | refine wX ?_ | exact wZ)
      try refine Nd.mk ⟨Nat.le_refl 1, rfl, rfl⟩ ?_
      (conv => whnf)
      refine AppN.grow 1 (grC m) (cellC (⟨⟨1, 0, [], [], []⟩, none, 0, none, 0⟩ : CellP)) rfl rfl ⟨Nat.le_refl 1, ⟨by show (m.length + 1) * 80 ≤ _; omega, by omega⟩, by decide⟩ fun ob2 oc2 hoc2 _ => ?_
      (first | refine wX ?_ | exact wZ)
      have hm2 : m.length + 1 = (m ++ [(⟨⟨1, 0, [], [], []⟩, none, 0, none, 0⟩ : CellP)]).length := by simp
      have hg2 := grC_snoc m ⟨⟨1, 0, [], [], []⟩, none, 0, none, 0⟩
      refine ⟨⟨i + 1, some ob2, oc2, m ++ [⟨⟨1, 0, [], [], []⟩, none, 0, none, 0⟩]⟩, ⟨by omega, by rw [← hm2, hml], ?_, (fun h => by cases h), by rw [← hm2]; exact hoc2⟩, by show n - (i + 1) < n - i; omega, ?_, [.fact (fun w => SlAt a (L.length * 1) (iC L) w), .app 42 5 (grC m ++ cellC ⟨⟨1, 0, [], [], []⟩, none, 0, none, 0⟩) (some ⟨ob2, 0, none⟩) (m.length + 1) oc2, .fact (fun w => ∀ q ∈ m ++ [(⟨⟨1, 0, [], [], []⟩, none, 0, none, 0⟩ : CellP)], CellF q w), .dead, .dead], turnS ⟨.inr (.inl rfl), .inr (.inl rfl), .inr (.inr ⟨_, rfl, fun w hw q hq => ?_⟩), by repeat (first | exact trivial | refine ⟨.inl rfl, ?_⟩)⟩, ?_⟩
      · intro q hq
        rcases List.mem_append.1 hq with hq | hq
        · exact hmo q hq
        · rw [List.mem_singleton.1 hq]
          exact grw_plain n _ _ _ (by decide)
      · (repeat' (first | exact trivial | refine And.intro (by with_reducible rfl) ?_ | (with_reducible exact wkC_refl _) | (with_reducible exact wkCs_refl _) | refine And.intro ?_ ?_))
        all_goals first | rfl | exact av_int (by rw [wrap_i64 (by omega)]; omega) | (rw [hm2]; rfl)
      · rcases List.mem_append.1 hq with hq | hq
        · exact hw.2.1 q hq
        · rw [List.mem_singleton.1 hq]
          exact ⟨SlAt.nil, SlAt.nil⟩
      · show wkH _ [Ent.fact _, .app 42 5 (grC (m ++ [_])) _ (m ++ [_]).length _, _]
        rw [← hm2, hg2]
        exact ⟨wkE_refl _, wkE_refl _, wkE_refl _, trivial⟩
    · -- the cell is put behind the graph; ⟨⟨2, 0, [], [], []⟩, none, 0, none, 0⟩: the cell, , .dead, .dead: what else is over, ⟨SlAt.nil, SlAt.nil⟩: its rows
      (first | refine wX ?_ | exact wZ)
      try refine Nd.mk ⟨Nat.le_refl 1, rfl, rfl⟩ ?_
      (conv => whnf)
      refine AppN.grow 1 (grC m) (cellC (⟨⟨2, 0, [], [], []⟩, none, 0, none, 0⟩ : CellP)) rfl rfl ⟨Nat.le_refl 1, ⟨by show (m.length + 1) * 80 ≤ _; omega, by omega⟩, by decide⟩ fun ob2 oc2 hoc2 _ => ?_
      (first | refine wX ?_ | exact wZ)
      have hm2 : m.length + 1 = (m ++ [(⟨⟨2, 0, [], [], []⟩, none, 0, none, 0⟩ : CellP)]).length := by simp
      have hg2 := grC_snoc m ⟨⟨2, 0, [], [], []⟩, none, 0, none, 0⟩
      refine ⟨⟨i + 1, some ob2, oc2, m ++ [⟨⟨2, 0, [], [], []⟩, none, 0, none, 0⟩]⟩, ⟨by omega, by rw [← hm2, hml], ?_, (fun h => by cases h), by rw [← hm2]; exact hoc2⟩, by show n - (i + 1) < n - i; omega, ?_, [.fact (fun w => SlAt a (L.length * 1) (iC L) w), .app 42 5 (grC m ++ cellC ⟨⟨2, 0, [], [], []⟩, none, 0, none, 0⟩) (some ⟨ob2, 0, none⟩) (m.length + 1) oc2, .fact (fun w => ∀ q ∈ m ++ [(⟨⟨2, 0, [], [], []⟩, none, 0, none, 0⟩ : CellP)], CellF q w), .dead, .dead], turnS ⟨.inr (.inl rfl), .inr (.inl rfl), .inr (.inr ⟨_, rfl, fun w hw q hq => ?_⟩), by repeat (first | exact trivial | refine ⟨.inl rfl, ?_⟩)⟩, ?_⟩
      · intro q hq
        rcases List.mem_append.1 hq with hq | hq
        · exact hmo q hq
        · rw [List.mem_singleton.1 hq]
          exact grw_plain n _ _ _ (by decide)
      · (repeat' (first | exact trivial | refine And.intro (by with_reducible rfl) ?_ | (with_reducible exact wkC_refl _) | (with_reducible exact wkCs_refl _) | refine And.intro ?_ ?_))
        all_goals first | rfl | exact av_int (by rw [wrap_i64 (by omega)]; omega) | (rw [hm2]; rfl)
      · rcases List.mem_append.1 hq with hq | hq
        · exact hw.2.1 q hq
        · rw [List.mem_singleton.1 hq]
          exact ⟨SlAt.nil, SlAt.nil⟩
      · show wkH _ [Ent.fact _, .app 42 5 (grC (m ++ [_])) _ (m ++ [_]).length _, _]
        rw [← hm2, hg2]
        exact ⟨wkE_refl _, wkE_refl _, wkE_refl _, trivial⟩
    · (first | refine wX ?_ | exact wZ)
      generalize IntKind.i64.wrap (IntKind.i64.wrap (x.tmod 5) - 2) = nu at *
      -- the cell is put behind the graph; ⟨⟨3, nu, [], [], []⟩, none, 0, none, 0⟩: the cell, , .dead, .dead: what else is over, ⟨SlAt.nil, SlAt.nil⟩: its rows
      (first | refine wX ?_ | exact wZ)
      try refine Nd.mk ⟨Nat.le_refl 1, rfl, rfl⟩ ?_
      (conv => whnf)
      refine AppN.grow 1 (grC m) (cellC (⟨⟨3, nu, [], [], []⟩, none, 0, none, 0⟩ : CellP)) rfl rfl ⟨Nat.le_refl 1, ⟨by show (m.length + 1) * 80 ≤ _; omega, by omega⟩, by decide⟩ fun ob2 oc2 hoc2 _ => ?_
      (first | refine wX ?_ | exact wZ)
      have hm2 : m.length + 1 = (m ++ [(⟨⟨3, nu, [], [], []⟩, none, 0, none, 0⟩ : CellP)]).length := by simp
      have hg2 := grC_snoc m ⟨⟨3, nu, [], [], []⟩, none, 0, none, 0⟩
      refine ⟨⟨i + 1, some ob2, oc2, m ++ [⟨⟨3, nu, [], [], []⟩, none, 0, none, 0⟩]⟩, ⟨by omega, by rw [← hm2, hml], ?_, (fun h => by cases h), by rw [← hm2]; exact hoc2⟩, by show n - (i + 1) < n - i; omega, ?_, [.fact (fun w => SlAt a (L.length * 1) (iC L) w), .app 42 5 (grC m ++ cellC ⟨⟨3, nu, [], [], []⟩, none, 0, none, 0⟩) (some ⟨ob2, 0, none⟩) (m.length + 1) oc2, .fact (fun w => ∀ q ∈ m ++ [(⟨⟨3, nu, [], [], []⟩, none, 0, none, 0⟩ : CellP)], CellF q w), .dead, .dead], turnS ⟨.inr (.inl rfl), .inr (.inl rfl), .inr (.inr ⟨_, rfl, fun w hw q hq => ?_⟩), by repeat (first | exact trivial | refine ⟨.inl rfl, ?_⟩)⟩, ?_⟩
      · intro q hq
        rcases List.mem_append.1 hq with hq | hq
        · exact hmo q hq
        · rw [List.mem_singleton.1 hq]
          exact grw_plain n _ _ _ (by decide)
      · (repeat' (first | exact trivial | refine And.intro (by with_reducible rfl) ?_ | (with_reducible exact wkC_refl _) | (with_reducible exact wkCs_refl _) | refine And.intro ?_ ?_))
        all_goals first | rfl | exact av_int (by rw [wrap_i64 (by omega)]; omega) | (rw [hm2]; rfl)
      · rcases List.mem_append.1 hq with hq | hq
        · exact hw.2.1 q hq
        · rw [List.mem_singleton.1 hq]
          exact ⟨SlAt.nil, SlAt.nil⟩
      · show wkH _ [Ent.fact _, .app 42 5 (grC (m ++ [_])) _ (m ++ [_]).length _, _]
        rw [← hm2, hg2]
        exact ⟨wkE_refl _, wkE_refl _, wkE_refl _, trivial⟩
    · (first | refine wX ?_ | exact wZ)
      rw [show x.tmod 4 = x % 4 by rw [Int.tmod_eq_emod_of_nonneg (by omega)]]
      have hj : x % 4 = 0 ∨ x % 4 = 1 ∨ x % 4 = 2 ∨ x % 4 = 3 := by omega
      rcases hj with e | e | e | e <;> rw [e]
      · -- the cell is put behind the graph; ⟨⟨4, 0, [97], [], []⟩, none, 0, none, 0⟩: the cell, , .dead, .dead, .dead: what else is over, ⟨SlAt.nil, SlAt.nil⟩: its rows
        (first | refine wX ?_ | exact wZ)
        try refine Nd.mk ⟨Nat.le_refl 1, rfl, rfl⟩ ?_
        (conv => whnf)
        refine AppN.grow 1 (grC m) (cellC (⟨⟨4, 0, [97], [], []⟩, none, 0, none, 0⟩ : CellP)) rfl rfl ⟨Nat.le_refl 1, ⟨by show (m.length + 1) * 80 ≤ _; omega, by omega⟩, by decide⟩ fun ob2 oc2 hoc2 _ => ?_
        (first | refine wX ?_ | exact wZ)
        have hm2 : m.length + 1 = (m ++ [(⟨⟨4, 0, [97], [], []⟩, none, 0, none, 0⟩ : CellP)]).length := by simp
        have hg2 := grC_snoc m ⟨⟨4, 0, [97], [], []⟩, none, 0, none, 0⟩
        refine ⟨⟨i + 1, some ob2, oc2, m ++ [⟨⟨4, 0, [97], [], []⟩, none, 0, none, 0⟩]⟩, ⟨by omega, by rw [← hm2, hml], ?_, (fun h => by cases h), by rw [← hm2]; exact hoc2⟩, by show n - (i + 1) < n - i; omega, ?_, [.fact (fun w => SlAt a (L.length * 1) (iC L) w), .app 42 5 (grC m ++ cellC ⟨⟨4, 0, [97], [], []⟩, none, 0, none, 0⟩) (some ⟨ob2, 0, none⟩) (m.length + 1) oc2, .fact (fun w => ∀ q ∈ m ++ [(⟨⟨4, 0, [97], [], []⟩, none, 0, none, 0⟩ : CellP)], CellF q w), .dead, .dead, .dead], turnS ⟨.inr (.inl rfl), .inr (.inl rfl), .inr (.inr ⟨_, rfl, fun w hw q hq => ?_⟩), by repeat (first | exact trivial | refine ⟨.inl rfl, ?_⟩)⟩, ?_⟩
        · intro q hq
          rcases List.mem_append.1 hq with hq | hq
          · exact hmo q hq
          · rw [List.mem_singleton.1 hq]
            exact grw_plain n _ _ _ (by decide)
        · (repeat' (first | exact trivial | refine And.intro (by with_reducible rfl) ?_ | (with_reducible exact wkC_refl _) | (with_reducible exact wkCs_refl _) | refine And.intro ?_ ?_))
          all_goals first | rfl | exact av_int (by rw [wrap_i64 (by omega)]; omega) | (rw [hm2]; rfl)
        · rcases List.mem_append.1 hq with hq | hq
          · exact hw.2.1 q hq
          · rw [List.mem_singleton.1 hq]
            exact ⟨SlAt.nil, SlAt.nil⟩
        · show wkH _ [Ent.fact _, .app 42 5 (grC (m ++ [_])) _ (m ++ [_]).length _, _]
          rw [← hm2, hg2]
          exact ⟨wkE_refl _, wkE_refl _, wkE_refl _, trivial⟩
      · -- the cell is put behind the graph; ⟨⟨4, 0, [98], [], []⟩, none, 0, none, 0⟩: the cell, , .dead, .dead, .dead: what else is over, ⟨SlAt.nil, SlAt.nil⟩: its rows
        (first | refine wX ?_ | exact wZ)
        try refine Nd.mk ⟨Nat.le_refl 1, rfl, rfl⟩ ?_
        (conv => whnf)
        refine AppN.grow 1 (grC m) (cellC (⟨⟨4, 0, [98], [], []⟩, none, 0, none, 0⟩ : CellP)) rfl rfl ⟨Nat.le_refl 1, ⟨by show (m.length + 1) * 80 ≤ _; omega, by omega⟩, by decide⟩ fun ob2 oc2 hoc2 _ => ?_
        (first | refine wX ?_ | exact wZ)
        have hm2 : m.length + 1 = (m ++ [(⟨⟨4, 0, [98], [], []⟩, none, 0, none, 0⟩ : CellP)]).length := by simp
        have hg2 := grC_snoc m ⟨⟨4, 0, [98], [], []⟩, none, 0, none, 0⟩
        refine ⟨⟨i + 1, some ob2, oc2, m ++ [⟨⟨4, 0, [98], [], []⟩, none, 0, none, 0⟩]⟩, ⟨by omega, by rw [← hm2, hml], ?_, (fun h => by cases h), by rw [← hm2]; exact hoc2⟩, by show n - (i + 1) < n - i; omega, ?_, [.fact (fun w => SlAt a (L.length * 1) (iC L) w), .app 42 5 (grC m ++ cellC ⟨⟨4, 0, [98], [], []⟩, none, 0, none, 0⟩) (some ⟨ob2, 0, none⟩) (m.length + 1) oc2, .fact (fun w => ∀ q ∈ m ++ [(⟨⟨4, 0, [98], [], []⟩, none, 0, none, 0⟩ : CellP)], CellF q w), .dead, .dead, .dead], turnS ⟨.inr (.inl rfl), .inr (.inl rfl), .inr (.inr ⟨_, rfl, fun w hw q hq => ?_⟩), by repeat (first | exact trivial | refine ⟨.inl rfl, ?_⟩)⟩, ?_⟩
        · intro q hq
          rcases List.mem_append.1 hq with hq | hq
          · exact hmo q hq
          · rw [List.mem_singleton.1 hq]
            exact grw_plain n _ _ _ (by decide)
        · (repeat' (first | exact trivial | refine And.intro (by with_reducible rfl) ?_ | (with_reducible exact wkC_refl _) | (with_reducible exact wkCs_refl _) | refine And.intro ?_ ?_))
          all_goals first | rfl | exact av_int (by rw [wrap_i64 (by omega)]; omega) | (rw [hm2]; rfl)
        · rcases List.mem_append.1 hq with hq | hq
          · exact hw.2.1 q hq
          · rw [List.mem_singleton.1 hq]
            exact ⟨SlAt.nil, SlAt.nil⟩
        · show wkH _ [Ent.fact _, .app 42 5 (grC (m ++ [_])) _ (m ++ [_]).length _, _]
          rw [← hm2, hg2]
          exact ⟨wkE_refl _, wkE_refl _, wkE_refl _, trivial⟩
      · -- the cell is put behind the graph; ⟨⟨4, 0, [35], [], []⟩, none, 0, none, 0⟩: the cell, , .dead, .dead, .dead: what else is over, ⟨SlAt.nil, SlAt.nil⟩: its rows
        (first | refine wX ?_ | exact wZ)
        try refine Nd.mk ⟨Nat.le_refl 1, rfl, rfl⟩ ?_
        (conv => whnf)
        refine AppN.grow 1 (grC m) (cellC (⟨⟨4, 0, [35], [], []⟩, none, 0, none, 0⟩ : CellP)) rfl rfl ⟨Nat.le_refl 1, ⟨by show (m.length + 1) * 80 ≤ _; omega, by omega⟩, by decide⟩ fun ob2 oc2 hoc2 _ => ?_
        (first | refine wX ?_ | exact wZ)
        have hm2 : m.length + 1 = (m ++ [(⟨⟨4, 0, [35], [], []⟩, none, 0, none, 0⟩ : CellP)]).length := by simp
        have hg2 := grC_snoc m ⟨⟨4, 0, [35], [], []⟩, none, 0, none, 0⟩
        refine ⟨⟨i + 1, some ob2, oc2, m ++ [⟨⟨4, 0, [35], [], []⟩, none, 0, none, 0⟩]⟩, ⟨by omega, by rw [← hm2, hml], ?_, (fun h => by cases h), by rw [← hm2]; exact hoc2⟩, by show n - (i + 1) < n - i; omega, ?_, [.fact (fun w => SlAt a (L.length * 1) (iC L) w), .app 42 5 (grC m ++ cellC ⟨⟨4, 0, [35], [], []⟩, none, 0, none, 0⟩) (some ⟨ob2, 0, none⟩) (m.length + 1) oc2, .fact (fun w => ∀ q ∈ m ++ [(⟨⟨4, 0, [35], [], []⟩, none, 0, none, 0⟩ : CellP)], CellF q w), .dead, .dead, .dead], turnS ⟨.inr (.inl rfl), .inr (.inl rfl), .inr (.inr ⟨_, rfl, fun w hw q hq => ?_⟩), by repeat (first | exact trivial | refine ⟨.inl rfl, ?_⟩)⟩, ?_⟩
        · intro q hq
          rcases List.mem_append.1 hq with hq | hq
          · exact hmo q hq
          · rw [List.mem_singleton.1 hq]
            exact grw_plain n _ _ _ (by decide)
        · (repeat' (first | exact trivial | refine And.intro (by with_reducible rfl) ?_ | (with_reducible exact wkC_refl _) | (with_reducible exact wkCs_refl _) | refine And.intro ?_ ?_))
          all_goals first | rfl | exact av_int (by rw [wrap_i64 (by omega)]; omega) | (rw [hm2]; rfl)
        · rcases List.mem_append.1 hq with hq | hq
          · exact hw.2.1 q hq
          · rw [List.mem_singleton.1 hq]
            exact ⟨SlAt.nil, SlAt.nil⟩
        · show wkH _ [Ent.fact _, .app 42 5 (grC (m ++ [_])) _ (m ++ [_]).length _, _]
          rw [← hm2, hg2]
          exact ⟨wkE_refl _, wkE_refl _, wkE_refl _, trivial⟩
      · -- the cell is put behind the graph; ⟨⟨4, 0, [97, 97], [], []⟩, none, 0, none, 0⟩: the cell, , .dead, .dead, .dead: what else is over, ⟨SlAt.nil, SlAt.nil⟩: its rows
        (first | refine wX ?_ | exact wZ)
        try refine Nd.mk ⟨Nat.le_refl 1, rfl, rfl⟩ ?_
        (conv => whnf)
        refine AppN.grow 1 (grC m) (cellC (⟨⟨4, 0, [97, 97], [], []⟩, none, 0, none, 0⟩ : CellP)) rfl rfl ⟨Nat.le_refl 1, ⟨by show (m.length + 1) * 80 ≤ _; omega, by omega⟩, by decide⟩ fun ob2 oc2 hoc2 _ => ?_
        (first | refine wX ?_ | exact wZ)
        have hm2 : m.length + 1 = (m ++ [(⟨⟨4, 0, [97, 97], [], []⟩, none, 0, none, 0⟩ : CellP)]).length := by simp
        have hg2 := grC_snoc m ⟨⟨4, 0, [97, 97], [], []⟩, none, 0, none, 0⟩
        refine ⟨⟨i + 1, some ob2, oc2, m ++ [⟨⟨4, 0, [97, 97], [], []⟩, none, 0, none, 0⟩]⟩, ⟨by omega, by rw [← hm2, hml], ?_, (fun h => by cases h), by rw [← hm2]; exact hoc2⟩, by show n - (i + 1) < n - i; omega, ?_, [.fact (fun w => SlAt a (L.length * 1) (iC L) w), .app 42 5 (grC m ++ cellC ⟨⟨4, 0, [97, 97], [], []⟩, none, 0, none, 0⟩) (some ⟨ob2, 0, none⟩) (m.length + 1) oc2, .fact (fun w => ∀ q ∈ m ++ [(⟨⟨4, 0, [97, 97], [], []⟩, none, 0, none, 0⟩ : CellP)], CellF q w), .dead, .dead, .dead], turnS ⟨.inr (.inl rfl), .inr (.inl rfl), .inr (.inr ⟨_, rfl, fun w hw q hq => ?_⟩), by repeat (first | exact trivial | refine ⟨.inl rfl, ?_⟩)⟩, ?_⟩
        · intro q hq
          rcases List.mem_append.1 hq with hq | hq
          · exact hmo q hq
          · rw [List.mem_singleton.1 hq]
            exact grw_plain n _ _ _ (by decide)
        · (repeat' (first | exact trivial | refine And.intro (by with_reducible rfl) ?_ | (with_reducible exact wkC_refl _) | (with_reducible exact wkCs_refl _) | refine And.intro ?_ ?_))
          all_goals first | rfl | exact av_int (by rw [wrap_i64 (by omega)]; omega) | (rw [hm2]; rfl)
        · rcases List.mem_append.1 hq with hq | hq
          · exact hw.2.1 q hq
          · rw [List.mem_singleton.1 hq]
            exact ⟨SlAt.nil, SlAt.nil⟩
        · show wkH _ [Ent.fact _, .app 42 5 (grC (m ++ [_])) _ (m ++ [_]).length _, _]
          rw [← hm2, hg2]
          exact ⟨wkE_refl _, wkE_refl _, wkE_refl _, trivial⟩
    · (first | refine wX ?_ | exact wZ)
      rw [show x.tmod 4 = x % 4 by rw [Int.tmod_eq_emod_of_nonneg (by omega)]]
      have hj : x % 4 = 0 ∨ x % 4 = 1 ∨ x % 4 = 2 ∨ x % 4 = 3 := by omega
      rcases hj with e | e | e | e <;> rw [e]
      · -- the cell is put behind the graph; ⟨⟨5, 0, [97], [], []⟩, none, 0, none, 0⟩: the cell, , .dead, .dead, .dead: what else is over, ⟨SlAt.nil, SlAt.nil⟩: its rows
        (first | refine wX ?_ | exact wZ)
        try refine Nd.mk ⟨Nat.le_refl 1, rfl, rfl⟩ ?_
        (conv => whnf)
        refine AppN.grow 1 (grC m) (cellC (⟨⟨5, 0, [97], [], []⟩, none, 0, none, 0⟩ : CellP)) rfl rfl ⟨Nat.le_refl 1, ⟨by show (m.length + 1) * 80 ≤ _; omega, by omega⟩, by decide⟩ fun ob2 oc2 hoc2 _ => ?_
        (first | refine wX ?_ | exact wZ)
        have hm2 : m.length + 1 = (m ++ [(⟨⟨5, 0, [97], [], []⟩, none, 0, none, 0⟩ : CellP)]).length := by simp
        have hg2 := grC_snoc m ⟨⟨5, 0, [97], [], []⟩, none, 0, none, 0⟩
        refine ⟨⟨i + 1, some ob2, oc2, m ++ [⟨⟨5, 0, [97], [], []⟩, none, 0, none, 0⟩]⟩, ⟨by omega, by rw [← hm2, hml], ?_, (fun h => by cases h), by rw [← hm2]; exact hoc2⟩, by show n - (i + 1) < n - i; omega, ?_, [.fact (fun w => SlAt a (L.length * 1) (iC L) w), .app 42 5 (grC m ++ cellC ⟨⟨5, 0, [97], [], []⟩, none, 0, none, 0⟩) (some ⟨ob2, 0, none⟩) (m.length + 1) oc2, .fact (fun w => ∀ q ∈ m ++ [(⟨⟨5, 0, [97], [], []⟩, none, 0, none, 0⟩ : CellP)], CellF q w), .dead, .dead, .dead], turnS ⟨.inr (.inl rfl), .inr (.inl rfl), .inr (.inr ⟨_, rfl, fun w hw q hq => ?_⟩), by repeat (first | exact trivial | refine ⟨.inl rfl, ?_⟩)⟩, ?_⟩
        · intro q hq
          rcases List.mem_append.1 hq with hq | hq
          · exact hmo q hq
          · rw [List.mem_singleton.1 hq]
            exact grw_plain n _ _ _ (by decide)
        · (repeat' (first | exact trivial | refine And.intro (by with_reducible rfl) ?_ | (with_reducible exact wkC_refl _) | (with_reducible exact wkCs_refl _) | refine And.intro ?_ ?_))
          all_goals first | rfl | exact av_int (by rw [wrap_i64 (by omega)]; omega) | (rw [hm2]; rfl)
        · rcases List.mem_append.1 hq with hq | hq
          · exact hw.2.1 q hq
          · rw [List.mem_singleton.1 hq]
            exact ⟨SlAt.nil, SlAt.nil⟩
        · show wkH _ [Ent.fact _, .app 42 5 (grC (m ++ [_])) _ (m ++ [_]).length _, _]
          rw [← hm2, hg2]
          exact ⟨wkE_refl _, wkE_refl _, wkE_refl _, trivial⟩
      · -- the cell is put behind the graph; ⟨⟨5, 0, [98], [], []⟩, none, 0, none, 0⟩: the cell, , .dead, .dead, .dead: what else is over, ⟨SlAt.nil, SlAt.nil⟩: its rows
        (first | refine wX ?_ | exact wZ)
        try refine Nd.mk ⟨Nat.le_refl 1, rfl, rfl⟩ ?_
        (conv => whnf)
        refine AppN.grow 1 (grC m) (cellC (⟨⟨5, 0, [98], [], []⟩, none, 0, none, 0⟩ : CellP)) rfl rfl ⟨Nat.le_refl 1, ⟨by show (m.length + 1) * 80 ≤ _; omega, by omega⟩, by decide⟩ fun ob2 oc2 hoc2 _ => ?_
        (first | refine wX ?_ | exact wZ)
        have hm2 : m.length + 1 = (m ++ [(⟨⟨5, 0, [98], [], []⟩, none, 0, none, 0⟩ : CellP)]).length := by simp
        have hg2 := grC_snoc m ⟨⟨5, 0, [98], [], []⟩, none, 0, none, 0⟩
        refine ⟨⟨i + 1, some ob2, oc2, m ++ [⟨⟨5, 0, [98], [], []⟩, none, 0, none, 0⟩]⟩, ⟨by omega, by rw [← hm2, hml], ?_, (fun h => by cases h), by rw [← hm2]; exact hoc2⟩, by show n - (i + 1) < n - i; omega, ?_, [.fact (fun w => SlAt a (L.length * 1) (iC L) w), .app 42 5 (grC m ++ cellC ⟨⟨5, 0, [98], [], []⟩, none, 0, none, 0⟩) (some ⟨ob2, 0, none⟩) (m.length + 1) oc2, .fact (fun w => ∀ q ∈ m ++ [(⟨⟨5, 0, [98], [], []⟩, none, 0, none, 0⟩ : CellP)], CellF q w), .dead, .dead, .dead], turnS ⟨.inr (.inl rfl), .inr (.inl rfl), .inr (.inr ⟨_, rfl, fun w hw q hq => ?_⟩), by repeat (first | exact trivial | refine ⟨.inl rfl, ?_⟩)⟩, ?_⟩
        · intro q hq
          rcases List.mem_append.1 hq with hq | hq
          · exact hmo q hq
          · rw [List.mem_singleton.1 hq]
            exact grw_plain n _ _ _ (by decide)
        · (repeat' (first | exact trivial | refine And.intro (by with_reducible rfl) ?_ | (with_reducible exact wkC_refl _) | (with_reducible exact wkCs_refl _) | refine And.intro ?_ ?_))
          all_goals first | rfl | exact av_int (by rw [wrap_i64 (by omega)]; omega) | (rw [hm2]; rfl)
        · rcases List.mem_append.1 hq with hq | hq
          · exact hw.2.1 q hq
          · rw [List.mem_singleton.1 hq]
            exact ⟨SlAt.nil, SlAt.nil⟩
        · show wkH _ [Ent.fact _, .app 42 5 (grC (m ++ [_])) _ (m ++ [_]).length _, _]
          rw [← hm2, hg2]
          exact ⟨wkE_refl _, wkE_refl _, wkE_refl _, trivial⟩
      · -- the cell is put behind the graph; ⟨⟨5, 0, [35], [], []⟩, none, 0, none, 0⟩: the cell, , .dead, .dead, .dead: what else is over, ⟨SlAt.nil, SlAt.nil⟩: its rows
        (first | refine wX ?_ | exact wZ)
        try refine Nd.mk ⟨Nat.le_refl 1, rfl, rfl⟩ ?_
        (conv => whnf)
        refine AppN.grow 1 (grC m) (cellC (⟨⟨5, 0, [35], [], []⟩, none, 0, none, 0⟩ : CellP)) rfl rfl ⟨Nat.le_refl 1, ⟨by show (m.length + 1) * 80 ≤ _; omega, by omega⟩, by decide⟩ fun ob2 oc2 hoc2 _ => ?_
        (first | refine wX ?_ | exact wZ)
        have hm2 : m.length + 1 = (m ++ [(⟨⟨5, 0, [35], [], []⟩, none, 0, none, 0⟩ : CellP)]).length := by simp
        have hg2 := grC_snoc m ⟨⟨5, 0, [35], [], []⟩, none, 0, none, 0⟩
        refine ⟨⟨i + 1, some ob2, oc2, m ++ [⟨⟨5, 0, [35], [], []⟩, none, 0, none, 0⟩]⟩, ⟨by omega, by rw [← hm2, hml], ?_, (fun h => by cases h), by rw [← hm2]; exact hoc2⟩, by show n - (i + 1) < n - i; omega, ?_, [.fact (fun w => SlAt a (L.length * 1) (iC L) w), .app 42 5 (grC m ++ cellC ⟨⟨5, 0, [35], [], []⟩, none, 0, none, 0⟩) (some ⟨ob2, 0, none⟩) (m.length + 1) oc2, .fact (fun w => ∀ q ∈ m ++ [(⟨⟨5, 0, [35], [], []⟩, none, 0, none, 0⟩ : CellP)], CellF q w), .dead, .dead, .dead], turnS ⟨.inr (.inl rfl), .inr (.inl rfl), .inr (.inr ⟨_, rfl, fun w hw q hq => ?_⟩), by repeat (first | exact trivial | refine ⟨.inl rfl, ?_⟩)⟩, ?_⟩
        · intro q hq
          rcases List.mem_append.1 hq with hq | hq
          · exact hmo q hq
          · rw [List.mem_singleton.1 hq]
            exact grw_plain n _ _ _ (by decide)
        · (repeat' (first | exact trivial | refine And.intro (by with_reducible rfl) ?_ | (with_reducible exact wkC_refl _) | (with_reducible exact wkCs_refl _) | refine And.intro ?_ ?_))
          all_goals first | rfl | exact av_int (by rw [wrap_i64 (by omega)]; omega) | (rw [hm2]; rfl)
        · rcases List.mem_append.1 hq with hq | hq
          · exact hw.2.1 q hq
          · rw [List.mem_singleton.1 hq]
            exact ⟨SlAt.nil, SlAt.nil⟩
        · show wkH _ [Ent.fact _, .app 42 5 (grC (m ++ [_])) _ (m ++ [_]).length _, _]
          rw [← hm2, hg2]
          exact ⟨wkE_refl _, wkE_refl _, wkE_refl _, trivial⟩
      · -- the cell is put behind the graph; ⟨⟨5, 0, [97, 97], [], []⟩, none, 0, none, 0⟩: the cell, , .dead, .dead, .dead: what else is over, ⟨SlAt.nil, SlAt.nil⟩: its rows
        (first | refine wX ?_ | exact wZ)
        try refine Nd.mk ⟨Nat.le_refl 1, rfl, rfl⟩ ?_
        (conv => whnf)
        refine AppN.grow 1 (grC m) (cellC (⟨⟨5, 0, [97, 97], [], []⟩, none, 0, none, 0⟩ : CellP)) rfl rfl ⟨Nat.le_refl 1, ⟨by show (m.length + 1) * 80 ≤ _; omega, by omega⟩, by decide⟩ fun ob2 oc2 hoc2 _ => ?_
        (first | refine wX ?_ | exact wZ)
        have hm2 : m.length + 1 = (m ++ [(⟨⟨5, 0, [97, 97], [], []⟩, none, 0, none, 0⟩ : CellP)]).length := by simp
        have hg2 := grC_snoc m ⟨⟨5, 0, [97, 97], [], []⟩, none, 0, none, 0⟩
        refine ⟨⟨i + 1, some ob2, oc2, m ++ [⟨⟨5, 0, [97, 97], [], []⟩, none, 0, none, 0⟩]⟩, ⟨by omega, by rw [← hm2, hml], ?_, (fun h => by cases h), by rw [← hm2]; exact hoc2⟩, by show n - (i + 1) < n - i; omega, ?_, [.fact (fun w => SlAt a (L.length * 1) (iC L) w), .app 42 5 (grC m ++ cellC ⟨⟨5, 0, [97, 97], [], []⟩, none, 0, none, 0⟩) (some ⟨ob2, 0, none⟩) (m.length + 1) oc2, .fact (fun w => ∀ q ∈ m ++ [(⟨⟨5, 0, [97, 97], [], []⟩, none, 0, none, 0⟩ : CellP)], CellF q w), .dead, .dead, .dead], turnS ⟨.inr (.inl rfl), .inr (.inl rfl), .inr (.inr ⟨_, rfl, fun w hw q hq => ?_⟩), by repeat (first | exact trivial | refine ⟨.inl rfl, ?_⟩)⟩, ?_⟩
        · intro q hq
          rcases List.mem_append.1 hq with hq | hq
          · exact hmo q hq
          · rw [List.mem_singleton.1 hq]
            exact grw_plain n _ _ _ (by decide)
        · (repeat' (first | exact trivial | refine And.intro (by with_reducible rfl) ?_ | (with_reducible exact wkC_refl _) | (with_reducible exact wkCs_refl _) | refine And.intro ?_ ?_))
          all_goals first | rfl | exact av_int (by rw [wrap_i64 (by omega)]; omega) | (rw [hm2]; rfl)
        · rcases List.mem_append.1 hq with hq | hq
          · exact hw.2.1 q hq
          · rw [List.mem_singleton.1 hq]
            exact ⟨SlAt.nil, SlAt.nil⟩
        · show wkH _ [Ent.fact _, .app 42 5 (grC (m ++ [_])) _ (m ++ [_]).length _, _]
          rw [← hm2, hg2]
          exact ⟨wkE_refl _, wkE_refl _, wkE_refl _, trivial⟩
    · (first | refine wX ?_ | exact wZ)
      have hc4 : IntKind.i64.wrap (x.tmod 4) = x % 4 := by rw [Int.tmod_eq_emod_of_nonneg (by omega)]; exact wrap_i64 (by omega)
      refine LoopN.intro (Nat × List Int × BSt) (fun ⟨k, its, o⟩ => k ≤ 3 ∧ its.length = k ∧ (∀ y ∈ its, 0 ≤ y) ∧ o.ok its.length)
        (fun ⟨k, its, o⟩ => mkS Tryz.f22.ntmps 0 [(0, .c (.v (.slice a L.length ca))), (3, .c (.v (.int .i64 (n : Int)))), (4, .c (.v (.slice (at0 ob) m.length oc))), (5, .c (.v (.int .i64 (i : Int)))), (6, .c (.v (.int .u64 x))), (7, .c (.lp 3 0)), (8, .c (.v (.int .i64 (k : Int))))])
        (fun ⟨k, its, o⟩ => [.fact (fun w => SlAt a (L.length * 1) (iC L) w), .app 42 5 (grC m) (at0 ob) m.length oc, .fact (fun w => ∀ p ∈ m, CellF p w), .blk 42 (vs (cellC ⟨⟨6, 0, [], [], its⟩, none, 0, at0 o.ob, o.cap⟩)), .app 3 1 (iC its) (at0 o.ob) its.length o.cap]) (fun ⟨k, _, _⟩ => 4 - k) [.app 3 1 [] none 0 0] rfl (fun ⟨_, _, _⟩ => rfl) (fun ⟨_, _, _⟩ => rfl) (fun ⟨_, _, _⟩ _ => okHB_eq rfl) ?_ ?_
      · refine ⟨(0, [], ⟨none, 0⟩), ⟨Nat.zero_le _, rfl, (fun y h => by cases h), fun _ => ⟨rfl, rfl⟩, Nat.le_refl _, fun _ => rfl⟩, ?_, wkE_refl _, wkE_refl _, wkE_refl _, wkE_refl _, wkE_refl _, trivial⟩
        (repeat' (first | exact trivial | refine And.intro (by with_reducible rfl) ?_ | (with_reducible exact wkC_refl _) | (with_reducible exact wkCs_refl _) | refine And.intro ?_ ?_))
        all_goals rfl
      rintro ⟨k, its, ⟨ob0, ocap⟩⟩ ⟨hk, hil, hip, ho⟩
      (first | refine wX ?_ | exact wZ)
      refine brd_dec (fun h2 => ?_) (fun h2 => ?_)
      · rw [hc4] at h2
        ((conv => whnf); (repeat ((first | refine VrN.keep ?_ | refine BoxN.own ?_ | refine RwN.own ?_); (conv => whnf))))
        refine DrawN.plan [0, 2, 4, 9] [(1, 1), (3, 1), (5, 1), (6, 1), (7, 1), (8, 1), (10, 1), (11, 0)] [(12, 0), (13, 0), (14, 0)] (by decide +kernel) ?_
        (first | refine wX ?_ | exact wZ)
        have hit := grw_item x k 4 7 n hxb (by omega) (by decide) (by decide)
        simp only [Int.cast_ofNat_Int] at hit
        generalize (IntKind.i64.wrap (IntKind.u64.wrap (IntKind.u64.wrap (x.tdiv 4) + IntKind.u64.wrap (IntKind.u64.wrap (k : Int) * 7)))).tmod (n : Int) = it at *
        refine Nd.mk ⟨Nat.le_refl 1, rfl, rfl⟩ ?_
        (conv => whnf)
        refine AppN.grow 4 (iC its) [.int .i64 it] rfl rfl ⟨Nat.le_refl 1, ⟨by show (its.length + 1) * 8 ≤ _; omega, by show its.length + 1 < _; omega⟩, Nat.one_ne_zero⟩ fun wb wc hwc _ => ?_
        have hcl : iC its ++ [.int .i64 it] = iC (its ++ [it]) := by simp [iC]
        have hll : its.length + 1 = (its ++ [it]).length := by simp
        rw [hcl, hll]
        rw [hll] at hwc
        (first | refine wX ?_ | exact wZ)
        refine ⟨(k + 1, its ++ [it], ⟨some wb, wc⟩), ⟨by omega, by rw [← hll, hil], ?_, (fun h => by cases h), hwc, fun h => by have : wc = 0 := h; omega⟩, by show 4 - (k + 1) < 4 - k; omega, ?_, wkE_refl _, wkE_refl _, wkE_refl _, wkE_refl _, wkE_refl _, trivial⟩
        · intro y hy
          rcases List.mem_append.1 hy with hy | hy
          · exact hip y hy
          · rw [List.mem_singleton.1 hy]; exact hit
        (repeat' (first | exact trivial | refine And.intro (by with_reducible rfl) ?_ | (with_reducible exact wkC_refl _) | (with_reducible exact wkCs_refl _) | refine And.intro ?_ ?_))
        all_goals first | rfl | exact av_int (by rw [wrap_i64 (by omega)]; omega)
      · clear hc4
        have hna : at0 ob0 = none → its = [] := fun h => by
          cases ob0 with
          | none => exact List.eq_nil_of_length_eq_zero (ho.1 rfl).1
          | some b => cases h
        have hoc2' : its.length ≤ ocap := ho.2.1
        -- the cell is put behind the graph; ⟨⟨6, 0, [], [], its⟩, none, 0, at0 ob0, ocap⟩: the cell, , .dead, .dead, .dead: what else is over, ⟨SlAt.nil, hw.2.2.1⟩: its rows
        (first | refine wX ?_ | exact wZ)
        try refine Nd.mk ⟨Nat.le_refl 1, rfl, rfl⟩ ?_
        (conv => whnf)
        refine AppN.grow 1 (grC m) (cellC (⟨⟨6, 0, [], [], its⟩, none, 0, at0 ob0, ocap⟩ : CellP)) rfl rfl ⟨Nat.le_refl 1, ⟨by show (m.length + 1) * 80 ≤ _; omega, by omega⟩, by decide⟩ fun ob2 oc2 hoc2 _ => ?_
        (first | refine wX ?_ | exact wZ)
        have hm2 : m.length + 1 = (m ++ [(⟨⟨6, 0, [], [], its⟩, none, 0, at0 ob0, ocap⟩ : CellP)]).length := by simp
        have hg2 := grC_snoc m ⟨⟨6, 0, [], [], its⟩, none, 0, at0 ob0, ocap⟩
        refine ⟨⟨i + 1, some ob2, oc2, m ++ [⟨⟨6, 0, [], [], its⟩, none, 0, at0 ob0, ocap⟩]⟩, ⟨by omega, by rw [← hm2, hml], ?_, (fun h => by cases h), by rw [← hm2]; exact hoc2⟩, by show n - (i + 1) < n - i; omega, ?_, [.fact (fun w => SlAt a (L.length * 1) (iC L) w), .app 42 5 (grC m ++ cellC ⟨⟨6, 0, [], [], its⟩, none, 0, at0 ob0, ocap⟩) (some ⟨ob2, 0, none⟩) (m.length + 1) oc2, .fact (fun w => ∀ q ∈ m ++ [(⟨⟨6, 0, [], [], its⟩, none, 0, at0 ob0, ocap⟩ : CellP)], CellF q w), .dead, .dead, .dead], turnS ⟨.inr (.inl rfl), .inr (.inl rfl), .inr (.inr ⟨_, rfl, fun w hw q hq => ?_⟩), by repeat (first | exact trivial | refine ⟨.inl rfl, ?_⟩)⟩, ?_⟩
        · intro q hq
          rcases List.mem_append.1 hq with hq | hq
          · exact hmo q hq
          · rw [List.mem_singleton.1 hq]
            exact ⟨⟨fun _ => rfl, hna, Nat.zero_le _, by show its.length ≤ _; omega, (fun s h => (by cases h)), Nat.zero_le _, Nat.le_refl _, hoc2'⟩, hip, by show its.length ≤ 4; omega, Nat.zero_le _⟩
        · (repeat' (first | exact trivial | refine And.intro (by with_reducible rfl) ?_ | (with_reducible exact wkC_refl _) | (with_reducible exact wkCs_refl _) | refine And.intro ?_ ?_))
          all_goals first | rfl | exact av_int (by rw [wrap_i64 (by omega)]; omega) | (rw [hm2]; rfl)
        · rcases List.mem_append.1 hq with hq | hq
          · exact hw.2.1 q hq
          · rw [List.mem_singleton.1 hq]
            exact ⟨SlAt.nil, hw.2.2.1⟩
        · show wkH _ [Ent.fact _, .app 42 5 (grC (m ++ [_])) _ (m ++ [_]).length _, _]
          rw [← hm2, hg2]
          exact ⟨wkE_refl _, wkE_refl _, wkE_refl _, trivial⟩
    · -- the cell is put behind the graph; ⟨⟨7, 0, [], [], []⟩, none, 0, none, 0⟩: the cell, , .dead, .dead: what else is over, ⟨SlAt.nil, SlAt.nil⟩: its rows
      (first | refine wX ?_ | exact wZ)
      try refine Nd.mk ⟨Nat.le_refl 1, rfl, rfl⟩ ?_
      (conv => whnf)
      refine AppN.grow 1 (grC m) (cellC (⟨⟨7, 0, [], [], []⟩, none, 0, none, 0⟩ : CellP)) rfl rfl ⟨Nat.le_refl 1, ⟨by show (m.length + 1) * 80 ≤ _; omega, by omega⟩, by decide⟩ fun ob2 oc2 hoc2 _ => ?_
      (first | refine wX ?_ | exact wZ)
      have hm2 : m.length + 1 = (m ++ [(⟨⟨7, 0, [], [], []⟩, none, 0, none, 0⟩ : CellP)]).length := by simp
      have hg2 := grC_snoc m ⟨⟨7, 0, [], [], []⟩, none, 0, none, 0⟩
      refine ⟨⟨i + 1, some ob2, oc2, m ++ [⟨⟨7, 0, [], [], []⟩, none, 0, none, 0⟩]⟩, ⟨by omega, by rw [← hm2, hml], ?_, (fun h => by cases h), by rw [← hm2]; exact hoc2⟩, by show n - (i + 1) < n - i; omega, ?_, [.fact (fun w => SlAt a (L.length * 1) (iC L) w), .app 42 5 (grC m ++ cellC ⟨⟨7, 0, [], [], []⟩, none, 0, none, 0⟩) (some ⟨ob2, 0, none⟩) (m.length + 1) oc2, .fact (fun w => ∀ q ∈ m ++ [(⟨⟨7, 0, [], [], []⟩, none, 0, none, 0⟩ : CellP)], CellF q w), .dead, .dead], turnS ⟨.inr (.inl rfl), .inr (.inl rfl), .inr (.inr ⟨_, rfl, fun w hw q hq => ?_⟩), by repeat (first | exact trivial | refine ⟨.inl rfl, ?_⟩)⟩, ?_⟩
      · intro q hq
        rcases List.mem_append.1 hq with hq | hq
        · exact hmo q hq
        · rw [List.mem_singleton.1 hq]
          exact grw_plain n _ _ _ (by decide)
      · (repeat' (first | exact trivial | refine And.intro (by with_reducible rfl) ?_ | (with_reducible exact wkC_refl _) | (with_reducible exact wkCs_refl _) | refine And.intro ?_ ?_))
        all_goals first | rfl | exact av_int (by rw [wrap_i64 (by omega)]; omega) | (rw [hm2]; rfl)
      · rcases List.mem_append.1 hq with hq | hq
        · exact hw.2.1 q hq
        · rw [List.mem_singleton.1 hq]
          exact ⟨SlAt.nil, SlAt.nil⟩
      · show wkH _ [Ent.fact _, .app 42 5 (grC (m ++ [_])) _ (m ++ [_]).length _, _]
        rw [← hm2, hg2]
        exact ⟨wkE_refl _, wkE_refl _, wkE_refl _, trivial⟩
    · (first | refine wX ?_ | exact wZ)
      have hq2 : IntKind.u64.wrap (x.tdiv 2) = x / 2 := by rw [Int.tdiv_eq_ediv_of_nonneg (by omega)]; exact wrap_u64 (by omega)
      have hc3 : IntKind.i64.wrap ((IntKind.u64.wrap (x.tdiv 2)).tmod 3) = x / 2 % 3 := by rw [hq2, Int.tmod_eq_emod_of_nonneg (by omega)]; exact wrap_i64 (by omega)
      rw [show x.tmod 2 = x % 2 by rw [Int.tmod_eq_emod_of_nonneg (by omega)]]
      have hj : x % 2 = 0 ∨ x % 2 = 1 := by omega
      rcases hj with e | e <;> rw [e]
      · (first | refine wX ?_ | exact wZ)
        refine LoopN.intro (Nat × List (List UInt8) × BSt × List Int × BSt) (fun ⟨k, nms, o2, its, o⟩ => k ≤ 2 ∧ nms.length = k ∧ its.length = k ∧ (∀ y ∈ its, 0 ≤ y) ∧ (∀ s ∈ nms, s.length ≤ 2) ∧ o2.ok nms.length ∧ o.ok its.length)
          (fun ⟨k, nms, o2, its, o⟩ => mkS Tryz.f22.ntmps 0 [(0, .c (.v (.slice a L.length ca))), (3, .c (.v (.int .i64 (n : Int)))), (4, .c (.v (.slice (at0 ob) m.length oc))), (5, .c (.v (.int .i64 (i : Int)))), (6, .c (.v (.int .u64 x))), (7, .c (.lp 3 0)), (9, .c (.v (.int .i64 (k : Int))))])
          (fun ⟨k, nms, o2, its, o⟩ => [.fact (fun w => SlAt a (L.length * 1) (iC L) w), .app 42 5 (grC m) (at0 ob) m.length oc, .fact (fun w => ∀ p ∈ m, CellF p w), .blk 42 (vs (cellC ⟨⟨8, 0, [67], nms, its⟩, at0 o2.ob, o2.cap, at0 o.ob, o.cap⟩)), .dead, .app 9 1 (strC nms) (at0 o2.ob) nms.length o2.cap, .app 3 1 (iC its) (at0 o.ob) its.length o.cap]) (fun ⟨k, _, _, _, _⟩ => 3 - k) [.app 9 1 [] none 0 0, .app 3 1 [] none 0 0] rfl (fun ⟨_, _, _, _, _⟩ => rfl) (fun ⟨_, _, _, _, _⟩ => rfl) (fun ⟨_, _, _, _, _⟩ _ => okHB_eq rfl) ?_ ?_
        · refine ⟨(0, [], ⟨none, 0⟩, [], ⟨none, 0⟩), ⟨Nat.zero_le _, rfl, rfl, (fun y h => by cases h), (fun y h => by cases h), ⟨fun _ => ⟨rfl, rfl⟩, Nat.le_refl _, fun _ => rfl⟩, fun _ => ⟨rfl, rfl⟩, Nat.le_refl _, fun _ => rfl⟩, ?_, wkE_refl _, wkE_refl _, wkE_refl _, wkE_refl _, trivial, wkE_refl _, wkE_refl _, trivial⟩
          (repeat' (first | exact trivial | refine And.intro (by with_reducible rfl) ?_ | (with_reducible exact wkC_refl _) | (with_reducible exact wkCs_refl _) | refine And.intro ?_ ?_))
          all_goals rfl
        rintro ⟨k, nms, ⟨nb0, ncap⟩, its, ⟨ob0, ocap⟩⟩ ⟨hk, hnl, hil, hip, hnw, ho2, ho⟩
        (first | refine wX ?_ | exact wZ)
        refine brd_dec (fun h2 => ?_) (fun h2 => ?_)
        · rw [hc3] at h2
          have hk01 : k = 0 ∨ k = 1 := by omega
          rcases hk01 with rfl | rfl
          · -- a name and an item are put behind; [64, 97]: the name, 0: the round
            ((conv => whnf); (repeat ((first | refine VrN.keep ?_ | refine BoxN.own ?_ | refine RwN.own ?_); (conv => whnf))))
            refine DrawN.plan [0, 3] [(1, 1), (2, 0), (4, 1), (5, 1), (6, 0)] [(7, 0), (8, 0), (9, 0)] (by decide +kernel) ?_
            (first | refine wX ?_ | exact wZ)
            refine AppN.grow 5 (strC nms) [.string (bs [64, 97])] rfl rfl ⟨Nat.le_refl 1, ⟨by show (nms.length + 1) * 16 ≤ _; omega, by show nms.length + 1 < _; omega⟩, Nat.one_ne_zero⟩ fun xb xc hxc _ => ?_
            have hcn : strC nms ++ [.string (bs [64, 97])] = strC (nms ++ [[64, 97]]) := by simp [strC]
            have hln : nms.length + 1 = (nms ++ [([64, 97] : List UInt8)]).length := by simp
            rw [hcn, hln]
            rw [hln] at hxc
            (first | refine wX ?_ | exact wZ)
            refine DrawN.plan [0, 2, 4, 9] [(1, 1), (3, 1), (5, 1), (6, 1), (7, 1), (8, 1), (10, 1), (11, 0)] [(12, 0), (13, 0), (14, 0)] (by decide +kernel) ?_
            (first | refine wX ?_ | exact wZ)
            have hit := grw_item x 0 6 5 n hxb (by omega) (by decide) (by decide)
            simp only [Int.cast_ofNat_Int] at hit
            generalize hgi : (IntKind.i64.wrap (IntKind.u64.wrap (IntKind.u64.wrap (x.tdiv 6) + IntKind.u64.wrap (IntKind.u64.wrap (((0 : Nat) : Int)) * 5)))).tmod (n : Int) = it at *
            refine Nd.mk ⟨Nat.le_refl 1, rfl, rfl⟩ ?_
            (conv => whnf)
            refine AppN.grow 6 (iC its) [.int .i64 it] rfl rfl ⟨Nat.le_refl 1, ⟨by show (its.length + 1) * 8 ≤ _; omega, by show its.length + 1 < _; omega⟩, Nat.one_ne_zero⟩ fun wb wc hwc _ => ?_
            have hcl : iC its ++ [.int .i64 it] = iC (its ++ [it]) := by simp [iC]
            have hll : its.length + 1 = (its ++ [it]).length := by simp
            rw [hcl, hll]
            rw [hll] at hwc
            (first | refine wX ?_ | exact wZ)
            refine ⟨(0 + 1, nms ++ [([64, 97] : List UInt8)], ⟨some xb, xc⟩, its ++ [it], ⟨some wb, wc⟩), ⟨by omega, by rw [← hln, hnl], by rw [← hll, hil], ?_, ?_, ⟨(fun h => by cases h), hxc, fun h => by have : xc = 0 := h; omega⟩, (fun h => by cases h), hwc, fun h => by have : wc = 0 := h; omega⟩, by show 3 - (0 + 1) < 3 - 0; omega, ?_, wkE_refl _, wkE_refl _, wkE_refl _, wkE_refl _, trivial, wkE_refl _, wkE_refl _, trivial⟩
            · intro y hy
              rcases List.mem_append.1 hy with hy | hy
              · exact hip y hy
              · rw [List.mem_singleton.1 hy]; exact hit
            · intro y hy
              rcases List.mem_append.1 hy with hy | hy
              · exact hnw y hy
              · rw [List.mem_singleton.1 hy]; decide
            (repeat' (first | exact trivial | refine And.intro (by with_reducible rfl) ?_ | (with_reducible exact wkC_refl _) | (with_reducible exact wkCs_refl _) | refine And.intro ?_ ?_))
            all_goals first | rfl | exact av_int (by rw [wrap_i64 (by omega)]; omega)
          · -- a name and an item are put behind; [64, 98]: the name, 1: the round
            ((conv => whnf); (repeat ((first | refine VrN.keep ?_ | refine BoxN.own ?_ | refine RwN.own ?_); (conv => whnf))))
            refine DrawN.plan [0, 3] [(1, 1), (2, 0), (4, 1), (5, 1), (6, 0)] [(7, 0), (8, 0), (9, 0)] (by decide +kernel) ?_
            (first | refine wX ?_ | exact wZ)
            refine AppN.grow 5 (strC nms) [.string (bs [64, 98])] rfl rfl ⟨Nat.le_refl 1, ⟨by show (nms.length + 1) * 16 ≤ _; omega, by show nms.length + 1 < _; omega⟩, Nat.one_ne_zero⟩ fun xb xc hxc _ => ?_
            have hcn : strC nms ++ [.string (bs [64, 98])] = strC (nms ++ [[64, 98]]) := by simp [strC]
            have hln : nms.length + 1 = (nms ++ [([64, 98] : List UInt8)]).length := by simp
            rw [hcn, hln]
            rw [hln] at hxc
            (first | refine wX ?_ | exact wZ)
            refine DrawN.plan [0, 2, 4, 9] [(1, 1), (3, 1), (5, 1), (6, 1), (7, 1), (8, 1), (10, 1), (11, 0)] [(12, 0), (13, 0), (14, 0)] (by decide +kernel) ?_
            (first | refine wX ?_ | exact wZ)
            have hit := grw_item x 1 6 5 n hxb (by omega) (by decide) (by decide)
            simp only [Int.cast_ofNat_Int] at hit
            generalize hgi : (IntKind.i64.wrap (IntKind.u64.wrap (IntKind.u64.wrap (x.tdiv 6) + IntKind.u64.wrap (IntKind.u64.wrap (((1 : Nat) : Int)) * 5)))).tmod (n : Int) = it at *
            refine Nd.mk ⟨Nat.le_refl 1, rfl, rfl⟩ ?_
            (conv => whnf)
            refine AppN.grow 6 (iC its) [.int .i64 it] rfl rfl ⟨Nat.le_refl 1, ⟨by show (its.length + 1) * 8 ≤ _; omega, by show its.length + 1 < _; omega⟩, Nat.one_ne_zero⟩ fun wb wc hwc _ => ?_
            have hcl : iC its ++ [.int .i64 it] = iC (its ++ [it]) := by simp [iC]
            have hll : its.length + 1 = (its ++ [it]).length := by simp
            rw [hcl, hll]
            rw [hll] at hwc
            (first | refine wX ?_ | exact wZ)
            refine ⟨(1 + 1, nms ++ [([64, 98] : List UInt8)], ⟨some xb, xc⟩, its ++ [it], ⟨some wb, wc⟩), ⟨by omega, by rw [← hln, hnl], by rw [← hll, hil], ?_, ?_, ⟨(fun h => by cases h), hxc, fun h => by have : xc = 0 := h; omega⟩, (fun h => by cases h), hwc, fun h => by have : wc = 0 := h; omega⟩, by show 3 - (1 + 1) < 3 - 1; omega, ?_, wkE_refl _, wkE_refl _, wkE_refl _, wkE_refl _, trivial, wkE_refl _, wkE_refl _, trivial⟩
            · intro y hy
              rcases List.mem_append.1 hy with hy | hy
              · exact hip y hy
              · rw [List.mem_singleton.1 hy]; exact hit
            · intro y hy
              rcases List.mem_append.1 hy with hy | hy
              · exact hnw y hy
              · rw [List.mem_singleton.1 hy]; decide
            (repeat' (first | exact trivial | refine And.intro (by with_reducible rfl) ?_ | (with_reducible exact wkC_refl _) | (with_reducible exact wkCs_refl _) | refine And.intro ?_ ?_))
            all_goals first | rfl | exact av_int (by rw [wrap_i64 (by omega)]; omega)
        · clear hc3
          have hna : at0 ob0 = none → its = [] := fun h => by
            cases ob0 with
            | none => exact List.eq_nil_of_length_eq_zero (ho.1 rfl).1
            | some b => cases h
          have hnn : at0 nb0 = none → nms = [] := fun h => by
            cases nb0 with
            | none => exact List.eq_nil_of_length_eq_zero (ho2.1 rfl).1
            | some b => cases h
          have hoc2' : its.length ≤ ocap := ho.2.1
          have hnc2' : nms.length ≤ ncap := ho2.2.1
          -- the cell is put behind the graph; ⟨⟨8, 0, [67], nms, its⟩, at0 nb0, ncap, at0 ob0, ocap⟩: the cell, , .dead, .dead, .dead, .dead, .dead: what else is over, ⟨hw.2.2.1, hw.2.2.2.1⟩: its rows
          (first | refine wX ?_ | exact wZ)
          try refine Nd.mk ⟨Nat.le_refl 1, rfl, rfl⟩ ?_
          (conv => whnf)
          refine AppN.grow 1 (grC m) (cellC (⟨⟨8, 0, [67], nms, its⟩, at0 nb0, ncap, at0 ob0, ocap⟩ : CellP)) rfl rfl ⟨Nat.le_refl 1, ⟨by show (m.length + 1) * 80 ≤ _; omega, by omega⟩, by decide⟩ fun ob2 oc2 hoc2 _ => ?_
          (first | refine wX ?_ | exact wZ)
          have hm2 : m.length + 1 = (m ++ [(⟨⟨8, 0, [67], nms, its⟩, at0 nb0, ncap, at0 ob0, ocap⟩ : CellP)]).length := by simp
          have hg2 := grC_snoc m ⟨⟨8, 0, [67], nms, its⟩, at0 nb0, ncap, at0 ob0, ocap⟩
          refine ⟨⟨i + 1, some ob2, oc2, m ++ [⟨⟨8, 0, [67], nms, its⟩, at0 nb0, ncap, at0 ob0, ocap⟩]⟩, ⟨by omega, by rw [← hm2, hml], ?_, (fun h => by cases h), by rw [← hm2]; exact hoc2⟩, by show n - (i + 1) < n - i; omega, ?_, [.fact (fun w => SlAt a (L.length * 1) (iC L) w), .app 42 5 (grC m ++ cellC ⟨⟨8, 0, [67], nms, its⟩, at0 nb0, ncap, at0 ob0, ocap⟩) (some ⟨ob2, 0, none⟩) (m.length + 1) oc2, .fact (fun w => ∀ q ∈ m ++ [(⟨⟨8, 0, [67], nms, its⟩, at0 nb0, ncap, at0 ob0, ocap⟩ : CellP)], CellF q w), .dead, .dead, .dead, .dead, .dead], turnS ⟨.inr (.inl rfl), .inr (.inl rfl), .inr (.inr ⟨_, rfl, fun w hw q hq => ?_⟩), by repeat (first | exact trivial | refine ⟨.inl rfl, ?_⟩)⟩, ?_⟩
          · intro q hq
            rcases List.mem_append.1 hq with hq | hq
            · exact hmo q hq
            · rw [List.mem_singleton.1 hq]
              exact ⟨⟨hnn, hna, by show nms.length ≤ _; omega, by show its.length ≤ _; omega, (fun s h => Nat.le_trans (hnw s h) (by decide)), Nat.le_of_ble_eq_true rfl, hnc2', hoc2'⟩, hip, by show its.length ≤ 4; omega, by show nms.length ≤ 2; omega⟩
          · (repeat' (first | exact trivial | refine And.intro (by with_reducible rfl) ?_ | (with_reducible exact wkC_refl _) | (with_reducible exact wkCs_refl _) | refine And.intro ?_ ?_))
            all_goals first | rfl | exact av_int (by rw [wrap_i64 (by omega)]; omega) | (rw [hm2]; rfl)
          · rcases List.mem_append.1 hq with hq | hq
            · exact hw.2.1 q hq
            · rw [List.mem_singleton.1 hq]
              exact ⟨hw.2.2.1, hw.2.2.2.1⟩
          · show wkH _ [Ent.fact _, .app 42 5 (grC (m ++ [_])) _ (m ++ [_]).length _, _]
            rw [← hm2, hg2]
            exact ⟨wkE_refl _, wkE_refl _, wkE_refl _, trivial⟩
      · (first | refine wX ?_ | exact wZ)
        refine LoopN.intro (Nat × List (List UInt8) × BSt × List Int × BSt) (fun ⟨k, nms, o2, its, o⟩ => k ≤ 2 ∧ nms.length = k ∧ its.length = k ∧ (∀ y ∈ its, 0 ≤ y) ∧ (∀ s ∈ nms, s.length ≤ 2) ∧ o2.ok nms.length ∧ o.ok its.length)
          (fun ⟨k, nms, o2, its, o⟩ => mkS Tryz.f22.ntmps 0 [(0, .c (.v (.slice a L.length ca))), (3, .c (.v (.int .i64 (n : Int)))), (4, .c (.v (.slice (at0 ob) m.length oc))), (5, .c (.v (.int .i64 (i : Int)))), (6, .c (.v (.int .u64 x))), (7, .c (.lp 3 0)), (9, .c (.v (.int .i64 (k : Int))))])
          (fun ⟨k, nms, o2, its, o⟩ => [.fact (fun w => SlAt a (L.length * 1) (iC L) w), .app 42 5 (grC m) (at0 ob) m.length oc, .fact (fun w => ∀ p ∈ m, CellF p w), .blk 42 (vs (cellC ⟨⟨8, 0, [68], nms, its⟩, at0 o2.ob, o2.cap, at0 o.ob, o.cap⟩)), .dead, .app 9 1 (strC nms) (at0 o2.ob) nms.length o2.cap, .app 3 1 (iC its) (at0 o.ob) its.length o.cap]) (fun ⟨k, _, _, _, _⟩ => 3 - k) [.app 9 1 [] none 0 0, .app 3 1 [] none 0 0] rfl (fun ⟨_, _, _, _, _⟩ => rfl) (fun ⟨_, _, _, _, _⟩ => rfl) (fun ⟨_, _, _, _, _⟩ _ => okHB_eq rfl) ?_ ?_
        · refine ⟨(0, [], ⟨none, 0⟩, [], ⟨none, 0⟩), ⟨Nat.zero_le _, rfl, rfl, (fun y h => by cases h), (fun y h => by cases h), ⟨fun _ => ⟨rfl, rfl⟩, Nat.le_refl _, fun _ => rfl⟩, fun _ => ⟨rfl, rfl⟩, Nat.le_refl _, fun _ => rfl⟩, ?_, wkE_refl _, wkE_refl _, wkE_refl _, wkE_refl _, trivial, wkE_refl _, wkE_refl _, trivial⟩
          (repeat' (first | exact trivial | refine And.intro (by with_reducible rfl) ?_ | (with_reducible exact wkC_refl _) | (with_reducible exact wkCs_refl _) | refine And.intro ?_ ?_))
          all_goals rfl
        rintro ⟨k, nms, ⟨nb0, ncap⟩, its, ⟨ob0, ocap⟩⟩ ⟨hk, hnl, hil, hip, hnw, ho2, ho⟩
        (first | refine wX ?_ | exact wZ)
        refine brd_dec (fun h2 => ?_) (fun h2 => ?_)
        · rw [hc3] at h2
          have hk01 : k = 0 ∨ k = 1 := by omega
          rcases hk01 with rfl | rfl
          · -- a name and an item are put behind; [64, 97]: the name, 0: the round
            ((conv => whnf); (repeat ((first | refine VrN.keep ?_ | refine BoxN.own ?_ | refine RwN.own ?_); (conv => whnf))))
            refine DrawN.plan [0, 3] [(1, 1), (2, 0), (4, 1), (5, 1), (6, 0)] [(7, 0), (8, 0), (9, 0)] (by decide +kernel) ?_
            (first | refine wX ?_ | exact wZ)
            refine AppN.grow 5 (strC nms) [.string (bs [64, 97])] rfl rfl ⟨Nat.le_refl 1, ⟨by show (nms.length + 1) * 16 ≤ _; omega, by show nms.length + 1 < _; omega⟩, Nat.one_ne_zero⟩ fun xb xc hxc _ => ?_
            have hcn : strC nms ++ [.string (bs [64, 97])] = strC (nms ++ [[64, 97]]) := by simp [strC]
            have hln : nms.length + 1 = (nms ++ [([64, 97] : List UInt8)]).length := by simp
            rw [hcn, hln]
            rw [hln] at hxc
            (first | refine wX ?_ | exact wZ)
            refine DrawN.plan [0, 2, 4, 9] [(1, 1), (3, 1), (5, 1), (6, 1), (7, 1), (8, 1), (10, 1), (11, 0)] [(12, 0), (13, 0), (14, 0)] (by decide +kernel) ?_
            (first | refine wX ?_ | exact wZ)
            have hit := grw_item x 0 6 5 n hxb (by omega) (by decide) (by decide)
            simp only [Int.cast_ofNat_Int] at hit
            generalize hgi : (IntKind.i64.wrap (IntKind.u64.wrap (IntKind.u64.wrap (x.tdiv 6) + IntKind.u64.wrap (IntKind.u64.wrap (((0 : Nat) : Int)) * 5)))).tmod (n : Int) = it at *
            refine Nd.mk ⟨Nat.le_refl 1, rfl, rfl⟩ ?_
            (conv => whnf)
            refine AppN.grow 6 (iC its) [.int .i64 it] rfl rfl ⟨Nat.le_refl 1, ⟨by show (its.length + 1) * 8 ≤ _; omega, by show its.length + 1 < _; omega⟩, Nat.one_ne_zero⟩ fun wb wc hwc _ => ?_
            have hcl : iC its ++ [.int .i64 it] = iC (its ++ [it]) := by simp [iC]
            have hll : its.length + 1 = (its ++ [it]).length := by simp
            rw [hcl, hll]
            rw [hll] at hwc
            (first | refine wX ?_ | exact wZ)
            refine ⟨(0 + 1, nms ++ [([64, 97] : List UInt8)], ⟨some xb, xc⟩, its ++ [it], ⟨some wb, wc⟩), ⟨by omega, by rw [← hln, hnl], by rw [← hll, hil], ?_, ?_, ⟨(fun h => by cases h), hxc, fun h => by have : xc = 0 := h; omega⟩, (fun h => by cases h), hwc, fun h => by have : wc = 0 := h; omega⟩, by show 3 - (0 + 1) < 3 - 0; omega, ?_, wkE_refl _, wkE_refl _, wkE_refl _, wkE_refl _, trivial, wkE_refl _, wkE_refl _, trivial⟩
            · intro y hy
              rcases List.mem_append.1 hy with hy | hy
              · exact hip y hy
              · rw [List.mem_singleton.1 hy]; exact hit
            · intro y hy
              rcases List.mem_append.1 hy with hy | hy
              · exact hnw y hy
              · rw [List.mem_singleton.1 hy]; decide
            (repeat' (first | exact trivial | refine And.intro (by with_reducible rfl) ?_ | (with_reducible exact wkC_refl _) | (with_reducible exact wkCs_refl _) | refine And.intro ?_ ?_))
            all_goals first | rfl | exact av_int (by rw [wrap_i64 (by omega)]; omega)
          · -- a name and an item are put behind; [64, 98]: the name, 1: the round
            ((conv => whnf); (repeat ((first | refine VrN.keep ?_ | refine BoxN.own ?_ | refine RwN.own ?_); (conv => whnf))))
            refine DrawN.plan [0, 3] [(1, 1), (2, 0), (4, 1), (5, 1), (6, 0)] [(7, 0), (8, 0), (9, 0)] (by decide +kernel) ?_
            (first | refine wX ?_ | exact wZ)
            refine AppN.grow 5 (strC nms) [.string (bs [64, 98])] rfl rfl ⟨Nat.le_refl 1, ⟨by show (nms.length + 1) * 16 ≤ _; omega, by show nms.length + 1 < _; omega⟩, Nat.one_ne_zero⟩ fun xb xc hxc _ => ?_
            have hcn : strC nms ++ [.string (bs [64, 98])] = strC (nms ++ [[64, 98]]) := by simp [strC]
            have hln : nms.length + 1 = (nms ++ [([64, 98] : List UInt8)]).length := by simp
            rw [hcn, hln]
            rw [hln] at hxc
            (first | refine wX ?_ | exact wZ)
            refine DrawN.plan [0, 2, 4, 9] [(1, 1), (3, 1), (5, 1), (6, 1), (7, 1), (8, 1), (10, 1), (11, 0)] [(12, 0), (13, 0), (14, 0)] (by decide +kernel) ?_
            (first | refine wX ?_ | exact wZ)
            have hit := grw_item x 1 6 5 n hxb (by omega) (by decide) (by decide)
            simp only [Int.cast_ofNat_Int] at hit
            generalize hgi : (IntKind.i64.wrap (IntKind.u64.wrap (IntKind.u64.wrap (x.tdiv 6) + IntKind.u64.wrap (IntKind.u64.wrap (((1 : Nat) : Int)) * 5)))).tmod (n : Int) = it at *
            refine Nd.mk ⟨Nat.le_refl 1, rfl, rfl⟩ ?_
            (conv => whnf)
            refine AppN.grow 6 (iC its) [.int .i64 it] rfl rfl ⟨Nat.le_refl 1, ⟨by show (its.length + 1) * 8 ≤ _; omega, by show its.length + 1 < _; omega⟩, Nat.one_ne_zero⟩ fun wb wc hwc _ => ?_
            have hcl : iC its ++ [.int .i64 it] = iC (its ++ [it]) := by simp [iC]
            have hll : its.length + 1 = (its ++ [it]).length := by simp
            rw [hcl, hll]
            rw [hll] at hwc
            (first | refine wX ?_ | exact wZ)
            refine ⟨(1 + 1, nms ++ [([64, 98] : List UInt8)], ⟨some xb, xc⟩, its ++ [it], ⟨some wb, wc⟩), ⟨by omega, by rw [← hln, hnl], by rw [← hll, hil], ?_, ?_, ⟨(fun h => by cases h), hxc, fun h => by have : xc = 0 := h; omega⟩, (fun h => by cases h), hwc, fun h => by have : wc = 0 := h; omega⟩, by show 3 - (1 + 1) < 3 - 1; omega, ?_, wkE_refl _, wkE_refl _, wkE_refl _, wkE_refl _, trivial, wkE_refl _, wkE_refl _, trivial⟩
            · intro y hy
              rcases List.mem_append.1 hy with hy | hy
              · exact hip y hy
              · rw [List.mem_singleton.1 hy]; exact hit
            · intro y hy
              rcases List.mem_append.1 hy with hy | hy
              · exact hnw y hy
              · rw [List.mem_singleton.1 hy]; decide
            (repeat' (first | exact trivial | refine And.intro (by with_reducible rfl) ?_ | (with_reducible exact wkC_refl _) | (with_reducible exact wkCs_refl _) | refine And.intro ?_ ?_))
            all_goals first | rfl | exact av_int (by rw [wrap_i64 (by omega)]; omega)
        · clear hc3
          have hna : at0 ob0 = none → its = [] := fun h => by
            cases ob0 with
            | none => exact List.eq_nil_of_length_eq_zero (ho.1 rfl).1
            | some b => cases h
          have hnn : at0 nb0 = none → nms = [] := fun h => by
            cases nb0 with
            | none => exact List.eq_nil_of_length_eq_zero (ho2.1 rfl).1
            | some b => cases h
          have hoc2' : its.length ≤ ocap := ho.2.1
          have hnc2' : nms.length ≤ ncap := ho2.2.1
          -- the cell is put behind the graph; ⟨⟨8, 0, [68], nms, its⟩, at0 nb0, ncap, at0 ob0, ocap⟩: the cell, , .dead, .dead, .dead, .dead, .dead: what else is over, ⟨hw.2.2.1, hw.2.2.2.1⟩: its rows
          (first | refine wX ?_ | exact wZ)
          try refine Nd.mk ⟨Nat.le_refl 1, rfl, rfl⟩ ?_
          (conv => whnf)
          refine AppN.grow 1 (grC m) (cellC (⟨⟨8, 0, [68], nms, its⟩, at0 nb0, ncap, at0 ob0, ocap⟩ : CellP)) rfl rfl ⟨Nat.le_refl 1, ⟨by show (m.length + 1) * 80 ≤ _; omega, by omega⟩, by decide⟩ fun ob2 oc2 hoc2 _ => ?_
          (first | refine wX ?_ | exact wZ)
          have hm2 : m.length + 1 = (m ++ [(⟨⟨8, 0, [68], nms, its⟩, at0 nb0, ncap, at0 ob0, ocap⟩ : CellP)]).length := by simp
          have hg2 := grC_snoc m ⟨⟨8, 0, [68], nms, its⟩, at0 nb0, ncap, at0 ob0, ocap⟩
          refine ⟨⟨i + 1, some ob2, oc2, m ++ [⟨⟨8, 0, [68], nms, its⟩, at0 nb0, ncap, at0 ob0, ocap⟩]⟩, ⟨by omega, by rw [← hm2, hml], ?_, (fun h => by cases h), by rw [← hm2]; exact hoc2⟩, by show n - (i + 1) < n - i; omega, ?_, [.fact (fun w => SlAt a (L.length * 1) (iC L) w), .app 42 5 (grC m ++ cellC ⟨⟨8, 0, [68], nms, its⟩, at0 nb0, ncap, at0 ob0, ocap⟩) (some ⟨ob2, 0, none⟩) (m.length + 1) oc2, .fact (fun w => ∀ q ∈ m ++ [(⟨⟨8, 0, [68], nms, its⟩, at0 nb0, ncap, at0 ob0, ocap⟩ : CellP)], CellF q w), .dead, .dead, .dead, .dead, .dead], turnS ⟨.inr (.inl rfl), .inr (.inl rfl), .inr (.inr ⟨_, rfl, fun w hw q hq => ?_⟩), by repeat (first | exact trivial | refine ⟨.inl rfl, ?_⟩)⟩, ?_⟩
          · intro q hq
            rcases List.mem_append.1 hq with hq | hq
            · exact hmo q hq
            · rw [List.mem_singleton.1 hq]
              exact ⟨⟨hnn, hna, by show nms.length ≤ _; omega, by show its.length ≤ _; omega, (fun s h => Nat.le_trans (hnw s h) (by decide)), Nat.le_of_ble_eq_true rfl, hnc2', hoc2'⟩, hip, by show its.length ≤ 4; omega, by show nms.length ≤ 2; omega⟩
          · (repeat' (first | exact trivial | refine And.intro (by with_reducible rfl) ?_ | (with_reducible exact wkC_refl _) | (with_reducible exact wkCs_refl _) | refine And.intro ?_ ?_))
            all_goals first | rfl | exact av_int (by rw [wrap_i64 (by omega)]; omega) | (rw [hm2]; rfl)
          · rcases List.mem_append.1 hq with hq | hq
            · exact hw.2.1 q hq
            · rw [List.mem_singleton.1 hq]
              exact ⟨hw.2.2.1, hw.2.2.2.1⟩
          · show wkH _ [Ent.fact _, .app 42 5 (grC (m ++ [_])) _ (m ++ [_]).length _, _]
            rw [← hm2, hg2]
            exact ⟨wkE_refl _, wkE_refl _, wkE_refl _, trivial⟩
  · have hin : i = n := by omega
    subst hin
    (first | refine wX ?_ | exact wZ)
    refine LoopN.introS (Nat × List CellP) (fun ⟨j, m⟩ => j ≤ i ∧ m.length = i ∧ (∀ p ∈ m, GrwC i p)) (fun ⟨j, m⟩ => mkS Tryz.f22.ntmps 0 [(0, .c (.v (.slice a L.length ca))), (3, .c (.v (.int .i64 (i : Int)))), (4, .c (.v (.slice (at0 ob) i oc))), (10, .c (.v (.int .i64 (j : Int))))]) (fun ⟨j, m⟩ => [.fact (fun w => SlAt a (L.length * 1) (iC L) w), .app 42 5 (grC m) (at0 ob) i oc, .fact (fun w => ∀ p ∈ m, CellF p w)]) (fun ⟨j, _⟩ => i - j) [] rfl (fun _ => rfl) (fun _ => rfl) (fun _ _ => ⟨trivial, trivial, trivial, trivial⟩) ?_ ?_
    · refine ⟨(0, m), ⟨Nat.zero_le _, hml, hmo⟩, ?_, _, turn_refl _, wkE_refl _, ?_, wkE_refl _, trivial⟩
      · (repeat' (first | exact trivial | refine And.intro (by with_reducible rfl) ?_ | (with_reducible exact wkC_refl _) | (with_reducible exact wkCs_refl _) | refine And.intro ?_ ?_))
        all_goals first | rfl | rw [hml]
      · rw [← hml]; exact wkE_refl _
    rintro ⟨j, m2⟩ ⟨hj, hm2l, hm2o⟩
    (first | refine wX ?_ | exact wZ)
    refine brd_dec (fun h2 => ?_) (fun h2 => ?_)
    · obtain ⟨p, hp⟩ : ∃ p, m2[j]? = some p := ⟨_, List.getElem?_eq_getElem (by omega)⟩
      obtain ⟨gb, rfl⟩ : ∃ gb, ob = some gb := by
        cases ob with
        | none => have := hoa rfl; subst this; simp only [List.length_nil] at hml; omega
        | some gb => exact ⟨gb, rfl⟩
      obtain ⟨z, hz⟩ : ∃ z, L[j]? = some z := ⟨_, List.getElem?_eq_getElem (by omega)⟩
      have hsa : a.isSome = true := by
        cases a with
        | none => rw [ha rfl] at hz; cases hz
        | some b => rfl
      (first | refine wX ?_ | exact wZ)
      refine Nd.mk ⟨rfl, by omega, by omega⟩ ?_
      (first | refine wX ?_ | exact wZ)
      refine LdN.fld (.int .i64 p.c.kind) rfl (fun w hw => hw.2.1) (by rw [Int.toNat_natCast]; exact grC_get m2 j 0 (by decide) hp) ?_
      (first | refine wX ?_ | exact wZ)
      refine brd_eq (fun h7 => ?_) (fun h7 => ?_)
      rotate_left
      · (first | refine wX ?_ | exact wZ)
        refine ⟨(j + 1, m2), ⟨by omega, hm2l, hm2o⟩, by show i - (j + 1) < i - j; omega, ?_, _, turn_refl _, wkE_refl _, wkE_refl _, wkE_refl _, trivial⟩
        (repeat' (first | exact trivial | refine And.intro (by with_reducible rfl) ?_ | (with_reducible exact wkC_refl _) | (with_reducible exact wkCs_refl _) | refine And.intro ?_ ?_))
        all_goals first | rfl | exact av_int (by rw [wrap_i64 (by omega)]; omega)
      (first | refine wX ?_ | exact wZ)
      refine Nd.mk ⟨hsa, by omega, by omega⟩ ?_
      (first | refine wX ?_ | exact wZ)
      refine LdN.one (.int .i64 z) rfl (fun w hw => hw.1) (by rw [Int.toNat_natCast]; show (iC L)[j * 1]? = _; rw [Nat.mul_one]; exact iC_get hz) ?_
      ((conv => whnf); (repeat ((first | refine BoxN.own ?_ | refine VrN.norm (wrap_i64 (by omega)) ?_ | refine VrN.keep ?_ | refine DrawN.calm (by decide +kernel) ?_ | refine Nd.mk (by decide +kernel) ?_ | refine Nd.mk (by omega) ?_ | (refine Nd.mk ?_ ?_; focus ((repeat' (first | exact trivial | exact wkE_refl _ | refine And.intro ?_ ?_)); done)) | refine RdN.intro _ rfl (by rfl) ?_); (conv => whnf))))
      have hXb := wrap_u64_bd z
      generalize IntKind.u64.wrap z = X at *
      have hx0 : IntKind.u64.wrap (X.tdiv 9) = X / 9 := by rw [Int.tdiv_eq_ediv_of_nonneg (by omega)]; exact wrap_u64 (by omega)
      rw [hx0]
      obtain ⟨x, hx⟩ : ∃ x, x = X / 9 := ⟨_, rfl⟩
      rw [← hx]
      have hxb : 0 ≤ x ∧ x ≤ 2049638230412172402 := by omega
      clear hx0 hXb
      refine DrawN.plan [0, 1, 2, 4, 6, 9] [(3, 1), (5, 1), (7, 1), (8, 1), (10, 1), (11, 0), (12, 1), (13, 1)] [(14, 0)] (by decide +kernel) ?_
      ((conv => whnf); (repeat ((first | refine BoxN.own ?_ | refine VrN.norm (wrap_i64 (by omega)) ?_ | refine VrN.keep ?_ | refine DrawN.calm (by decide +kernel) ?_ | refine Nd.mk (by decide +kernel) ?_ | refine Nd.mk (by omega) ?_ | (refine Nd.mk ?_ ?_; focus ((repeat' (first | exact trivial | exact wkE_refl _ | refine And.intro ?_ ?_)); done)) | refine RdN.intro _ rfl (by rfl) ?_); (conv => whnf))))
      obtain ⟨v1, hv1⟩ : ∃ v, v = (IntKind.i64.wrap x).tmod (i : Int) := ⟨_, rfl⟩
      obtain ⟨v2, hv2⟩ : ∃ v, v = (IntKind.i64.wrap (IntKind.u64.wrap (x.tdiv 3))).tmod (i : Int) := ⟨_, rfl⟩
      rw [← hv1, ← hv2]
      refine RwN.known [.int .i64 v1, .int .i64 v2] rfl fun ib => ?_
      ((conv => whnf); (repeat ((first | refine BoxN.own ?_ | refine VrN.norm (wrap_i64 (by omega)) ?_ | refine VrN.keep ?_ | refine DrawN.calm (by decide +kernel) ?_ | refine Nd.mk (by decide +kernel) ?_ | refine Nd.mk (by omega) ?_ | (refine Nd.mk ?_ ?_; focus ((repeat' (first | exact trivial | exact wkE_refl _ | refine And.intro ?_ ?_)); done)) | refine RdN.intro _ rfl (by rfl) ?_); (conv => whnf))))
      refine Nd.mk ⟨rfl, by omega, by omega⟩ ?_
      ((conv => whnf); (repeat ((first | refine BoxN.own ?_ | refine VrN.norm (wrap_i64 (by omega)) ?_ | refine VrN.keep ?_ | refine DrawN.calm (by decide +kernel) ?_ | refine Nd.mk (by decide +kernel) ?_ | refine Nd.mk (by omega) ?_ | (refine Nd.mk ?_ ?_; focus ((repeat' (first | exact trivial | exact wkE_refl _ | refine And.intro ?_ ?_)); done)) | refine RdN.intro _ rfl (by rfl) ?_); (conv => whnf))))
      have hgl2 : (grC m2).length = i * 5 := by rw [grC_len, hm2l]
      refine EffW.appTo (i := 1) (q := j * 5 + 4) (ys := [.slice (some ⟨ib, 0, none⟩) 2 2]) (grC (m2.set j (setI p [v1, v2] (some ⟨ib, 0, none⟩) 2))) 5 rfl (by rw [Int.toNat_natCast]; show AV.c (CV.v (Value.pointer (some (((⟨gb, 0, none⟩ : Addr).add (j * 5)).add 4)))) = _; rw [add_lit0, add_lit]) rfl rfl rfl rfl rfl (by show _ + 1 ≤ _ * 5; omega) (by rw [put_set _ (by omega)]; exact grC_set [v1, v2] _ 2 hp) rfl ?_
      have hpm := List.mem_of_getElem? hp
      have hq1 : 0 ≤ v1 := by rw [hv1, wrap_i64 (by omega)]; exact Int.tmod_nonneg _ (by omega)
      have hq2 : 0 ≤ v2 := by
        have : 0 ≤ x.tdiv 3 ∧ x.tdiv 3 ≤ x := by rw [Int.tdiv_eq_ediv_of_nonneg hxb.1]; omega
        rw [hv2, wrap_u64 (by omega), wrap_i64 (by omega)]
        exact Int.tmod_nonneg _ (by omega)
      clear hv1 hv2
      have hi12 : i ≤ 12 := by omega
      (first | refine wX ?_ | exact wZ)
      refine brd_dec (fun h3 => ?_) (fun h3 => ?_)
      rotate_left
      · -- is it valid still? [v1, v2]: the items, ib: their block, 2: its capacity, , .dead, .dead, .dead: what is over, (by simp [hq1, hq2]): no item is below 0
        (first | refine wX ?_ | exact wZ)
        have hG : ∀ q ∈ m2.set j (setI p [v1, v2] (some ⟨ib, 0, none⟩) 2), GrwC i q := grw_set hm2o hpm ib 2 (by simp [hq1, hq2]) (Nat.le_of_ble_eq_true rfl) (Nat.le_refl 2)
        have hlen : (m2.set j (setI p [v1, v2] (some ⟨ib, 0, none⟩) 2)).length = i := by rw [List.length_set, hm2l]
        have has := as_o (at0 (some gb)) oc (m2.set j (setI p [v1, v2] (some ⟨ib, 0, none⟩) 2)) (fun h => by cases h) (grw_small hG (by omega)) (fun q hq => (hG q hq).ok)
        rw [hlen] at has
        refine factG (fun _ => rfl) has ?_ fun st hst => ?_
        · exact fun w hw => ⟨by rw [hlen]; exact hw.2.1, set_rows hpm hw.2.2.1 hw.2.2.2.1⟩
        obtain ⟨t, ht1, ht2⟩ := Valid_b st.oa st.oc st.m hst.oa (by have := congrArg List.length hst.c; simp only [List.length_map] at this; omega) hst.ok
        (first | refine wX ?_ | exact wZ)
        refine call1 (ht2 _ (fun w hw => hst.gr hw.2.2.2.2.1 hw.2.2.2.2.2.1)) ?_
        cases t with
        | true =>
          (first | refine wX ?_ | exact wZ)
          refine ⟨(j + 1, m2.set j (setI p [v1, v2] (some ⟨ib, 0, none⟩) 2)), ⟨by omega, hlen, hG⟩, by show i - (j + 1) < i - j; omega, ?_, [.fact (fun w => SlAt a (L.length * 1) (iC L) w), .app 42 5 (grC (m2.set j (setI p [v1, v2] (some ⟨ib, 0, none⟩) 2))) (some ⟨gb, 0, none⟩) i oc, .fact (fun w => ∀ q ∈ m2.set j (setI p [v1, v2] (some ⟨ib, 0, none⟩) 2), CellF q w), .dead, .dead, .dead], turnS ⟨.inr (.inl rfl), .inr (.inl rfl), .inr (.inr ⟨_, rfl, fun w hw => set_rows hpm hw.2.1 hw.2.2.1⟩), by repeat (first | exact trivial | refine ⟨.inl rfl, ?_⟩)⟩, wkE_refl _, wkE_refl _, wkE_refl _, trivial⟩
          (repeat' (first | exact trivial | refine And.intro (by with_reducible rfl) ?_ | (with_reducible exact wkC_refl _) | (with_reducible exact wkCs_refl _) | refine And.intro ?_ ?_))
          all_goals first | rfl | exact av_int (by rw [wrap_i64 (by omega)]; omega)
        | false =>
          have hp2 : (m2.set j (setI p [v1, v2] (some ⟨ib, 0, none⟩) 2))[j]? = some (setI p [v1, v2] (some ⟨ib, 0, none⟩) 2) := by rw [List.getElem?_set_self (by omega)]
          have hG2 : ∀ q ∈ m2.set j (setI p [v1, v2] (some ⟨ib, 0, none⟩) 2), GrwC i q := grw_set hm2o hpm ib 2 (by simp [hq1, hq2]) (Nat.le_of_ble_eq_true rfl) (by show 2 ≤ _; first | exact Nat.le_refl 2 | omega)
          have hlen2 : (m2.set j (setI p [v1, v2] (some ⟨ib, 0, none⟩) 2)).length = i := by rw [List.length_set, hm2l]
          have hgl3 : (grC (m2.set j (setI p [v1, v2] (some ⟨ib, 0, none⟩) 2))).length = i * 5 := by rw [grC_len, hlen]
          (first | refine wX ?_ | exact wZ)
          refine Nd.mk ⟨rfl, by omega, by omega⟩ ?_
          (first | refine wX ?_ | exact wZ)
          refine LdN.fld (.slice (some ⟨ib, 0, none⟩) (List.length [v1, v2]) 2) rfl (fun w hw => hw.2.1) (by rw [Int.toNat_natCast]; exact grC_get _ j 4 (by decide) hp2) ?_
          (first | refine wX ?_ | exact wZ)
          refine ReadW.slc_h (ob := some ib) rfl (by kernel_rfl) rfl rfl ⟨by decide, by first | decide | omega⟩ ?_
          (first | refine wX ?_ | exact wZ)
          refine Nd.mk ⟨rfl, by omega, by omega⟩ ?_
          (first | refine wX ?_ | exact wZ)
          refine EffW.appTo (i := 1) (q := j * 5 + 4) (ys := [.slice (some ⟨ib, 0, none⟩) 2 2]) (grC (m2.set j (setI p [v1, v2] (some ⟨ib, 0, none⟩) 2))) 5 rfl (by rw [Int.toNat_natCast]; show AV.c (CV.v (Value.pointer (some (((⟨gb, 0, none⟩ : Addr).add (j * 5)).add 4)))) = _; rw [add_lit0, add_lit]) rfl rfl rfl rfl rfl (by show _ + 1 ≤ _ * 5; omega) (by rw [put_set _ (by omega)]; have := grC_set [v1, v2] (some ⟨ib, 0, none⟩) 2 hp2; rw [List.set_set] at this; exact this) rfl ?_
          (first | refine wX ?_ | exact wZ)
          refine ⟨(j + 1, m2.set j (setI p [v1, v2] (some ⟨ib, 0, none⟩) 2)), ⟨by omega, hlen2, hG2⟩, by show i - (j + 1) < i - j; omega, ?_, [.fact (fun w => SlAt a (L.length * 1) (iC L) w), .app 42 5 (grC (m2.set j (setI p [v1, v2] (some ⟨ib, 0, none⟩) 2))) (some ⟨gb, 0, none⟩) i oc, .fact (fun w => ∀ q ∈ m2.set j (setI p [v1, v2] (some ⟨ib, 0, none⟩) 2), CellF q w), .dead, .dead, .dead], turnS ⟨.inr (.inl rfl), .inr (.inl rfl), .inr (.inr ⟨_, rfl, fun w hw => set_rows hpm hw.2.1 (SlAt.take (j := 2) hw.2.2.1 (Nat.le_of_ble_eq_true rfl))⟩), by repeat (first | exact trivial | refine ⟨.inl rfl, ?_⟩)⟩, wkE_refl _, wkE_refl _, wkE_refl _, trivial⟩
          (repeat' (first | exact trivial | refine And.intro (by with_reducible rfl) ?_ | (with_reducible exact wkC_refl _) | (with_reducible exact wkCs_refl _) | refine And.intro ?_ ?_))
          all_goals first | rfl | exact av_int (by rw [wrap_i64 (by omega)]; omega)
      (first | refine wX ?_ | exact wZ)
      refine brd_eq (fun h4 => ?_) (fun h4 => ?_)
      rotate_left
      · -- is it valid still? [v1, v2]: the items, ib: their block, 2: its capacity, , .dead, .dead, .dead: what is over, (by simp [hq1, hq2]): no item is below 0
        (first | refine wX ?_ | exact wZ)
        have hG : ∀ q ∈ m2.set j (setI p [v1, v2] (some ⟨ib, 0, none⟩) 2), GrwC i q := grw_set hm2o hpm ib 2 (by simp [hq1, hq2]) (Nat.le_of_ble_eq_true rfl) (Nat.le_refl 2)
        have hlen : (m2.set j (setI p [v1, v2] (some ⟨ib, 0, none⟩) 2)).length = i := by rw [List.length_set, hm2l]
        have has := as_o (at0 (some gb)) oc (m2.set j (setI p [v1, v2] (some ⟨ib, 0, none⟩) 2)) (fun h => by cases h) (grw_small hG (by omega)) (fun q hq => (hG q hq).ok)
        rw [hlen] at has
        refine factG (fun _ => rfl) has ?_ fun st hst => ?_
        · exact fun w hw => ⟨by rw [hlen]; exact hw.2.1, set_rows hpm hw.2.2.1 hw.2.2.2.1⟩
        obtain ⟨t, ht1, ht2⟩ := Valid_b st.oa st.oc st.m hst.oa (by have := congrArg List.length hst.c; simp only [List.length_map] at this; omega) hst.ok
        (first | refine wX ?_ | exact wZ)
        refine call1 (ht2 _ (fun w hw => hst.gr hw.2.2.2.2.1 hw.2.2.2.2.2.1)) ?_
        cases t with
        | true =>
          (first | refine wX ?_ | exact wZ)
          refine ⟨(j + 1, m2.set j (setI p [v1, v2] (some ⟨ib, 0, none⟩) 2)), ⟨by omega, hlen, hG⟩, by show i - (j + 1) < i - j; omega, ?_, [.fact (fun w => SlAt a (L.length * 1) (iC L) w), .app 42 5 (grC (m2.set j (setI p [v1, v2] (some ⟨ib, 0, none⟩) 2))) (some ⟨gb, 0, none⟩) i oc, .fact (fun w => ∀ q ∈ m2.set j (setI p [v1, v2] (some ⟨ib, 0, none⟩) 2), CellF q w), .dead, .dead, .dead], turnS ⟨.inr (.inl rfl), .inr (.inl rfl), .inr (.inr ⟨_, rfl, fun w hw => set_rows hpm hw.2.1 hw.2.2.1⟩), by repeat (first | exact trivial | refine ⟨.inl rfl, ?_⟩)⟩, wkE_refl _, wkE_refl _, wkE_refl _, trivial⟩
          (repeat' (first | exact trivial | refine And.intro (by with_reducible rfl) ?_ | (with_reducible exact wkC_refl _) | (with_reducible exact wkCs_refl _) | refine And.intro ?_ ?_))
          all_goals first | rfl | exact av_int (by rw [wrap_i64 (by omega)]; omega)
        | false =>
          have hp2 : (m2.set j (setI p [v1, v2] (some ⟨ib, 0, none⟩) 2))[j]? = some (setI p [v1, v2] (some ⟨ib, 0, none⟩) 2) := by rw [List.getElem?_set_self (by omega)]
          have hG2 : ∀ q ∈ m2.set j (setI p [v1, v2] (some ⟨ib, 0, none⟩) 2), GrwC i q := grw_set hm2o hpm ib 2 (by simp [hq1, hq2]) (Nat.le_of_ble_eq_true rfl) (by show 2 ≤ _; first | exact Nat.le_refl 2 | omega)
          have hlen2 : (m2.set j (setI p [v1, v2] (some ⟨ib, 0, none⟩) 2)).length = i := by rw [List.length_set, hm2l]
          have hgl3 : (grC (m2.set j (setI p [v1, v2] (some ⟨ib, 0, none⟩) 2))).length = i * 5 := by rw [grC_len, hlen]
          (first | refine wX ?_ | exact wZ)
          refine Nd.mk ⟨rfl, by omega, by omega⟩ ?_
          (first | refine wX ?_ | exact wZ)
          refine LdN.fld (.slice (some ⟨ib, 0, none⟩) (List.length [v1, v2]) 2) rfl (fun w hw => hw.2.1) (by rw [Int.toNat_natCast]; exact grC_get _ j 4 (by decide) hp2) ?_
          (first | refine wX ?_ | exact wZ)
          refine ReadW.slc_h (ob := some ib) rfl (by kernel_rfl) rfl rfl ⟨by decide, by first | decide | omega⟩ ?_
          (first | refine wX ?_ | exact wZ)
          refine Nd.mk ⟨rfl, by omega, by omega⟩ ?_
          (first | refine wX ?_ | exact wZ)
          refine EffW.appTo (i := 1) (q := j * 5 + 4) (ys := [.slice (some ⟨ib, 0, none⟩) 2 2]) (grC (m2.set j (setI p [v1, v2] (some ⟨ib, 0, none⟩) 2))) 5 rfl (by rw [Int.toNat_natCast]; show AV.c (CV.v (Value.pointer (some (((⟨gb, 0, none⟩ : Addr).add (j * 5)).add 4)))) = _; rw [add_lit0, add_lit]) rfl rfl rfl rfl rfl (by show _ + 1 ≤ _ * 5; omega) (by rw [put_set _ (by omega)]; have := grC_set [v1, v2] (some ⟨ib, 0, none⟩) 2 hp2; rw [List.set_set] at this; exact this) rfl ?_
          (first | refine wX ?_ | exact wZ)
          refine ⟨(j + 1, m2.set j (setI p [v1, v2] (some ⟨ib, 0, none⟩) 2)), ⟨by omega, hlen2, hG2⟩, by show i - (j + 1) < i - j; omega, ?_, [.fact (fun w => SlAt a (L.length * 1) (iC L) w), .app 42 5 (grC (m2.set j (setI p [v1, v2] (some ⟨ib, 0, none⟩) 2))) (some ⟨gb, 0, none⟩) i oc, .fact (fun w => ∀ q ∈ m2.set j (setI p [v1, v2] (some ⟨ib, 0, none⟩) 2), CellF q w), .dead, .dead, .dead], turnS ⟨.inr (.inl rfl), .inr (.inl rfl), .inr (.inr ⟨_, rfl, fun w hw => set_rows hpm hw.2.1 (SlAt.take (j := 2) hw.2.2.1 (Nat.le_of_ble_eq_true rfl))⟩), by repeat (first | exact trivial | refine ⟨.inl rfl, ?_⟩)⟩, wkE_refl _, wkE_refl _, wkE_refl _, trivial⟩
          (repeat' (first | exact trivial | refine And.intro (by with_reducible rfl) ?_ | (with_reducible exact wkC_refl _) | (with_reducible exact wkCs_refl _) | refine And.intro ?_ ?_))
          all_goals first | rfl | exact av_int (by rw [wrap_i64 (by omega)]; omega)
      have hp1 : (m2.set j (setI p [v1, v2] (some ⟨ib, 0, none⟩) 2))[j]? = some (setI p [v1, v2] (some ⟨ib, 0, none⟩) 2) := by rw [List.getElem?_set_self (by omega)]
      have hgl4 : (grC (m2.set j (setI p [v1, v2] (some ⟨ib, 0, none⟩) 2))).length = i * 5 := by rw [grC_len, List.length_set, hm2l]
      (first | refine wX ?_ | exact wZ)
      refine DrawN.plan [0, 1, 2, 3, 7, 10, 12, 15] [(4, 1), (5, 1), (6, 1), (8, 1), (9, 1), (11, 1), (13, 1), (14, 1), (16, 1), (17, 0)] [(18, 0), (19, 0), (20, 0), (21, 0)] (by decide +kernel) ?_
      (first | refine wX ?_ | exact wZ)
      refine Nd.mk ⟨rfl, by omega, by omega⟩ ?_
      (first | refine wX ?_ | exact wZ)
      refine LdN.fld (.slice (some ⟨ib, 0, none⟩) 2 2) rfl (fun w hw => hw.2.1) (by rw [Int.toNat_natCast]; exact grC_get _ j 4 (by decide) hp1) ?_
      (first | refine wX ?_ | exact wZ)
      obtain ⟨w1, hw1⟩ : ∃ v, v = (IntKind.i64.wrap (IntKind.u64.wrap (x.tdiv 5))).tmod (i : Int) := ⟨_, rfl⟩
      obtain ⟨w2, hw2⟩ : ∃ v, v = (IntKind.i64.wrap (IntKind.u64.wrap (x.tdiv 7))).tmod (i : Int) := ⟨_, rfl⟩
      rw [← hw1, ← hw2]
      have hq3 : 0 ≤ w1 := by
        have : 0 ≤ x.tdiv 5 ∧ x.tdiv 5 ≤ x := by rw [Int.tdiv_eq_ediv_of_nonneg hxb.1]; omega
        rw [hw1, wrap_u64 (by omega), wrap_i64 (by omega)]
        exact Int.tmod_nonneg _ (by omega)
      have hq4 : 0 ≤ w2 := by
        have : 0 ≤ x.tdiv 7 ∧ x.tdiv 7 ≤ x := by rw [Int.tdiv_eq_ediv_of_nonneg hxb.1]; omega
        rw [hw2, wrap_u64 (by omega), wrap_i64 (by omega)]
        exact Int.tmod_nonneg _ (by omega)
      clear hw1 hw2
      refine Nd.mk ⟨Nat.le_of_ble_eq_true rfl, rfl, rfl⟩ ?_
      (conv => whnf)
      refine AppN.grow 3 [.int .i64 v1, .int .i64 v2] [.int .i64 w1, .int .i64 w2] rfl rfl ⟨Nat.le_of_ble_eq_true rfl, ⟨by decide, by decide⟩, Nat.one_ne_zero⟩ fun wb wc hwc _ => ?_
      (first | refine wX ?_ | exact wZ)
      refine Nd.mk ⟨rfl, by omega, by omega⟩ ?_
      (first | refine wX ?_ | exact wZ)
      refine EffW.appTo (i := 1) (q := j * 5 + 4) (ys := [.slice (some ⟨wb, 0, none⟩) 4 wc]) (grC (m2.set j (setI p [v1, v2, w1, w2] (some ⟨wb, 0, none⟩) wc))) 5 rfl (by rw [Int.toNat_natCast]; show AV.c (CV.v (Value.pointer (some (((⟨gb, 0, none⟩ : Addr).add (j * 5)).add 4)))) = _; rw [add_lit0, add_lit]) rfl rfl rfl rfl rfl (by show _ + 1 ≤ _ * 5; omega) (by rw [put_set _ (by omega)]; have := grC_set [v1, v2, w1, w2] (some ⟨wb, 0, none⟩) wc hp1; rw [List.set_set] at this; exact this) rfl ?_
      -- is it valid still? [v1, v2, w1, w2]: the items, wb: their block, wc: its capacity, , .dead, .dead, .dead, .dead: what is over, (by simp [hq1, hq2, hq3, hq4]): no item is below 0
      (first | refine wX ?_ | exact wZ)
      have hG : ∀ q ∈ m2.set j (setI p [v1, v2, w1, w2] (some ⟨wb, 0, none⟩) wc), GrwC i q := grw_set hm2o hpm wb wc (by simp [hq1, hq2, hq3, hq4]) (Nat.le_of_ble_eq_true rfl) hwc
      have hlen : (m2.set j (setI p [v1, v2, w1, w2] (some ⟨wb, 0, none⟩) wc)).length = i := by rw [List.length_set, hm2l]
      have has := as_o (at0 (some gb)) oc (m2.set j (setI p [v1, v2, w1, w2] (some ⟨wb, 0, none⟩) wc)) (fun h => by cases h) (grw_small hG (by omega)) (fun q hq => (hG q hq).ok)
      rw [hlen] at has
      refine factG (fun _ => rfl) has ?_ fun st hst => ?_
      · exact fun w hw => ⟨by rw [hlen]; exact hw.2.1, set_rows hpm hw.2.2.1 hw.2.2.2.1⟩
      obtain ⟨t, ht1, ht2⟩ := Valid_b st.oa st.oc st.m hst.oa (by have := congrArg List.length hst.c; simp only [List.length_map] at this; omega) hst.ok
      (first | refine wX ?_ | exact wZ)
      refine call1 (ht2 _ (fun w hw => hst.gr hw.2.2.2.2.1 hw.2.2.2.2.2.1)) ?_
      cases t with
      | true =>
        (first | refine wX ?_ | exact wZ)
        refine ⟨(j + 1, m2.set j (setI p [v1, v2, w1, w2] (some ⟨wb, 0, none⟩) wc)), ⟨by omega, hlen, hG⟩, by show i - (j + 1) < i - j; omega, ?_, [.fact (fun w => SlAt a (L.length * 1) (iC L) w), .app 42 5 (grC (m2.set j (setI p [v1, v2, w1, w2] (some ⟨wb, 0, none⟩) wc))) (some ⟨gb, 0, none⟩) i oc, .fact (fun w => ∀ q ∈ m2.set j (setI p [v1, v2, w1, w2] (some ⟨wb, 0, none⟩) wc), CellF q w), .dead, .dead, .dead, .dead], turnS ⟨.inr (.inl rfl), .inr (.inl rfl), .inr (.inr ⟨_, rfl, fun w hw => set_rows hpm hw.2.1 hw.2.2.1⟩), by repeat (first | exact trivial | refine ⟨.inl rfl, ?_⟩)⟩, wkE_refl _, wkE_refl _, wkE_refl _, trivial⟩
        (repeat' (first | exact trivial | refine And.intro (by with_reducible rfl) ?_ | (with_reducible exact wkC_refl _) | (with_reducible exact wkCs_refl _) | refine And.intro ?_ ?_))
        all_goals first | rfl | exact av_int (by rw [wrap_i64 (by omega)]; omega)
      | false =>
        have hp2 : (m2.set j (setI p [v1, v2, w1, w2] (some ⟨wb, 0, none⟩) wc))[j]? = some (setI p [v1, v2, w1, w2] (some ⟨wb, 0, none⟩) wc) := by rw [List.getElem?_set_self (by omega)]
        have hG2 : ∀ q ∈ m2.set j (setI p [v1, v2] (some ⟨wb, 0, none⟩) wc), GrwC i q := grw_set hm2o hpm wb wc (by simp [hq1, hq2]) (Nat.le_of_ble_eq_true rfl) (by show 2 ≤ _; first | exact Nat.le_refl 2 | omega)
        have hlen2 : (m2.set j (setI p [v1, v2] (some ⟨wb, 0, none⟩) wc)).length = i := by rw [List.length_set, hm2l]
        have hgl3 : (grC (m2.set j (setI p [v1, v2, w1, w2] (some ⟨wb, 0, none⟩) wc))).length = i * 5 := by rw [grC_len, hlen]
        (first | refine wX ?_ | exact wZ)
        refine Nd.mk ⟨rfl, by omega, by omega⟩ ?_
        (first | refine wX ?_ | exact wZ)
        refine LdN.fld (.slice (some ⟨wb, 0, none⟩) (List.length [v1, v2, w1, w2]) wc) rfl (fun w hw => hw.2.1) (by rw [Int.toNat_natCast]; exact grC_get _ j 4 (by decide) hp2) ?_
        (first | refine wX ?_ | exact wZ)
        refine ReadW.slc_h (ob := some wb) rfl (by kernel_rfl) rfl rfl ⟨by decide, by first | decide | omega⟩ ?_
        (first | refine wX ?_ | exact wZ)
        refine Nd.mk ⟨rfl, by omega, by omega⟩ ?_
        (first | refine wX ?_ | exact wZ)
        refine EffW.appTo (i := 1) (q := j * 5 + 4) (ys := [.slice (some ⟨wb, 0, none⟩) 2 wc]) (grC (m2.set j (setI p [v1, v2] (some ⟨wb, 0, none⟩) wc))) 5 rfl (by rw [Int.toNat_natCast]; show AV.c (CV.v (Value.pointer (some (((⟨gb, 0, none⟩ : Addr).add (j * 5)).add 4)))) = _; rw [add_lit0, add_lit]) rfl rfl rfl rfl rfl (by show _ + 1 ≤ _ * 5; omega) (by rw [put_set _ (by omega)]; have := grC_set [v1, v2] (some ⟨wb, 0, none⟩) wc hp2; rw [List.set_set] at this; exact this) rfl ?_
        (first | refine wX ?_ | exact wZ)
        refine ⟨(j + 1, m2.set j (setI p [v1, v2] (some ⟨wb, 0, none⟩) wc)), ⟨by omega, hlen2, hG2⟩, by show i - (j + 1) < i - j; omega, ?_, [.fact (fun w => SlAt a (L.length * 1) (iC L) w), .app 42 5 (grC (m2.set j (setI p [v1, v2] (some ⟨wb, 0, none⟩) wc))) (some ⟨gb, 0, none⟩) i oc, .fact (fun w => ∀ q ∈ m2.set j (setI p [v1, v2] (some ⟨wb, 0, none⟩) wc), CellF q w), .dead, .dead, .dead, .dead], turnS ⟨.inr (.inl rfl), .inr (.inl rfl), .inr (.inr ⟨_, rfl, fun w hw => set_rows hpm hw.2.1 (SlAt.take (j := 2) hw.2.2.1 (Nat.le_of_ble_eq_true rfl))⟩), by repeat (first | exact trivial | refine ⟨.inl rfl, ?_⟩)⟩, wkE_refl _, wkE_refl _, wkE_refl _, trivial⟩
        (repeat' (first | exact trivial | refine And.intro (by with_reducible rfl) ?_ | (with_reducible exact wkC_refl _) | (with_reducible exact wkCs_refl _) | refine And.intro ?_ ?_))
        all_goals first | rfl | exact av_int (by rw [wrap_i64 (by omega)]; omega)
    · have hjn : j = i := by omega
      subst hjn
      have hob : at0 ob = none → m2 = [] := fun h => by
        cases ob with
        | none =>
          have := hoa rfl
          subst this
          simp only [List.length_nil] at hml
          exact List.eq_nil_of_length_eq_zero (by omega)
        | some b => cases h
      have hs2 := grw_small hm2o (by omega)
      (first | refine wX ?_ | exact wZ)
      refine loopS Nat (fun k => k ≤ j) (fun k => mkS Tryz.f22.ntmps 0 [(3, .c (.v (.int .i64 (j : Int)))), (4, .c (.v (.slice (at0 ob) j oc))), (12, .c (.v (.int .i64 (k : Int))))]) (fun k => j - k) rfl (fun _ => rfl) 0 (Nat.zero_le _) ?_ ?_
      · (repeat' (first | exact trivial | refine And.intro (by with_reducible rfl) ?_ | (with_reducible exact wkC_refl _) | (with_reducible exact wkCs_refl _) | refine And.intro ?_ ?_))
        all_goals rfl
      intro k hk
      (first | refine wX ?_ | exact wZ)
      refine brd_dec (fun h3 => ?_) (fun h3 => ?_)
      · obtain ⟨p, hp⟩ : ∃ p, m2[k]? = some p := ⟨_, List.getElem?_eq_getElem (by omega)⟩
        have hpm := List.mem_of_getElem? hp
        have hpo := hm2o p hpm
        have hpl := hpo.il
        have hsg : (at0 ob).isSome = true := by
          cases hq : at0 ob with
          | none => rw [hob hq] at hp; cases hp
          | some b => rfl
        (first | refine wX ?_ | exact wZ)
        refine loopS Nat (fun e => e ≤ p.c.items.length) (fun e => mkS Tryz.f22.ntmps 0 [(3, .c (.v (.int .i64 (j : Int)))), (4, .c (.v (.slice (at0 ob) j oc))), (12, .c (.v (.int .i64 (k : Int)))), (13, .c (.v (.int .i64 (e : Int))))]) (fun e => p.c.items.length - e) rfl (fun _ => rfl) 0 (Nat.zero_le _) ?_ ?_
        · (repeat' (first | exact trivial | refine And.intro (by with_reducible rfl) ?_ | (with_reducible exact wkC_refl _) | (with_reducible exact wkCs_refl _) | refine And.intro ?_ ?_))
          all_goals rfl
        intro e he
        (first | refine wX ?_ | exact wZ)
        refine Nd.mk ⟨hsg, by omega, by omega⟩ ?_
        (first | refine wX ?_ | exact wZ)
        refine LdN.fld (.slice p.ia p.c.items.length p.ic) rfl (fun w hw => hw.2.1) (by rw [Int.toNat_natCast]; exact grC_get m2 k 4 (by decide) hp) ?_
        (first | refine wX ?_ | exact wZ)
        refine brd_dec (fun h4 => ?_) (fun h4 => ?_)
        · obtain ⟨y, hy⟩ : ∃ z, p.c.items[e]? = some z := ⟨_, List.getElem?_eq_getElem (by omega)⟩
          have hya : p.ia.isSome = true := by
            cases hq : p.ia with
            | none => rw [hpo.ok.ia hq] at hy; cases hy
            | some b => rfl
          (first | refine wX ?_ | exact wZ)
          refine Nd.mk ⟨hsg, by omega, by omega⟩ ?_
          (first | refine wX ?_ | exact wZ)
          refine LdN.fld (.slice p.ia p.c.items.length p.ic) rfl (fun w hw => hw.2.1) (by rw [Int.toNat_natCast]; exact grC_get m2 k 4 (by decide) hp) ?_
          (first | refine wX ?_ | exact wZ)
          refine Nd.mk ⟨hya, by omega, by omega⟩ ?_
          (first | refine wX ?_ | exact wZ)
          refine LdN.one (.int .i64 y) rfl (fun w hw => (hw.2.2.1 p hpm).2) (by rw [Int.toNat_natCast]; show (iC p.c.items)[e * 1]? = _; rw [Nat.mul_one]; exact iC_get hy) ?_
          (first | refine wX ?_ | exact wZ)
          refine brd_dec (fun h5 => absurd h5 (by have := hpo.it y (List.mem_of_getElem? hy); omega)) (fun h5 => ?_)
          (first | refine wX ?_ | exact wZ)
          refine ⟨e + 1, by omega, by omega, ?_, by (repeat' (first | exact trivial | exact wkE_refl _ | refine And.intro ?_ ?_))⟩
          (repeat' (first | exact trivial | refine And.intro (by with_reducible rfl) ?_ | (with_reducible exact wkC_refl _) | (with_reducible exact wkCs_refl _) | refine And.intro ?_ ?_))
          all_goals first | rfl | exact av_int (by rw [wrap_i64 (by omega)]; omega)
        · (first | refine wX ?_ | exact wZ)
          refine ⟨k + 1, by omega, by omega, ?_, by (repeat' (first | exact trivial | exact wkE_refl _ | refine And.intro ?_ ?_))⟩
          (repeat' (first | exact trivial | refine And.intro (by with_reducible rfl) ?_ | (with_reducible exact wkC_refl _) | (with_reducible exact wkCs_refl _) | refine And.intro ?_ ?_))
          all_goals first | rfl | exact av_int (by rw [wrap_i64 (by omega)]; omega)
      · (first | refine wX ?_ | exact wZ)
        have has := as_o (at0 ob) oc m2 hob hs2 (fun q hq => (hm2o q hq).ok)
        rw [hm2l] at has
        refine factG (fun _ => rfl) has ?_ fun st hst => ?_
        · exact fun w hw => ⟨by rw [hm2l]; exact hw.2.1, hw.2.2.1⟩
        obtain ⟨t, ht1, ht2⟩ := Valid_b st.oa st.oc st.m hst.oa (by have := congrArg List.length hst.c; simp only [List.length_map] at this; omega) hst.ok
        (first | refine wX ?_ | exact wZ)
        refine call1 (ht2 _ (fun w hw => hst.gr hw.2.2.2.1 hw.2.2.2.2.1)) ?_
        cases t with
        | false =>
          (first | refine wX ?_ | exact wZ)
          exact fin_p (fun _ => True) ⟨none, 0, [], rfl, fun _ => rfl, (fun p h => by cases h), ⟨Nat.zero_le _, fun p h => by cases h⟩, .inl rfl, fun w _ => ⟨SlAt.nil, fun p h => by cases h⟩⟩ fun w hw => trivial
        | true =>
          (first | refine wX ?_ | exact wZ)
          exact fin_p (GrF (at0 ob) m2) ⟨at0 ob, oc, m2, by rw [hm2l], hob, (fun p hp => (hm2o p hp).ok), hs2, .inr (by rw [← hst.c]; exact ht1.1 rfl), fun w hw => hw⟩ fun w hw => ⟨by rw [hm2l]; exact hw.2.1, hw.2.2.1⟩
end Go.Proofs.YtahjbnfbilkbcaaGreatDoor

/-
  Contracts: slices.ContainsFunc of numbers and of names, by any closure of which a contract says what it answers.
-/
namespace Go.Proofs.YtahjbnfbilkbcaaGreatDoor
open Go.AX Go.RowKit Go.Core
set_option maxRecDepth 20000

/-- The first one of which a closure says yes. -/
def idx {α : Type} (f : α → Bool) : List α → Nat → Int
  | [], _ => -1
  | o :: l, i => if f o then (i : Int) else idx f l (i + 1)
theorem idx_spec {α : Type} (f : α → Bool) : ∀ (l : List α) (i : Nat), (idx f l i = -1 ∧ l.any f = false) ∨ ((i : Int) ≤ idx f l i ∧ idx f l i < i + l.length ∧ l.any f = true)
  | [], _ => .inl ⟨rfl, rfl⟩
  | o :: l, i => by
    unfold idx
    cases h : f o with
    | true => exact .inr ⟨by simp, by simp only [if_true, List.length_cons]; omega, by simp [h]⟩
    | false =>
      rcases idx_spec f l (i + 1) with ⟨h1, h2⟩ | ⟨h1, h2, h3⟩
      · exact .inl ⟨by simpa using h1, by simp [h, h2]⟩
      · refine .inr ⟨?_, ?_, by simp [h, h3]⟩
        · simp only [Bool.false_eq_true, if_false]; omega
        · simp only [Bool.false_eq_true, if_false, List.length_cons]; omega
theorem idx_drop {α : Type} (f : α → Bool) (l : List α) (i : Nat) {o : α} (h : l[i]? = some o) : idx f (l.drop i) i = if f o then (i : Int) else idx f (l.drop (i + 1)) (i + 1) := by
  obtain ⟨hlt, hx⟩ := List.getElem?_eq_some_iff.1 h
  rw [List.drop_eq_getElem_cons hlt, hx]
  rfl
-- slices.IndexFunc[[]int,int]: IndexFunc, slices.ContainsFunc[[]int,int]: ContainsFunc, Int: the type of an element, .int .i64 p: its value, iC: the cells, iC_get: of one, IndexI_c HasI_c: the theorems
set_option maxHeartbeats 1000000 in
theorem IndexI_c (f : Int → Bool) (g : Nat) (caps : Array Value) (F : World → Prop) (a : Option Addr) (cap : Nat) (l : List Int) (hf : ∀ p ∈ l, ∀ H, (∀ w, Facts H w → F w) → SpecH Tryz.prog g (pvs [.int .i64 p] ++ pvs caps.toList) H (Ret (.bool (f p)) H)) (ha : a = none → l = []) (hl : l.length ≤ 200000000000000) : ∀ H, (∀ w, Facts H w → SlAt a (l.length * 1) (iC l) w ∧ F w) →
    SpecH Tryz.prog 92 (pvs [.slice a l.length cap, .func (.func g) #[] caps]) H (Ret (.int .i64 (idx f l 0)) H) := by
  refine factC hm Tryz.func92 (by kernel_rfl) rfl rfl ?_
  (first | refine wX ?_ | exact wZ)
  refine loopS Nat (fun i => i ≤ l.length ∧ idx f l 0 = idx f (l.drop i) i) (fun i => mkS Tryz.f92.ntmps 0 [(0, .c (.v (.slice a l.length cap))), (1, .c (.v (.func (.func g) #[] caps))), (7, .c (.v (.int .i64 (l.length : Int)))), (8, .c (.v (.int .i64 (i : Int))))]) (fun i => l.length - i) rfl (fun _ => rfl) 0 ⟨Nat.zero_le _, rfl⟩ ?_ fun i ⟨hi, he⟩ => ?_
  · (repeat' (first | exact trivial | refine And.intro (by with_reducible rfl) ?_ | (with_reducible exact wkC_refl _) | (with_reducible exact wkCs_refl _) | refine And.intro ?_ ?_))
    all_goals rfl
  (first | refine wX ?_ | exact wZ)
  refine brd_dec (fun h1 => ?_) (fun h1 => ?_)
  · obtain ⟨p, ho⟩ : ∃ o, l[i]? = some o := ⟨_, List.getElem?_eq_getElem (by omega)⟩
    have hd := idx_drop f l i ho
    have hsa : a.isSome = true := by
      cases a with
      | none => rw [ha rfl] at ho; cases ho
      | some b => rfl
    (first | refine wX ?_ | exact wZ)
    refine Nd.mk ⟨hsa, by omega, by omega⟩ ?_
    (first | refine wX ?_ | exact wZ)
    refine LdN.one (.int .i64 p) rfl (fun w hw => hw.1.1) (by rw [Int.toNat_natCast]; show (iC l)[i * 1]? = _; rw [Nat.mul_one]; exact iC_get ho) ?_
    (first | refine wX ?_ | exact wZ)
    refine call1 (hf p (List.mem_of_getElem? ho) _ (fun w hw => hw.1.2)) ?_
    cases hfo : f p with
    | true =>
      rw [hfo] at hd
      rw [he, hd]
      (first | refine wX ?_ | exact wZ)
      rfl
    | false =>
      rw [hfo] at hd
      (first | refine wX ?_ | exact wZ)
      refine ⟨i + 1, ⟨by omega, by rw [he, hd]; rfl⟩, by omega, ?_, by (repeat' (first | exact trivial | exact wkE_refl _ | refine And.intro ?_ ?_))⟩
      (repeat' (first | exact trivial | refine And.intro (by with_reducible rfl) ?_ | (with_reducible exact wkC_refl _) | (with_reducible exact wkCs_refl _) | refine And.intro ?_ ?_))
      all_goals first | rfl | exact av_int (by rw [wrap_i64 (by omega)]; omega)
  · have hin : i = l.length := by omega
    subst hin
    rw [he, List.drop_of_length_le (Nat.le_refl _)]
    (first | refine wX ?_ | exact wZ)
    rfl
theorem HasI_c (f : Int → Bool) (g : Nat) (caps : Array Value) (F : World → Prop) (a : Option Addr) (cap : Nat) (l : List Int) (hf : ∀ p ∈ l, ∀ H, (∀ w, Facts H w → F w) → SpecH Tryz.prog g (pvs [.int .i64 p] ++ pvs caps.toList) H (Ret (.bool (f p)) H)) (ha : a = none → l = []) (hl : l.length ≤ 200000000000000) : ∀ H, (∀ w, Facts H w → SlAt a (l.length * 1) (iC l) w ∧ F w) →
    SpecH Tryz.prog 46 (pvs [.slice a l.length cap, .func (.func g) #[] caps]) H (Ret (.bool (l.any f)) H) := by
  refine factC hm Tryz.func46 (by kernel_rfl) rfl rfl ?_
  (first | refine wX ?_ | exact wZ)
  refine call1 (IndexI_c f g caps F a cap l hf ha hl _ (fun w hw => hw.1)) ?_
  (first | refine wX ?_ | exact wZ)
  rcases idx_spec f l 0 with ⟨h1, h2⟩ | ⟨h1, h2, h3⟩
  · rw [h1, h2]
    rfl
  · rw [h3]
    exact out_bool (decide_eq_true (by omega))
-- slices.IndexFunc[[]string,string]: IndexFunc, slices.ContainsFunc[[]string,string]: ContainsFunc, (List UInt8): the type of an element, .string (bs p): its value, strC: the cells, strC_get: of one, IndexS_c HasS_c: the theorems
set_option maxHeartbeats 1000000 in
theorem IndexS_c (f : (List UInt8) → Bool) (g : Nat) (caps : Array Value) (F : World → Prop) (a : Option Addr) (cap : Nat) (l : List (List UInt8)) (hf : ∀ p ∈ l, ∀ H, (∀ w, Facts H w → F w) → SpecH Tryz.prog g (pvs [.string (bs p)] ++ pvs caps.toList) H (Ret (.bool (f p)) H)) (ha : a = none → l = []) (hl : l.length ≤ 200000000000000) : ∀ H, (∀ w, Facts H w → SlAt a (l.length * 1) (strC l) w ∧ F w) →
    SpecH Tryz.prog 115 (pvs [.slice a l.length cap, .func (.func g) #[] caps]) H (Ret (.int .i64 (idx f l 0)) H) := by
  refine factC hm Tryz.func115 (by kernel_rfl) rfl rfl ?_
  (first | refine wX ?_ | exact wZ)
  refine loopS Nat (fun i => i ≤ l.length ∧ idx f l 0 = idx f (l.drop i) i) (fun i => mkS Tryz.f115.ntmps 0 [(0, .c (.v (.slice a l.length cap))), (1, .c (.v (.func (.func g) #[] caps))), (7, .c (.v (.int .i64 (l.length : Int)))), (8, .c (.v (.int .i64 (i : Int))))]) (fun i => l.length - i) rfl (fun _ => rfl) 0 ⟨Nat.zero_le _, rfl⟩ ?_ fun i ⟨hi, he⟩ => ?_
  · (repeat' (first | exact trivial | refine And.intro (by with_reducible rfl) ?_ | (with_reducible exact wkC_refl _) | (with_reducible exact wkCs_refl _) | refine And.intro ?_ ?_))
    all_goals rfl
  (first | refine wX ?_ | exact wZ)
  refine brd_dec (fun h1 => ?_) (fun h1 => ?_)
  · obtain ⟨p, ho⟩ : ∃ o, l[i]? = some o := ⟨_, List.getElem?_eq_getElem (by omega)⟩
    have hd := idx_drop f l i ho
    have hsa : a.isSome = true := by
      cases a with
      | none => rw [ha rfl] at ho; cases ho
      | some b => rfl
    (first | refine wX ?_ | exact wZ)
    refine Nd.mk ⟨hsa, by omega, by omega⟩ ?_
    (first | refine wX ?_ | exact wZ)
    refine LdN.one (.string (bs p)) rfl (fun w hw => hw.1.1) (by rw [Int.toNat_natCast]; show (strC l)[i * 1]? = _; rw [Nat.mul_one]; exact strC_get ho) ?_
    (first | refine wX ?_ | exact wZ)
    refine call1 (hf p (List.mem_of_getElem? ho) _ (fun w hw => hw.1.2)) ?_
    cases hfo : f p with
    | true =>
      rw [hfo] at hd
      rw [he, hd]
      (first | refine wX ?_ | exact wZ)
      rfl
    | false =>
      rw [hfo] at hd
      (first | refine wX ?_ | exact wZ)
      refine ⟨i + 1, ⟨by omega, by rw [he, hd]; rfl⟩, by omega, ?_, by (repeat' (first | exact trivial | exact wkE_refl _ | refine And.intro ?_ ?_))⟩
      (repeat' (first | exact trivial | refine And.intro (by with_reducible rfl) ?_ | (with_reducible exact wkC_refl _) | (with_reducible exact wkCs_refl _) | refine And.intro ?_ ?_))
      all_goals first | rfl | exact av_int (by rw [wrap_i64 (by omega)]; omega)
  · have hin : i = l.length := by omega
    subst hin
    rw [he, List.drop_of_length_le (Nat.le_refl _)]
    (first | refine wX ?_ | exact wZ)
    rfl
theorem HasS_c (f : (List UInt8) → Bool) (g : Nat) (caps : Array Value) (F : World → Prop) (a : Option Addr) (cap : Nat) (l : List (List UInt8)) (hf : ∀ p ∈ l, ∀ H, (∀ w, Facts H w → F w) → SpecH Tryz.prog g (pvs [.string (bs p)] ++ pvs caps.toList) H (Ret (.bool (f p)) H)) (ha : a = none → l = []) (hl : l.length ≤ 200000000000000) : ∀ H, (∀ w, Facts H w → SlAt a (l.length * 1) (strC l) w ∧ F w) →
    SpecH Tryz.prog 89 (pvs [.slice a l.length cap, .func (.func g) #[] caps]) H (Ret (.bool (l.any f)) H) := by
  refine factC hm Tryz.func89 (by kernel_rfl) rfl rfl ?_
  (first | refine wX ?_ | exact wZ)
  refine call1 (IndexS_c f g caps F a cap l hf ha hl _ (fun w hw => hw.1)) ?_
  (first | refine wX ?_ | exact wZ)
  rcases idx_spec f l 0 with ⟨h1, h2⟩ | ⟨h1, h2, h3⟩
  · rw [h1, h2]
    rfl
  · rw [h3]
    exact out_bool (decide_eq_true (by omega))
end Go.Proofs.YtahjbnfbilkbcaaGreatDoor

/-
  AX, forty-ninth text: regions that draw their order, by their states: first what is read under a fact, then a family of states that is closed under every operation that may come next.
-/
namespace Go.AX

/-- What is blind, or read under a fact. -/
def frontK (P : Program) (C : World → Prop) (o : Oper) (s : List AV) (K : AV → Prop) : Prop :=
  match o.op with
  | .load _ _ => ∃ x, ReadC P C o s K x
  | .indexAddr _ _ _ => ∃ x, ReadC P C o s K x
  | _ => blindK P o s K
def execF (P : Program) (C : World → Prop) (ops : Array Oper) (l : List Nat) : List AV → (List AV → Prop) → Prop :=
  List.rec (motive := fun _ => List AV → (List AV → Prop) → Prop)
    (fun s K => K s)
    (fun k _ ih s K => pickK ops k fun o => wantK ops o s (fun s => frontK P C o s fun av => putK s o.dst av fun s' => ih s' K)
      (fun s => putK s o.dst (.c (.v undef)) fun s' => ih s' K)) l
/-- One step of a state. -/
def stepJ (P : Program) (ops : Array Oper) (i : Nat) (s : List AV) (H : List Ent) (K : Ex → List AV → List Ent → Prop) (J : List AV → List Ent → Prop) : Prop :=
  pickK ops i fun o => wantK ops o s (fun s => stepK P o s H fun out H' => match out with
    | .val av => putK s o.dst av fun s' => J s' H'
    | .vals _ => False
    | .pan c => K (.pan c) s H') (fun s => putK s o.dst (.c (.v undef)) fun s' => J s' H)
/-- A family of states, closed under what may come next; the number is how many are left. -/
def ClosedJ (P : Program) (ops : Array Oper) (C : World → Prop) (K : Ex → List AV → List Ent → Prop) (J : Nat → Array Bool → List AV → List Ent → Prop) : Prop :=
  ∀ n ls s H, J n ls s H → (∀ w, Facts H w → C w) ∧ ((Region.ready .any ops ls = [] ∧ K .normal s H) ∨ (Region.ready .any ops ls ≠ [] ∧ ∃ m, n = m + 1 ∧ ∀ i ∈ Region.ready .any ops ls, stepJ P ops i s H K (J m (ls.setIfInBounds i true))))
section
variable {P : Program} {ops : Array Oper} {C : World → Prop} {K : Ex → List AV → List Ent → Prop} {ρ0 : List Loc} {S0 : Nat → Prop} {H0 : List Ent} {w0 : World} {dfs : List Deferred}
theorem closed_sound {J : Nat → Array Bool → List AV → List Ent → Prop} (hJ : ClosedJ P ops C K J) : ∀ (n : Nat) (ls : Array Bool) (s : List AV) (H : List Ent), J n ls s H → ∀ (ρ : List Loc) (S : Nat → Prop) (w : World) (a : Act), Ev ρ0 S0 H0 w0 ρ S H w → a.defers = dfs → Sat ρ S H w → RelS ρ s a.tmps.toList →
    AnyC P ops (Post ρ0 S0 H0 w0 dfs K) C [] n ls a w := by
  intro n
  induction n with
  | zero =>
    intro ls s H h ρ S w a hev hdf hs hr
    obtain ⟨hC, h2⟩ := hJ 0 ls s H h
    rcases h2 with ⟨h3, h4⟩ | ⟨_, m, h3, _⟩
    · exact ⟨fun _ => hC w hs.facts, h3, ρ, S, s, H, .normal, hs, hev, hr, hdf, trivial, h4⟩
    · cases h3
  | succ n ih =>
    intro ls s H h ρ S w a hev hdf hs hr
    obtain ⟨hC, h2⟩ := hJ (n + 1) ls s H h
    refine ⟨fun _ => hC w hs.facts, fun h0 => ?_, fun i hi => ?_⟩
    · rcases h2 with ⟨_, h4⟩ | ⟨h3, _⟩
      · exact ⟨ρ, S, s, H, .normal, hs, hev, hr, hdf, trivial, h4⟩
      · exact absurd h0 h3
    · rcases h2 with ⟨h3, _⟩ | ⟨_, m, hm, h4⟩
      · rw [h3] at hi; cases hi
      · obtain rfl : n = m := by omega
        obtain ⟨o, ho, hq⟩ := pickK_spec (h4 i hi)
        unfold wpOp
        simp only [ho]
        rcases wantK_spec hq hr with ⟨hw, s', h', hr'⟩ | ⟨hw, s', h', hr'⟩
        · rw [if_pos hw]
          refine .inl (step_sound (K := fun out H' => match out with
            | .val av => putK s' o.dst av fun s2 => J n (ls.setIfInBounds i true) s2 H'
            | .vals _ => False
            | .pan c => K (.pan c) s' H') h' hs hr' (fun ρ1 S1 H1 w1 av v hs1 hev1 hrel hK => ?_) (fun ρ1 S1 H1 w1 c hs1 hev1 hK => ?_) fun _ _ h => h)
          · obtain ⟨s2, hK2, hput⟩ := putK_spec hK
            have hrs : RelS ρ1 s' a.tmps.toList := by obtain ⟨t, ht⟩ := hev1.pre; rw [ht]; exact RelS_pre t hr'
            exact ih _ s2 H1 hK2 ρ1 S1 w1 _ (hev.trans hev1) (by rw [put_defers]; exact hdf) hs1 (hput ρ1 a v hrs hrel)
          · exact ⟨ρ1, S1, s', H1, .pan c, hs1, hev.trans hev1, trivial, hdf, rfl, hK⟩
        · rw [if_neg (by simp [hw])]
          obtain ⟨s2, hK2, hput⟩ := putK_spec h'
          exact ih _ s2 H hK2 ρ S w _ hev (by rw [put_defers]; exact hdf) hs (hput ρ a undef hr' rfl)
theorem front_sound {Q : Exit → Act → World → Prop} {ρ : List Loc} {w : World} {g : Nat} {Ks : List AV → Prop} {ls2 : Array Bool} (hsel : Region.noSelect ops = true) (hQ : ∀ c a d v w, Q (.panic c) (Act.put a d v) w → Q (.panic c) a w)
    (next : ∀ s a, Ks s → RelS ρ s a.tmps.toList → a.defers = dfs → AnyC P ops Q C [] g ls2 a w) : ∀ (l : List Nat) (s : List AV) (ls : Array Bool) (a : Act), execF P C ops l s Ks → preB .any ops l ls = true → setAll ls l = ls2 → RelS ρ s a.tmps.toList → a.defers = dfs →
      AnyC P ops Q C [] (l.length + g) ls a w
  | [], s, ls, a, h, _, he, hr, hd => by
    have he' : ls = ls2 := he
    subst he'
    rw [List.length_nil, Nat.zero_add]; exact next s a h hr hd
  | k :: l, s, ls, a, h0, hB, he, hr, hd => by
    have h : pickK ops k fun o => wantK ops o s (fun s => frontK P C o s fun av => putK s o.dst av fun s' => execF P C ops l s' Ks) (fun s => putK s o.dst (.c (.v undef)) fun s' => execF P C ops l s' Ks) := h0
    obtain ⟨o, ho, hq⟩ := pickK_spec h
    simp only [preB, Bool.and_eq_true] at hB
    have hk1 : k ∈ Region.ready .any ops ls := by simpa using hB.1.1
    rw [List.length_cons, Nat.add_right_comm]
    have fin : ∀ (v : Value) (s2 : List AV), Yields P ops o v a → execF P C ops l s2 Ks → RelS ρ s2 (a.put o.dst v).tmps.toList → AnyC P ops Q C [] (l.length + g + 1) ls a w := fun v s2 hy hK hr2 =>
      anyC_blind ho (Region.noSelect_spec hsel) (fun c a w h => hQ c a _ _ w h) (by simp) _ ls _ w (fun j oj hj hne hun hno => Region.free_spec ho hB.1.2 j oj hj hne hun hno) hk1 hy
        (front_sound hsel hQ next l s2 _ _ hK hB.2 he hr2 (by rw [put_defers]; exact hd))
    have finR : ∀ (v : Value) (s2 : List AV), YR P ops C o v a → execF P C ops l s2 Ks → RelS ρ s2 (a.put o.dst v).tmps.toList → AnyC P ops Q C [] (l.length + g + 1) ls a w := fun v s2 hy hK hr2 =>
      anyC_read ho (Region.noSelect_spec hsel) (fun c a w h => hQ c a _ _ w h) _ ls _ w (fun j oj hj hne hun hno => Region.free_spec ho hB.1.2 j oj hj hne hun hno) hk1 hy
        (front_sound hsel hQ next l s2 _ _ hK hB.2 he hr2 (by rw [put_defers]; exact hd))
    rcases wantK_spec hq hr with ⟨hw, s', h', hr'⟩ | ⟨hw, s', h', hr'⟩
    · by_cases hld : (∃ T x, o.op = .load T x) ∨ ∃ T x i, o.op = .indexAddr T x i
      · have h2 : ∃ x, ReadC P C o s' (fun av => putK s' o.dst av fun s2 => execF P C ops l s2 Ks) x := by
          have h3 := h'
          unfold frontK at h3
          rcases hld with ⟨T, y, hop⟩ | ⟨T, y, i, hop⟩
          · simp only [hop] at h3
            exact h3
          · simp only [hop] at h3
            exact h3
        obtain ⟨x, rc⟩ := h2
        obtain ⟨s2, hK2, hput⟩ := putK_spec rc.next
        refine finR x s2 (.inl ⟨hw, fun w' hw' => ?_⟩) hK2 (hput ρ a x hr' rfl)
        rw [execOp_congr o rc.sel (ρ' := plainEv s') fun y hy => allPlain_eval hr' _ rc.plain y (Array.mem_toList_iff.2 hy)]
        exact rc.run w' hw'
      · have h2 : blindK P o s' fun av => putK s' o.dst av fun s2 => execF P C ops l s2 Ks := by
          have h3 := h'
          unfold frontK at h3
          split at h3
          · rename_i T x hop
            exact absurd (.inl ⟨T, x, hop⟩) hld
          · rename_i T x i hop
            exact absurd (.inr ⟨T, x, i, hop⟩) hld
          · exact h3
        obtain ⟨av, v, hK, hrel, hrun⟩ := blind_sound (K := fun av => putK s' o.dst av fun s2 => execF P C ops l s2 Ks) h2 hr'
        obtain ⟨s2, hK2, hput⟩ := putK_spec hK
        exact fin v s2 (.inl ⟨hw, hrun⟩) hK2 (hput ρ a v hr' hrel)
    · obtain ⟨s2, hK2, hput⟩ := putK_spec h'
      exact fin undef s2 (.inr ⟨hw, rfl⟩) hK2 (hput ρ a undef hr' rfl)
end
/-- A region by its states. -/
theorem DrawN.walk {P : Program} {ops : Array Oper} {s : List AV} {H : List Ent} {K : Ex → List AV → List Ent → Prop} (hm : P.follows .mixedOrders = true) (C : World → Prop) (rd : List Nat) (n : Nat) (J : Nat → Array Bool → List AV → List Ent → Prop) (hsel : Region.noSelect ops = true) (hn : decide (ops.size = rd.length + n) = true) (hrd : preB .any ops rd (Array.replicate ops.size false) = true)
    (hJ : ClosedJ P ops C K J) (next : execF P C ops rd s fun s1 => J n (setAll (Array.replicate ops.size false) rd) s1 H) : DrawN P ops s H K :=
  .sem fun id ρ S w a hs hr => by
    have hn := of_decide_eq_true hn
    refine wp_region_any hm ?_
    have e0 : wpAny P .any ops (Post ρ S H w a.defers K) ops.size = wpAny P .any ops (Post ρ S H w a.defers K) (rd.length + n) := by rw [← hn]
    rw [e0]
    refine AnyC.any _ _ _ _ (front_sound (C := C) (dfs := a.defers) (ρ := ρ) hsel (fun c a d v w h => h.put) (fun s1 a1 h1 hr1 hd1 => ?_) rd s _ a next hrd rfl hr rfl)
    exact closed_sound hJ n _ s1 H h1 ρ S _ a1 (Ev.drew ρ S H w) hd1 (hs.heap rfl) hr1
/-- What is shown behind a region is used behind it. -/
theorem SemR.mono {P : Program} {ops : Array Oper} {s : List AV} {H : List Ent} {K K' : Ex → List AV → List Ent → Prop} (h : SemR P ops s H K') (hk : ∀ ex s' H', K' ex s' H' → K ex s' H') : SemR P ops s H K :=
  fun id ρ S w a hs hr => wp_mono (h id ρ S w a hs hr) fun e a' w' ⟨ρ', S', s', H', ex, h1, h2, h3, h4, h5, h6⟩ => ⟨ρ', S', s', H', ex, h1, h2, h3, h4, h5, hk _ _ _ h6⟩
/-- len(s) -/
theorem BlindW.lenS {P : Program} {o : Oper} {s : List AV} {K : AV → Prop} {x : Operand} {T : TypeId} {args : Array Operand} {ts : Array TypeId} {b : ByteArray} (ho : o.op = .call { callee := .builtin .len, args := args, argTypes := ts }) (ha : args = #[x]) (ht : ts = #[T]) (hu : P.underlying T = some .string)
    (hx : opv s x = .c (.v (.string b))) (hk : K (.c (.v (.int .i64 (b.size : Int))))) : ∃ x, BlindW P o s K x := by
  subst ha ht
  refine ⟨.int .i64 (b.size : Int), ?_, fun w => execOp_blt ho fun consts => ?_, hk⟩
  · rw [ho]
    show allPlain s [x] = true
    simp [allPlain, hx]
  · have he : plainEv s x = .string b := by unfold plainEv; rw [hx]
    simp [builtin, Builtin.len_, run_underlying hu, he, goInt]
end Go.AX

/-
  Contracts: slices.Values and slices.AppendSeq at strings (turned from the guide's worked callers of iterators).
-/
namespace Go.Proofs.YtahjbnfbilkbcaaGreatDoor
open Go.RowKit Go.Shelf Go.AX Go.Proofs

attribute [local go_sem] Oper.semAt_some

/-- What has come when k rounds are over. -/
def upto {α : Type} (f : Nat → α) (k : Nat) : List α := (List.range k).map f
theorem upto_succ {α : Type} (f : Nat → α) (k : Nat) : upto f (k + 1) = upto f k ++ [f k] := by simp [upto, List.range_succ]
theorem upto_length {α : Type} (f : Nat → α) (k : Nat) : (upto f k).length = k := by simp [upto]
theorem upto_all (zs : List (List UInt8)) : upto (fun j => zs[j]?.getD []) zs.length = zs := by
  apply List.ext_getElem
  · simp [upto]
  · intro i h1 h2
    simp [upto, h2]
theorem upto_take (zs : List (List UInt8)) {k : Nat} (hk : k ≤ zs.length) : upto (fun j => zs[j]?.getD []) k = zs.take k := by
  apply List.ext_getElem
  · simp [upto, hk]
  · intro i h1 h2
    have : i < zs.length := by simp [upto] at h1; omega
    simp [upto, this]

set_option maxRecDepth 100000 in
set_option maxHeartbeats 4000000 in
theorem values1_in (F : Fence) (n : Nat) (h7 : F.fn 114) (hro : F.round = none) (hn : 1 ≤ n) (l Bs n₀ b off len cap : Nat) (zs : List (List UInt8)) (hreach : len * 16 ≤ 140737488351232) (hb : b < n₀) (J Jx : List (List UInt8) → World → Prop)
    (hY : ∀ pre x W, J pre W → pre.length < len → YieldAt F (n - 1) Tryz.prog l #[.string (bs x)] W fun e W' =>
      (e = .returned (.bool true) ∧ J (pre ++ [x]) W' ∧ Below n₀ W W') ∨ (e = .returned (.bool false) ∧ Jx (pre ++ [x]) W'))
    (W : World) (hBs : W.cell? ⟨Bs, 0, none⟩ = some (.slice (some ⟨b, off, none⟩) len cap)) (hc : ∀ j, j < len → W.cell? ⟨b, off + j, none⟩ = some (.string (bs (zs[j]?.getD [])))) (h0 : J [] W) :
    CallsIn F n Tryz.prog 114 #[.func (.yield l) #[] #[], .pointer (some ⟨Bs, 0, none⟩)] W fun e W' => (∃ v, e = .returned v) ∧
      ((∃ ys, ys = upto (fun j => zs[j]?.getD []) len ∧ J ys W') ∨ (∃ pre, (∃ k, k ≤ len ∧ pre = upto (fun j => zs[j]?.getD []) k) ∧ Jx pre W')) := by
  refine callsIn_of_wp Tryz.func114 rfl h7 ?_ hro
  simp only [Tryz.ntmps114, List.size_toArray, List.length_cons, List.length_nil, Nat.reduceAdd, Nat.reduceSub, Array.replicate_succ, Array.replicate_zero, List.push_toArray, List.append_toArray, List.nil_append, List.cons_append]
  gi_wp2
  gi_loopw [7] (fun i wr => ∃ k : Nat, k ≤ len ∧ i = .int .i64 k ∧ J (upto (fun j => zs[j]?.getD []) k) wr ∧ Below n₀ W wr)
    (fun i _ => len - (intOf i).toNat)
  case atStart => exact ⟨0, Nat.zero_le _, rfl, h0, Below.refl _ _⟩
  case round =>
    obtain ⟨k, hk, rfl, hJs, hnx⟩ := hrel
    have hcx : k < len → wr.cell? ⟨b, off + k, none⟩ = some (.string (bs (zs[k]?.getD []))) := fun h => (hnx.cell (p := ⟨b, off + k, none⟩) hb).trans (hc k h)
    by_cases hlt : k < len
    · obtain ⟨fn, tmps, assign, body, hy, hR⟩ := hY _ (zs[k]?.getD []) wr hJs (by rw [upto_length]; exact hlt)
      have hcx' := hcx hlt
      gi_wp2
      refine hR.mono ?_
      rintro e W3 (⟨rfl, hJ3, hk3⟩ | ⟨rfl, hJx3⟩)
      · gi_wp2
        go_roundw
        case rel => exact ⟨k + 1, by omega, by simp, by rw [upto_succ]; exact hJ3, hnx.trans hk3⟩
        case measure => simp [intOf]; omega
      · gi_wp2
        refine bodyPost_ret (results_none rfl _ _ _) rfl ?_
        exact ⟨⟨_, rfl⟩, .inr ⟨_, ⟨k + 1, by omega, (upto_succ _ _).symm⟩, hJx3⟩⟩
    · obtain rfl : k = len := by omega
      gi_wp2
      go_end0
      exact ⟨⟨_, rfl⟩, .inl ⟨_, rfl, hJs⟩⟩
/-- The slice value sv holds the strings zs, in a block below n₀; or it is nil and there are none. -/
def StrsAt (n₀ : Nat) (W : World) (sv : Value) (zs : List (List UInt8)) : Prop :=
  (∃ a cap, sv = .slice a 0 cap ∧ zs = []) ∨ ∃ b off cap, sv = .slice (some ⟨b, off, none⟩) zs.length cap ∧ b < n₀ ∧ ∀ j, j < zs.length → W.cell? ⟨b, off + j, none⟩ = some (.string (bs (zs[j]?.getD [])))
theorem StrsAt.below {n₀ : Nat} {A B : World} (h : Below n₀ A B) {sv : Value} {zs : List (List UInt8)} : StrsAt n₀ A sv zs → StrsAt n₀ B sv zs
  | .inl e => .inl e
  | .inr ⟨b, off, cap, e, hb, hc⟩ => .inr ⟨b, off, cap, e, hb, fun j hj => (h.cell (p := ⟨b, off + j, none⟩) hb).trans (hc j hj)⟩

set_option maxRecDepth 100000 in
set_option maxHeartbeats 1000000 in
theorem values1_nil_in (F : Fence) (n : Nat) (h7 : F.fn 114) (hro : F.round = none) (l Bs : Nat) (a : Option Addr) (cap : Nat) (J : List (List UInt8) → World → Prop) (W : World) (hBs : W.cell? ⟨Bs, 0, none⟩ = some (.slice a 0 cap)) (h0 : J [] W) :
    CallsIn F n Tryz.prog 114 #[.func (.yield l) #[] #[], .pointer (some ⟨Bs, 0, none⟩)] W fun e W' => (∃ v, e = .returned v) ∧ J [] W' := by
  refine callsIn_of_wp Tryz.func114 rfl h7 ?_ hro
  simp only [Tryz.ntmps114, List.size_toArray, List.length_cons, List.length_nil, Nat.reduceAdd, Nat.reduceSub, Array.replicate_succ, Array.replicate_zero, List.push_toArray, List.append_toArray, List.nil_append, List.cons_append]
  gi_wp2
  gi_loopw [7] (fun i wr => i = .int .i64 0 ∧ J [] wr) (fun _ _ => 0)
  case atStart => exact ⟨rfl, h0⟩
  case round =>
    obtain ⟨rfl, hJs⟩ := hrel
    gi_wp2
    go_end0
    exact ⟨⟨_, rfl⟩, hJs⟩

theorem values_stops (F : Fence) (n : Nat) (h7 : F.fn 114) (hro : F.round = none) (hn : 1 ≤ n) (Bs n₀ : Nat) (sv : Value) (zs : List (List UInt8)) (hreach : zs.length * 16 ≤ 140737488351232) (w : World) (hBs : Bs < w.heap.size) (hn₀ : n₀ ≤ w.heap.size)
    (hc : w.cell? ⟨Bs, 0, none⟩ = some sv) (hI : StrsAt n₀ w sv zs) :
    SeqStopsK F n Tryz.prog 114 #[.pointer (some ⟨Bs, 0, none⟩)] (fun x : List UInt8 => #[Value.string (bs x)]) (Below n₀) (fun ys => ys = zs) (fun pre => pre <+: zs) zs.length w := fun l J Jx W hW _ _ hY h0 => by
  have hc' := (hW.cell (p := ⟨Bs, 0, none⟩) hBs).trans hc
  rcases hI.below (hW.mono hn₀) with ⟨a, cap, rfl, rfl⟩ | ⟨b, off, cap, rfl, hb, hcs⟩
  · exact (values1_nil_in F n h7 hro l Bs a cap J W hc' h0).mono fun e W' ⟨he, hj⟩ => ⟨he, .inl ⟨_, rfl, hj⟩⟩
  · refine (values1_in F n h7 hro hn l Bs n₀ b off zs.length cap zs hreach hb J Jx hY W hc' hcs h0).mono ?_
    rintro e W' ⟨he, ⟨ys, rfl, hj⟩ | ⟨pre, ⟨k, hk, rfl⟩, hj⟩⟩
    · exact ⟨he, .inl ⟨_, upto_all zs, hj⟩⟩
    · exact ⟨he, .inr ⟨_, by rw [upto_take zs hk]; exact List.take_prefix _ _, hj⟩⟩

theorem info_str : (Tryz.prog.info? 9).map (fun i => (i.zero, i.size, i.bytes)) = some (some (.string ⟨#[]⟩), 1, 16) := by kernel_rfl

set_option maxRecDepth 100000 in
set_option maxHeartbeats 4000000 in
/-- AppendSeq(nil, Values of zs): a new slice that holds zs. -/
theorem appendSeq_in (F : Fence) (n : Nat) (h3 : F.fn 127) (h5 : F.fn 114) (hro : F.round = none) (hn : 3 ≤ n) (Bs : Nat) (sv : Value) (zs : List (List UInt8)) (hlen : zs.length ≤ maxLen) (hbytes : zs.length * 16 ≤ 140737488351232) (w : World) (hBs : Bs < w.heap.size)
    (hcs : w.cell? ⟨Bs, 0, none⟩ = some sv) (hL : StrsAt w.heap.size w sv zs) :
    CallsIn F n Tryz.prog 127 #[.slice none 0 0, .func (.func 114) #[] #[.pointer (some ⟨Bs, 0, none⟩)]] w fun e W' => ∃ v, e = .returned v ∧ W'.ownsRow w.heap.size 9 1 v zs.length (zs.map fun x => Value.string (bs x)) ∧ Below w.heap.size w W' := by
  have h1 : 1 ≤ n := by omega
  obtain ⟨i0, hi, hz0, hz1, hz2⟩ := info_parts info_str
  refine callsIn_of_wp_marks Tryz.func127 rfl h3 ?_ hro
  simp only [Tryz.ntmps127, List.size_toArray, List.length_cons, List.length_nil, Nat.reduceAdd, Nat.reduceSub, Array.replicate_succ, Array.replicate_zero, List.push_toArray, List.append_toArray, List.nil_append, List.cons_append]
  gi_wp2
  have bO := Boxed.new w 40 (.slice none 0 0)
  have hB0 : Below w.heap.size w (w.alloc (.cells #[.slice none 0 0] 40)) := (Below.refl _ w).alloc (Nat.le_refl _) _
  refine wpIn_rangeFunc_ownG hro h1 (gf := 114) (lb := #[.pointer (some ⟨Bs, 0, none⟩)]) rfl h5 (enters_of Tryz.func114 (by kernel_rfl) rfl)
    (values_stops F (n - 1) h5 hro (by omega) Bs w.heap.size sv zs hbytes _ (by simp; omega) (by simp) ((hB0.cell (p := ⟨Bs, 0, none⟩) hBs).trans hcs) (hL.below hB0)) belowK_t (belowK_b (by simp)) (Below.refl _ _) (fun _ => rfl)
    (fun pre W => (∃ v, Boxed W w.heap.size 40 v ∧ W.ownsRow w.heap.size 9 1 v pre.length (pre.map fun x => Value.string (bs x)) ∧ True) ∧ Below w.heap.size w W)
    (fun _ _ _ => False)
    (OwnFrom.and (Own.from (holdsRow_own w.heap.size w.heap.size 40 9 1 (fun pre : List (List UInt8) => pre.length) (fun pre => pre.map fun x => Value.string (bs x)) (fun _ _ => True)) _) (ownFrom_below (Nat.le_refl _) (by simp)))
    (fun _ _ _ _ _ hs _ _ => hs)
    ⟨⟨_, bO, World.ownsRow_nil _ _ _ _, trivial⟩, hB0⟩
    (fun x => { tmps := #[.slice none 0 0, .func (.func 114) #[] #[.pointer (some ⟨Bs, 0, none⟩)], .pointer (some ⟨w.heap.size, 0, none⟩), undef, .slice none 0 0, .string (bs x), .func (.func 114) #[] #[.pointer (some ⟨Bs, 0, none⟩)], .string (bs x), undef, undef, undef, undef, undef], defers := [] }) ?assign ?body ?done ?stop
  case assign =>
    intro l x W K hK
    gi_wp2
    exact hK
  case body =>
    rintro l pre x W ⟨⟨v, hv, hrow, _⟩, hB⟩ hlt
    have hc := hv.cell
    gi_wp2_with (gi_at_builtin; refine wpListIn_append_own _ rfl _ _ 40 rfl w.heap.size 9 i0 (.string ⟨#[]⟩) 1 16 Tryz.underlying40 hi hz0 hz1 hz2 rfl (by decide) _ _ _ rfl (hrow.alloc _) ⟨W.heap.size, 0, none⟩ 1 1 [.string (bs x)] rfl rfl (cell_one_new _ _ _) (by simp [Value.oneCell']) (by omega) (by omega) (by have := hB.size; simp; omega) ?_; intro v' w1 hown' hgrow _; obtain ⟨g', cap', rfl⟩ := ownsRow_succ hown'; obtain ⟨hv1, hv2, hr2, hk2, hb2⟩ := hv.appended (by decide) hrow hB.size (Nat.le_refl _) hown' hgrow; have hc1 := hv1.cell; have hf1 := hv1.frozen)
    exact ⟨hk2.from _, hb2, ⟨_, hv2, by simpa using hr2, trivial⟩, hB.trans hb2⟩
  case done =>
    rintro D ys W hD rfl ⟨⟨v, hv, hrow, _⟩, hB⟩ hK
    have hc := hv.cell
    gi_wp2
    refine ⟨by simp, .inl ⟨_, _, rfl, run_takeDeferred hK, ?_⟩⟩
    exact ⟨_, results_tmp rfl _ _ _, v, rfl, ownsRow_putObj hrow _ hK rfl, hB.trans (belowK_b (w := w) (Nat.le_refl _) W D _ _ (by simp at hD; omega) hK rfl rfl)⟩
  case stop =>
    rintro D c pre W _ _ h _
    exact h.elim
end Go.Proofs.YtahjbnfbilkbcaaGreatDoor
