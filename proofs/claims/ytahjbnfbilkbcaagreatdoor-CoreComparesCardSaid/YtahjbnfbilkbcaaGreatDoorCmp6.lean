/-
  Lemmas (C8 C9 Ax49 V1 Ax50 V2 P11).
-/
import Derived.RangeFuncBox
import Derived.RangeFuncLeaves
import Derived.Shelf.Abstract
import Derived.WalkKit
import Derived.OwnWalkIn
import Derived.TacticsInMore
import Derived.LoopNIn
import Derived.LoopIn
import Derived.Maps.AppendAt
import Derived.Laws.AppendOwn
import Derived.Sort.OwnSorted
import Derived.Lib.SlicesCompact
import Derived.Test.YtahjbnfbilkbcaaGreatDoorCmp5
/-
  Contract: whether a cell is valid (document).
-/
namespace Go.Proofs.YtahjbnfbilkbcaaGreatDoor
open Go.AX Go.RowKit Go.Core Go.Scan
set_option maxRecDepth 20000

theorem all_step {α : Type} {Q : α → Prop} {l : List α} {i : Nat} {p : α} (h : ∀ c ∈ l.take i, Q c) (hp : l[i]? = some p) (hq : Q p) : ∀ c ∈ l.take (i + 1), Q c := by
  rw [List.take_add_one, hp]
  intro c hc
  rcases List.mem_append.1 hc with hc | hc
  · exact h c hc
  · rw [List.mem_singleton.1 (show c ∈ [p] from hc)]; exact hq
theorem range_no {n : Nat} {c : Cell} {x : Int} (h : x ∈ c.items) (hx : ¬ (0 ≤ x ∧ x < (n : Int))) : cellD n c = false := by
  have : rangeB n c = false := by
    cases hb : rangeB n c with
    | false => rfl
    | true =>
      unfold rangeB at hb
      have := List.all_eq_true.1 hb x h
      simp at this
      exact absurd this hx
  unfold cellD
  rw [this]
  simp
theorem slat_take {a : Option Addr} {l : List (List UInt8)} {w : World} {i : Nat} (h : SlAt a (l.length * 1) (strC l) w) (hi : i ≤ l.length) : SlAt a (i * 1) (strC (l.take i)) w := by
  obtain ⟨h1, h2, h3⟩ := h
  refine ⟨by simp [strC]; omega, fun h => h2 (by omega), fun j hj => ?_⟩
  rw [h3 j (by omega)]
  unfold strC
  rw [List.getElem?_map, List.getElem?_map, List.getElem?_take_of_lt (by omega)]
set_option maxHeartbeats 4000000 in
theorem cell_c0 (a : Option Addr) (ca n : Nat) (hn : n ≤ 200000000000000) (kind num : Int) (text : List UInt8) (names : List (List UInt8)) (items : List Int) (na : Option Addr) (nc : Nat) (ia : Option Addr) (ic : Nat) (hna : na = none → names = []) (hia : ia = none → items = []) (hnl : names.length ≤ 200000000000000) (hil : items.length ≤ 200000000000000) (hnw : ∀ s ∈ names, s.length ≤ 200000000000000) (htl : text.length ≤ 200000000000000) (hnb : names.length ≤ nc) :
    ∀ H, (∀ w, Facts H w → SlAt na (names.length * 1) (strC names) w ∧ SlAt ia (items.length * 1) (iC items) w) → SpecH Tryz.prog 43 (pvs [.slice a n ca, .agg #[.int .i64 kind, .int .i64 num, .string (bs text), .slice na names.length nc, .slice ia items.length ic]]) H (Ret (.bool (cellD n ⟨kind, num, text, names, items⟩)) H) := by
  refine factC hm Tryz.func43 (by kernel_rfl) rfl rfl ?_
  (first | refine wX ?_ | exact wZ)
  refine loopS Nat (fun i => i ≤ items.length ∧ ∀ x ∈ items.take i, 0 ≤ x ∧ x < (n : Int)) (fun i => mkS Tryz.f43.ntmps 0 [(0, .c (.v (.slice a n ca))), (3, .c (.lp 1 0)), (5, .c (.v (.int .i64 (i : Int))))]) (fun i => items.length - i) rfl (fun _ => rfl) 0 ⟨Nat.zero_le _, by simp⟩ ?_ ?_
  · (repeat' (first | exact trivial | refine And.intro (by with_reducible rfl) ?_ | (with_reducible exact wkC_refl _) | (with_reducible exact wkCs_refl _) | refine And.intro ?_ ?_))
    all_goals rfl
  intro i ⟨hi, hr⟩
  (first | refine wX ?_ | exact wZ)
  refine brd_dec (fun h1 => ?_) (fun h1 => ?_)
  · obtain ⟨x, hx⟩ : ∃ x, items[i]? = some x := ⟨_, List.getElem?_eq_getElem (by omega)⟩
    have hxm := List.mem_of_getElem? hx
    have hsa : ia.isSome = true := by
      cases ia with
      | none => rw [hia rfl] at hx; cases hx
      | some b => rfl
    (first | refine wX ?_ | exact wZ)
    refine Nd.mk ⟨hsa, by omega, by omega⟩ ?_
    (first | refine wX ?_ | exact wZ)
    refine LdN.one (.int .i64 x) rfl (fun w hw => hw.1.2) (by rw [Int.toNat_natCast]; show (iC items)[i * 1]? = _; rw [Nat.mul_one]; exact iC_get hx) ?_
    (first | refine wX ?_ | exact wZ)
    refine brd_dec (fun h2 => ?_) (fun h2 => ?_)
    · (first | refine wX ?_ | exact wZ)
      exact out_bool (range_no (c := ⟨kind, num, text, names, items⟩) hxm (by omega)).symm
    (first | refine wX ?_ | exact wZ)
    refine Nd.mk ⟨hsa, by omega, by omega⟩ ?_
    (first | refine wX ?_ | exact wZ)
    refine LdN.one (.int .i64 x) rfl (fun w hw => hw.1.2) (by rw [Int.toNat_natCast]; show (iC items)[i * 1]? = _; rw [Nat.mul_one]; exact iC_get hx) ?_
    (first | refine wX ?_ | exact wZ)
    refine brd_dec (fun h3 => ?_) (fun h3 => ?_)
    · (first | refine wX ?_ | exact wZ)
      exact out_bool (range_no (c := ⟨kind, num, text, names, items⟩) hxm (by omega)).symm
    (first | refine wX ?_ | exact wZ)
    refine ⟨i + 1, ⟨by omega, all_step hr hx (by omega)⟩, by omega, ?_, by (repeat' (first | exact trivial | exact wkE_refl _ | refine And.intro ?_ ?_))⟩
    (repeat' (first | exact trivial | refine And.intro (by with_reducible rfl) ?_ | (with_reducible exact wkC_refl _) | (with_reducible exact wkCs_refl _) | refine And.intro ?_ ?_))
    all_goals first | rfl | exact av_int (by rw [wrap_i64 (by omega)]; omega)
  have hin : i = items.length := by omega
  subst hin
  rw [List.take_length] at hr
  have hrB : rangeB n ⟨kind, num, text, names, items⟩ = true := List.all_eq_true.2 fun x hx => by have := hr x hx; simp; omega
  clear h1 hi
  (first | refine wX ?_ | exact wZ)
  refine brd_dec (fun hk0 => ?_) (fun hk0 => ?_)
  · (first | refine wX ?_ | exact wZ)
    exact out_bool (by unfold cellD; simp [hk0])
  (first | refine wX ?_ | exact wZ)
  have hkk : 8 < kind ∨ kind = 0 ∨ kind = 1 ∨ kind = 2 ∨ kind = 3 ∨ kind = 4 ∨ kind = 5 ∨ kind = 6 ∨ kind = 7 ∨ kind = 8 := by omega
  rcases hkk with hk | rfl | rfl | rfl | rfl | rfl | rfl | rfl | rfl | rfl
  · refine brd_dec (fun _ => ?_) (fun h => absurd hk h)
    (first | refine wX ?_ | exact wZ)
    exact out_bool (by unfold cellD; simp [hk])
  · -- 0: the kind
    -- 0: the kind
    (first | refine wX ?_ | exact wZ)
    refine call1 (leaf_c ⟨⟨0, num, text, names, items⟩, na, nc, ia, ic⟩ _) ?_
    (first | refine wX ?_ | exact wZ)
    refine brd_dec (fun hi => ?_) (fun hi => ?_)
    · (first | refine wX ?_ | exact wZ)
      exact out_bool (by
        have h0 : items ≠ [] := fun e => by rw [e] at hi; simp at hi
        unfold cellD
        rw [hrB]
        simp [h0])
    have hi0 : items = [] := List.eq_nil_of_length_eq_zero (by omega)
    (first | refine wX ?_ | exact wZ)
    refine brd_dec (fun hi => ?_) (fun hi => ?_)
    · (first | refine wX ?_ | exact wZ)
      exact out_bool (by
        have h0 : names ≠ [] := fun e => by rw [e] at hi; simp at hi
        unfold cellD
        rw [hrB]
        simp [h0])
    have hn0 : names = [] := List.eq_nil_of_length_eq_zero (by omega)
    (first | refine wX ?_ | exact wZ)
    refine brd_ne (fun hu => ?_) (fun hu => ?_)
    · (first | refine wX ?_ | exact wZ)
      exact out_bool (by
        unfold cellD
        rw [hrB]
        simp [hu])
    (first | refine wX ?_ | exact wZ)
    -- hi0, : what is known of items
    exact out_bool (by
      rw [bs_list, Bool.eq_iff_iff]
      unfold cellD
      rw [hrB]
      simp [hi0, hn0, hu])
  · -- 1: the kind
    -- 1: the kind
    (first | refine wX ?_ | exact wZ)
    refine call1 (leaf_c ⟨⟨1, num, text, names, items⟩, na, nc, ia, ic⟩ _) ?_
    (first | refine wX ?_ | exact wZ)
    refine brd_dec (fun hi => ?_) (fun hi => ?_)
    · (first | refine wX ?_ | exact wZ)
      exact out_bool (by
        have h0 : items ≠ [] := fun e => by rw [e] at hi; simp at hi
        unfold cellD
        rw [hrB]
        simp [h0])
    have hi0 : items = [] := List.eq_nil_of_length_eq_zero (by omega)
    (first | refine wX ?_ | exact wZ)
    refine brd_dec (fun hi => ?_) (fun hi => ?_)
    · (first | refine wX ?_ | exact wZ)
      exact out_bool (by
        have h0 : names ≠ [] := fun e => by rw [e] at hi; simp at hi
        unfold cellD
        rw [hrB]
        simp [h0])
    have hn0 : names = [] := List.eq_nil_of_length_eq_zero (by omega)
    (first | refine wX ?_ | exact wZ)
    refine brd_ne (fun hu => ?_) (fun hu => ?_)
    · (first | refine wX ?_ | exact wZ)
      exact out_bool (by
        unfold cellD
        rw [hrB]
        simp [hu])
    (first | refine wX ?_ | exact wZ)
    -- hi0, : what is known of items
    exact out_bool (by
      rw [bs_list, Bool.eq_iff_iff]
      unfold cellD
      rw [hrB]
      simp [hi0, hn0, hu])
  · -- 2: the kind
    -- 2: the kind
    (first | refine wX ?_ | exact wZ)
    refine call1 (leaf_c ⟨⟨2, num, text, names, items⟩, na, nc, ia, ic⟩ _) ?_
    (first | refine wX ?_ | exact wZ)
    refine brd_dec (fun hi => ?_) (fun hi => ?_)
    · (first | refine wX ?_ | exact wZ)
      exact out_bool (by
        have h0 : items ≠ [] := fun e => by rw [e] at hi; simp at hi
        unfold cellD
        rw [hrB]
        simp [h0])
    have hi0 : items = [] := List.eq_nil_of_length_eq_zero (by omega)
    (first | refine wX ?_ | exact wZ)
    refine brd_dec (fun hi => ?_) (fun hi => ?_)
    · (first | refine wX ?_ | exact wZ)
      exact out_bool (by
        have h0 : names ≠ [] := fun e => by rw [e] at hi; simp at hi
        unfold cellD
        rw [hrB]
        simp [h0])
    have hn0 : names = [] := List.eq_nil_of_length_eq_zero (by omega)
    (first | refine wX ?_ | exact wZ)
    refine brd_ne (fun hu => ?_) (fun hu => ?_)
    · (first | refine wX ?_ | exact wZ)
      exact out_bool (by
        unfold cellD
        rw [hrB]
        simp [hu])
    (first | refine wX ?_ | exact wZ)
    -- hi0, : what is known of items
    exact out_bool (by
      rw [bs_list, Bool.eq_iff_iff]
      unfold cellD
      rw [hrB]
      simp [hi0, hn0, hu])
  · -- 3: the kind
    (first | refine wX ?_ | exact wZ)
    refine call1 (leaf_c ⟨⟨3, num, text, names, items⟩, na, nc, ia, ic⟩ _) ?_
    (first | refine wX ?_ | exact wZ)
    refine brd_dec (fun hi => ?_) (fun hi => ?_)
    · (first | refine wX ?_ | exact wZ)
      exact out_bool (by
        have h0 : items ≠ [] := fun e => by rw [e] at hi; simp at hi
        unfold cellD
        rw [hrB]
        simp [h0])
    have hi0 : items = [] := List.eq_nil_of_length_eq_zero (by omega)
    (first | refine wX ?_ | exact wZ)
    refine brd_dec (fun hi => ?_) (fun hi => ?_)
    · (first | refine wX ?_ | exact wZ)
      exact out_bool (by
        have h0 : names ≠ [] := fun e => by rw [e] at hi; simp at hi
        unfold cellD
        rw [hrB]
        simp [h0])
    have hn0 : names = [] := List.eq_nil_of_length_eq_zero (by omega)
    (first | refine wX ?_ | exact wZ)
    -- the text is empty, or not
    rw [bs_list]
    cases ht : text == ([] : List UInt8) with
    | false =>
      have ht0 : text ≠ [] := fun e => by rw [e] at ht; cases ht
      (first | refine wX ?_ | exact wZ)
      exact out_bool (by
        unfold cellD
        rw [hrB]
        simp [ht0])
    | true =>
    have ht0 : text = [] := eq_of_beq ht
    (first | refine wX ?_ | exact wZ)
    refine brd_dec (fun hm1 => ?_) (fun hm1 => ?_)
    · (first | refine wX ?_ | exact wZ)
      exact out_bool (by
        rw [Bool.eq_iff_iff]
        unfold cellD
        rw [hrB]
        have hmm : -Go.Core.maxI ≤ num := hm1
        simp [hi0, hn0, ht0, hmm]
        exact Iff.rfl)
    · (first | refine wX ?_ | exact wZ)
      exact out_bool (by
        have : ¬ (-Go.Core.maxI ≤ num) := hm1
        unfold cellD
        rw [hrB]
        simp [this])
  · -- 4: the kind
    (first | refine wX ?_ | exact wZ)
    refine call1 (leaf_c ⟨⟨4, num, text, names, items⟩, na, nc, ia, ic⟩ _) ?_
    (first | refine wX ?_ | exact wZ)
    refine brd_dec (fun hi => ?_) (fun hi => ?_)
    · (first | refine wX ?_ | exact wZ)
      exact out_bool (by
        have h0 : items ≠ [] := fun e => by rw [e] at hi; simp at hi
        unfold cellD
        rw [hrB]
        simp [h0])
    have hi0 : items = [] := List.eq_nil_of_length_eq_zero (by omega)
    (first | refine wX ?_ | exact wZ)
    refine brd_dec (fun hi => ?_) (fun hi => ?_)
    · (first | refine wX ?_ | exact wZ)
      exact out_bool (by
        have h0 : names ≠ [] := fun e => by rw [e] at hi; simp at hi
        unfold cellD
        rw [hrB]
        simp [h0])
    have hn0 : names = [] := List.eq_nil_of_length_eq_zero (by omega)
    (first | refine wX ?_ | exact wZ)
    refine brd_ne (fun hu => ?_) (fun hu => ?_)
    · (first | refine wX ?_ | exact wZ)
      exact out_bool (by
        unfold cellD
        rw [hrB]
        simp [hu])
    (first | refine wX ?_ | exact wZ)
    exact out_bool (by
      rw [bs_size, Bool.eq_iff_iff]
      unfold cellD
      rw [hrB]
      simp [hi0, hn0, hu]
      try omega)
  · -- 5: the kind
    (first | refine wX ?_ | exact wZ)
    refine call1 (leaf_c ⟨⟨5, num, text, names, items⟩, na, nc, ia, ic⟩ _) ?_
    (first | refine wX ?_ | exact wZ)
    refine brd_dec (fun hi => ?_) (fun hi => ?_)
    · (first | refine wX ?_ | exact wZ)
      exact out_bool (by
        have h0 : items ≠ [] := fun e => by rw [e] at hi; simp at hi
        unfold cellD
        rw [hrB]
        simp [h0])
    have hi0 : items = [] := List.eq_nil_of_length_eq_zero (by omega)
    (first | refine wX ?_ | exact wZ)
    refine brd_dec (fun hi => ?_) (fun hi => ?_)
    · (first | refine wX ?_ | exact wZ)
      exact out_bool (by
        have h0 : names ≠ [] := fun e => by rw [e] at hi; simp at hi
        unfold cellD
        rw [hrB]
        simp [h0])
    have hn0 : names = [] := List.eq_nil_of_length_eq_zero (by omega)
    (first | refine wX ?_ | exact wZ)
    refine brd_ne (fun hu => ?_) (fun hu => ?_)
    · (first | refine wX ?_ | exact wZ)
      exact out_bool (by
        unfold cellD
        rw [hrB]
        simp [hu])
    (first | refine wX ?_ | exact wZ)
    exact out_bool (by
      rw [bs_size, Bool.eq_iff_iff]
      unfold cellD
      rw [hrB]
      simp [hi0, hn0, hu]
      try omega)
  · -- 6: the kind
    (first | refine wX ?_ | exact wZ)
    refine call1 (leaf_c ⟨⟨6, num, text, names, items⟩, na, nc, ia, ic⟩ _) ?_
    (first | refine wX ?_ | exact wZ)
    refine brd_dec (fun hi => ?_) (fun hi => ?_)
    · (first | refine wX ?_ | exact wZ)
      exact out_bool (by
        have h0 : names ≠ [] := fun e => by rw [e] at hi; simp at hi
        unfold cellD
        rw [hrB]
        simp [h0])
    have hn0 : names = [] := List.eq_nil_of_length_eq_zero (by omega)
    (first | refine wX ?_ | exact wZ)
    refine brd_ne (fun hu => ?_) (fun hu => ?_)
    · (first | refine wX ?_ | exact wZ)
      exact out_bool (by
        unfold cellD
        rw [hrB]
        simp [hu])
    (first | refine wX ?_ | exact wZ)
    -- : what is known of items
    exact out_bool (by
      rw [bs_list, Bool.eq_iff_iff]
      unfold cellD
      rw [hrB]
      simp [hn0, hu])
  · -- 7: the kind
    (first | refine wX ?_ | exact wZ)
    refine call1 (leaf_c ⟨⟨7, num, text, names, items⟩, na, nc, ia, ic⟩ _) ?_
    (first | refine wX ?_ | exact wZ)
    refine brd_dec (fun hi => ?_) (fun hi => ?_)
    · (first | refine wX ?_ | exact wZ)
      exact out_bool (by
        have h0 : names ≠ [] := fun e => by rw [e] at hi; simp at hi
        unfold cellD
        rw [hrB]
        simp [h0])
    have hn0 : names = [] := List.eq_nil_of_length_eq_zero (by omega)
    (first | refine wX ?_ | exact wZ)
    refine brd_ne (fun hu => ?_) (fun hu => ?_)
    · (first | refine wX ?_ | exact wZ)
      exact out_bool (by
        unfold cellD
        rw [hrB]
        simp [hu])
    (first | refine wX ?_ | exact wZ)
    -- the text is empty, or not
    rw [bs_list]
    cases ht : text == ([] : List UInt8) with
    | false =>
      have ht0 : text ≠ [] := fun e => by rw [e] at ht; cases ht
      (first | refine wX ?_ | exact wZ)
      exact out_bool (by
        unfold cellD
        rw [hrB]
        simp [ht0])
    | true =>
    have ht0 : text = [] := eq_of_beq ht
    (first | refine wX ?_ | exact wZ)
    exact out_bool (by
      rw [Bool.eq_iff_iff]
      unfold cellD
      rw [hrB]
      simp [hn0, hu, ht0]
      rw [Int.tmod_eq_emod_of_nonneg (by omega)]
      omega)
  · -- 8: the kind
    (first | refine wX ?_ | exact wZ)
    refine call1 (leaf_c ⟨⟨8, num, text, names, items⟩, na, nc, ia, ic⟩ _) ?_
    (first | refine wX ?_ | exact wZ)
    refine brd_ne (fun hu => ?_) (fun hu => ?_)
    · (first | refine wX ?_ | exact wZ)
      exact out_bool (by
        unfold cellD
        rw [hrB]
        simp [hu])
    (first | refine wX ?_ | exact wZ)
    refine call1 (dConst_c text htl _) ?_
    cases hcn : constD text with
    | false =>
      (first | refine wX ?_ | exact wZ)
      exact out_bool (by
        unfold cellD
        rw [hrB, hcn]
        simp)
    | true =>
    (first | refine wX ?_ | exact wZ)
    refine brd_ne (fun hln => ?_) (fun hln => ?_)
    · (first | refine wX ?_ | exact wZ)
      exact out_bool (by
        have : ¬ names.length = items.length := by omega
        unfold cellD
        rw [hrB, hcn]
        simp [this])
    (first | refine wX ?_ | exact wZ)
    refine loopS Nat (fun i => i ≤ names.length ∧ ∀ j, j < i → (ivarD (names.getD j []) && !decide (names.getD j [] ∈ names.take j)) = true) (fun i => mkS Tryz.f43.ntmps 0 [(0, .c (.v (.slice a n ca))), (3, .c (.lp 1 0)), (6, .c (.v (.int .i64 (i : Int))))]) (fun i => names.length - i) rfl (fun _ => rfl) 0 ⟨Nat.zero_le _, fun _ h => by omega⟩ ?_ ?_
    · (repeat' (first | exact trivial | refine And.intro (by with_reducible rfl) ?_ | (with_reducible exact wkC_refl _) | (with_reducible exact wkCs_refl _) | refine And.intro ?_ ?_))
      all_goals rfl
    intro i ⟨hi, hj⟩
    (first | refine wX ?_ | exact wZ)
    refine brd_dec (fun h1 => ?_) (fun h1 => ?_)
    · obtain ⟨x, hx⟩ : ∃ x, names[i]? = some x := ⟨_, List.getElem?_eq_getElem (by omega)⟩
      have hxm := List.mem_of_getElem? hx
      have hsa : na.isSome = true := by
        cases na with
        | none => rw [hna rfl] at hx; cases hx
        | some b => rfl
      have hxd : names.getD i [] = x := by rw [List.getD_eq_getElem?_getD, hx]; rfl
      have hbad : (ivarD x && !decide (x ∈ names.take i)) = false → false = cellD n ⟨8, num, text, names, items⟩ := fun h => by
        cases hcd : cellD n ⟨8, num, text, names, items⟩ with
        | false => rfl
        | true =>
          unfold cellD at hcd
          simp only [show ¬ (8 : Int) = 3 by decide, show ¬ (8 : Int) = 4 by decide, show ¬ (8 : Int) = 5 by decide, show ¬ (8 : Int) = 7 by decide, if_false, if_true, Bool.and_eq_true] at hcd
          have := List.all_eq_true.1 hcd.2.2 i (List.mem_range.2 (by omega))
          rw [hxd, h] at this
          cases this
      (first | refine wX ?_ | exact wZ)
      refine Nd.mk ⟨hsa, by omega, by omega⟩ ?_
      (first | refine wX ?_ | exact wZ)
      refine LdN.one (.string (bs x)) rfl (fun w hw => hw.1.1) (by rw [Int.toNat_natCast]; show (strC names)[i * 1]? = _; rw [Nat.mul_one]; exact strC_get hx) ?_
      (first | refine wX ?_ | exact wZ)
      refine callQ (dIvar_c x (hnw x hxm) _) ?_
      cases hiv : ivarD x with
      | false =>
        (first | refine wX ?_ | exact wZ)
        exact out_bool (hbad (by rw [hiv]; rfl))
      | true =>
      (first | refine wX ?_ | exact wZ)
      refine ReadW.slc_hi rfl (by kernel_rfl) rfl rfl (by omega) ?_
      rw [Int.toNat_natCast]
      (first | refine wX ?_ | exact wZ)
      refine Nd.mk ⟨hsa, by omega, by omega⟩ ?_
      (first | refine wX ?_ | exact wZ)
      refine LdN.one (.string (bs x)) rfl (fun w hw => hw.1.1) (by rw [Int.toNat_natCast]; show (strC names)[i * 1]? = _; rw [Nat.mul_one]; exact strC_get hx) ?_
      (first | refine wX ?_ | exact wZ)
      have htk : (names.take i).length = i := by rw [List.length_take]; omega
      have hh := dHas_c na nc (names.take i) x (fun h => by rw [hna h]; simp) (by omega)
      rw [htk] at hh
      refine callQ (hh _ ?_) ?_
      · exact fun w hw => slat_take hw.1.1 (by omega)
      cases hmm : decide (x ∈ names.take i) with
      | true =>
        (first | refine wX ?_ | exact wZ)
        exact out_bool (hbad (by rw [hmm]; simp))
      | false =>
        (first | refine wX ?_ | exact wZ)
        refine ⟨i + 1, ⟨by omega, fun j hj2 => ?_⟩, by omega, ?_, by (repeat' (first | exact trivial | exact wkE_refl _ | refine And.intro ?_ ?_))⟩
        · by_cases e : j = i
          · subst e; rw [hxd, hiv, hmm]; rfl
          · exact hj j (by omega)
        · (repeat' (first | exact trivial | refine And.intro (by with_reducible rfl) ?_ | (with_reducible exact wkC_refl _) | (with_reducible exact wkCs_refl _) | refine And.intro ?_ ?_))
          all_goals first | rfl | exact av_int (by rw [wrap_i64 (by omega)]; omega)
    · have hin : i = names.length := by omega
      subst hin
      (first | refine wX ?_ | exact wZ)
      refine out_bool ?_
      unfold cellD
      rw [hrB, hcn, List.all_eq_true.2 fun j hj2 => hj j (List.mem_range.1 hj2)]
      simp [hu]
      omega
theorem cell_c (a : Option Addr) (ca n : Nat) (hn : n ≤ 200000000000000) (p : CellP) (hp : CellOk p) : ∀ H, (∀ w, Facts H w → CellF p w) → SpecH Tryz.prog 43 (pvs [.slice a n ca, cellV p]) H (Ret (.bool (cellD n p.c)) H) := by
  obtain ⟨⟨kind, num, text, names, items⟩, na, nc, ia, ic⟩ := p
  exact cell_c0 a ca n hn kind num text names items na nc ia ic hp.na hp.ia hp.nl hp.il hp.nw hp.tl hp.nb
end Go.Proofs.YtahjbnfbilkbcaaGreatDoor

/-
  Contract: whether a graph is valid (document).
-/
namespace Go.Core
def ValidP (g : List Cell) : Prop := g.length ≤ 500 ∧ (∀ c ∈ g, cellD g.length c = true) ∧ ∀ c ∈ g, c.kind = 7 → ¬ Twice g c.items
theorem cellD_in {n : Nat} {c : Cell} (h : cellD n c = true) : ∀ x ∈ c.items, 0 ≤ x ∧ x < (n : Int) := by
  unfold cellD at h
  simp only [Bool.and_eq_true] at h
  intro x hx
  have := List.all_eq_true.1 h.1.1 x hx
  simpa using this
end Go.Core
namespace Go.Proofs.YtahjbnfbilkbcaaGreatDoor
open Go.AX Go.RowKit Go.Core Go.Scan
set_option maxRecDepth 20000

set_option maxHeartbeats 4000000 in
theorem Valid_c (a : Option Addr) (ca : Nat) (l : List CellP) (ha : a = none → l = []) (hl : l.length ≤ 200000000000000) (hok : ∀ p ∈ l, CellOk p) :
    ∀ H, (∀ w, Facts H w → GrF a l w) → ∃ b : Bool, (b = true ↔ ValidP (l.map (·.c))) ∧ SpecH Tryz.prog 17 (pvs [.slice a l.length ca]) H (Ret (.bool b) H) := by
  intro H hH
  obtain ⟨b, hb⟩ : ∃ b : Bool, b = true ↔ ValidP (l.map (·.c)) := by
    by_cases h : ValidP (l.map (·.c))
    · exact ⟨true, fun _ => h, fun _ => rfl⟩
    · exact ⟨false, (fun h => by cases h), fun h2 => absurd h2 h⟩
  refine ⟨b, hb, ?_⟩
  have hml : (l.map (·.c)).length = l.length := by simp
  have hno : ¬ ValidP (l.map (·.c)) → false = b := fun h => by
    cases b with
    | false => rfl
    | true => exact absurd (hb.1 rfl) h
  refine factC hm Tryz.func17 (by kernel_rfl) rfl rfl ?_ H hH
  (first | refine wX ?_ | exact wZ)
  refine brd_dec (fun h0 => ?_) (fun h0 => ?_)
  · (first | refine wX ?_ | exact wZ)
    exact out_bool (hno fun h => by have := h.1; omega)
  (first | refine wX ?_ | exact wZ)
  refine loopS Nat (fun i => i ≤ l.length ∧ ∀ p ∈ l.take i, cellD l.length p.c = true) (fun i => mkS Tryz.f17.ntmps 0 [(0, .c (.v (.slice a l.length ca))), (3, .c (.v (.int .i64 (i : Int))))]) (fun i => l.length - i) rfl (fun _ => rfl) 0 ⟨Nat.zero_le _, by simp⟩ ?_ ?_
  · (repeat' (first | exact trivial | refine And.intro (by with_reducible rfl) ?_ | (with_reducible exact wkC_refl _) | (with_reducible exact wkCs_refl _) | refine And.intro ?_ ?_))
    all_goals rfl
  intro i ⟨hi, hc⟩
  (first | refine wX ?_ | exact wZ)
  refine brd_dec (fun h1 => ?_) (fun h1 => ?_)
  · obtain ⟨p, hp⟩ : ∃ p, l[i]? = some p := ⟨_, List.getElem?_eq_getElem (by omega)⟩
    have hpm := List.mem_of_getElem? hp
    have hsa : a.isSome = true := by
      cases a with
      | none => rw [ha rfl] at hp; cases hp
      | some b => rfl
    (first | refine wX ?_ | exact wZ)
    refine Nd.mk ⟨hsa, by omega, by omega⟩ ?_
    (first | refine wX ?_ | exact wZ)
    refine LdN.agg (cellC p) rfl (fun w hw => hw.1.1) rfl (fun k hk => by rw [Int.toNat_natCast]; exact grC_get l i k hk hp) ?_
    (first | refine wX ?_ | exact wZ)
    refine call1 (cell_c a ca l.length hl p (hok p hpm) _ (fun w hw => hw.1.2 p hpm)) ?_
    cases hcd : cellD l.length p.c with
    | false =>
      (first | refine wX ?_ | exact wZ)
      exact out_bool (hno fun h => by
        have := h.2.1 p.c (List.mem_map.2 ⟨p, hpm, rfl⟩)
        rw [hml, hcd] at this
        cases this)
    | true =>
      (first | refine wX ?_ | exact wZ)
      refine ⟨i + 1, ⟨by omega, all_step hc hp hcd⟩, by omega, ?_, by (repeat' (first | exact trivial | exact wkE_refl _ | refine And.intro ?_ ?_))⟩
      (repeat' (first | exact trivial | refine And.intro (by with_reducible rfl) ?_ | (with_reducible exact wkC_refl _) | (with_reducible exact wkCs_refl _) | refine And.intro ?_ ?_))
      all_goals first | rfl | exact av_int (by rw [wrap_i64 (by omega)]; omega)
  have hil : i = l.length := by omega
  subst hil
  rw [List.take_length] at hc
  clear h1
  (first | refine wX ?_ | exact wZ)
  refine loopS Nat (fun i => i ≤ l.length ∧ ∀ p ∈ l.take i, p.c.kind = 7 → ¬ Twice (l.map (·.c)) p.c.items) (fun i => mkS Tryz.f17.ntmps 0 [(0, .c (.v (.slice a l.length ca))), (4, .c (.v (.int .i64 (i : Int))))]) (fun i => l.length - i) rfl (fun _ => rfl) 0 ⟨Nat.zero_le _, by simp⟩ ?_ ?_
  · (repeat' (first | exact trivial | refine And.intro (by with_reducible rfl) ?_ | (with_reducible exact wkC_refl _) | (with_reducible exact wkCs_refl _) | refine And.intro ?_ ?_))
    all_goals rfl
  intro i ⟨hi, ht⟩
  (first | refine wX ?_ | exact wZ)
  refine brd_dec (fun h1 => ?_) (fun h1 => ?_)
  · obtain ⟨p, hp⟩ : ∃ p, l[i]? = some p := ⟨_, List.getElem?_eq_getElem (by omega)⟩
    have hpm := List.mem_of_getElem? hp
    have hpo := hok p hpm
    have hpil := hpo.il
    have hsa : a.isSome = true := by
      cases a with
      | none => rw [ha rfl] at hp; cases hp
      | some b => rfl
    (first | refine wX ?_ | exact wZ)
    refine Nd.mk ⟨hsa, by omega, by omega⟩ ?_
    (first | refine wX ?_ | exact wZ)
    refine LdN.fld (.int .i64 p.c.kind) rfl (fun w hw => hw.1.1) (by rw [Int.toNat_natCast]; exact grC_get l i 0 (by decide) hp) ?_
    (first | refine wX ?_ | exact wZ)
    refine brd_ne (fun h7 => ?_) (fun h7 => ?_)
    · (first | refine wX ?_ | exact wZ)
      refine ⟨i + 1, ⟨by omega, all_step ht hp (fun h => absurd h h7)⟩, by omega, ?_, by (repeat' (first | exact trivial | exact wkE_refl _ | refine And.intro ?_ ?_))⟩
      (repeat' (first | exact trivial | refine And.intro (by with_reducible rfl) ?_ | (with_reducible exact wkC_refl _) | (with_reducible exact wkCs_refl _) | refine And.intro ?_ ?_))
      all_goals first | rfl | exact av_int (by rw [wrap_i64 (by omega)]; omega)
    (first | refine wX ?_ | exact wZ)
    refine Nd.mk ⟨hsa, by omega, by omega⟩ ?_
    (first | refine wX ?_ | exact wZ)
    refine LdN.fld (.slice p.ia p.c.items.length p.ic) rfl (fun w hw => hw.1.1) (by rw [Int.toNat_natCast]; exact grC_get l i 4 (by decide) hp) ?_
    (first | refine wX ?_ | exact wZ)
    have hin := cellD_in (hc p hpm)
    refine loopS Nat (fun u => u ≤ p.c.items.length + 1 ∧ u % 2 = 0 ∧ ∀ i' k, k < i' → i' < u → i' < p.c.items.length → i' % 2 = 0 → k % 2 = 0 → keyB (l.map (·.c)) (p.c.items.getD i' 0) (p.c.items.getD k 0) = false) (fun u => mkS Tryz.f17.ntmps 0 [(0, .c (.v (.slice a l.length ca))), (4, .c (.v (.int .i64 (i : Int)))), (5, .c (.v (.slice p.ia p.c.items.length p.ic))), (6, .c (.v (.int .i64 (u : Int))))]) (fun u => p.c.items.length + 2 - u) rfl (fun _ => rfl) 0 ⟨Nat.zero_le _, rfl, fun _ _ _ h => by omega⟩ ?_ ?_
    · (repeat' (first | exact trivial | refine And.intro (by with_reducible rfl) ?_ | (with_reducible exact wkC_refl _) | (with_reducible exact wkCs_refl _) | refine And.intro ?_ ?_))
      all_goals rfl
    intro u ⟨hu, hu2, hno2⟩
    (first | refine wX ?_ | exact wZ)
    refine brd_dec (fun h2 => ?_) (fun h2 => ?_)
    · obtain ⟨x, hx⟩ : ∃ x, p.c.items[u]? = some x := ⟨_, List.getElem?_eq_getElem (by omega)⟩
      have hsi : p.ia.isSome = true := by
        cases hna : p.ia with
        | none => rw [hpo.ia hna] at hx; cases hx
        | some b => rfl
      (first | refine wX ?_ | exact wZ)
      refine loopS Nat (fun k => k ≤ u + 1 ∧ k % 2 = 0 ∧ ∀ k', k' < k → k' < u → k' % 2 = 0 → keyB (l.map (·.c)) (p.c.items.getD u 0) (p.c.items.getD k' 0) = false) (fun k => mkS Tryz.f17.ntmps 0 [(0, .c (.v (.slice a l.length ca))), (4, .c (.v (.int .i64 (i : Int)))), (5, .c (.v (.slice p.ia p.c.items.length p.ic))), (6, .c (.v (.int .i64 (u : Int)))), (7, .c (.v (.int .i64 (k : Int))))]) (fun k => u + 2 - k) rfl (fun _ => rfl) 0 ⟨Nat.zero_le _, rfl, fun _ h => by omega⟩ ?_ ?_
      · (repeat' (first | exact trivial | refine And.intro (by with_reducible rfl) ?_ | (with_reducible exact wkC_refl _) | (with_reducible exact wkCs_refl _) | refine And.intro ?_ ?_))
        all_goals rfl
      intro k ⟨hk, hk2, hnk⟩
      (first | refine wX ?_ | exact wZ)
      refine brd_dec (fun h3 => ?_) (fun h3 => ?_)
      · obtain ⟨y, hy⟩ : ∃ y, p.c.items[k]? = some y := ⟨_, List.getElem?_eq_getElem (by omega)⟩
        obtain ⟨hx0, hx1⟩ := hin x (List.mem_of_getElem? hx)
        obtain ⟨hy0, hy1⟩ := hin y (List.mem_of_getElem? hy)
        obtain ⟨xn, rfl⟩ : ∃ xn : Nat, x = (xn : Int) := ⟨x.toNat, by omega⟩
        obtain ⟨yn, rfl⟩ : ∃ yn : Nat, y = (yn : Int) := ⟨y.toNat, by omega⟩
        obtain ⟨q, hq⟩ : ∃ q, l[xn]? = some q := ⟨_, List.getElem?_eq_getElem (by omega)⟩
        obtain ⟨r, hr⟩ : ∃ r, l[yn]? = some r := ⟨_, List.getElem?_eq_getElem (by omega)⟩
        have hke : keyB (l.map (·.c)) (p.c.items.getD u 0) (p.c.items.getD k 0) = (decide ((xn : Int) = yn) || oneKeyB q.c r.c) := by
          rw [List.getD_eq_getElem?_getD, List.getD_eq_getElem?_getD, hx, hy]
          show keyB _ (xn : Int) (yn : Int) = _
          unfold keyB
          rw [at_map hq, at_map hr]
        (first | refine wX ?_ | exact wZ)
        -- an item of the table; u: its place, xn: its value
        refine Nd.mk ⟨hsi, by omega, by omega⟩ ?_
        (first | refine wX ?_ | exact wZ)
        refine LdN.one (.int .i64 (xn : Int)) rfl (fun w hw => (hw.1.2 p hpm).2) (by rw [Int.toNat_natCast]; show (iC p.c.items)[u * 1]? = _; rw [Nat.mul_one]; exact iC_get (by assumption)) ?_
        (first | refine wX ?_ | exact wZ)
        -- an item of the table; k: its place, yn: its value
        refine Nd.mk ⟨hsi, by omega, by omega⟩ ?_
        (first | refine wX ?_ | exact wZ)
        refine LdN.one (.int .i64 (yn : Int)) rfl (fun w hw => (hw.1.2 p hpm).2) (by rw [Int.toNat_natCast]; show (iC p.c.items)[k * 1]? = _; rw [Nat.mul_one]; exact iC_get (by assumption)) ?_
        (first | refine wX ?_ | exact wZ)
        have hoc := okey_c a ca l xn yn q r hq hr ha hl
        rw [← hke] at hoc
        refine callQ (hoc _ ?_) ?_
        · exact fun w hw => hw.1
        cases hkb : keyB (l.map (·.c)) (p.c.items.getD u 0) (p.c.items.getD k 0) with
        | true =>
          (first | refine wX ?_ | exact wZ)
          exact out_bool (hno fun h => h.2.2 p.c (List.mem_map.2 ⟨p, hpm, rfl⟩) h7 ⟨u, k, by omega, by omega, hu2, hk2, hkb⟩)
        | false =>
          (first | refine wX ?_ | exact wZ)
          refine ⟨k + 2, ⟨by omega, by omega, fun k' h4 h5 h6 => ?_⟩, by omega, ?_, by (repeat' (first | exact trivial | exact wkE_refl _ | refine And.intro ?_ ?_))⟩
          · by_cases e : k' = k
            · subst e; exact hkb
            · exact hnk k' (by omega) h5 h6
          · (repeat' (first | exact trivial | refine And.intro (by with_reducible rfl) ?_ | (with_reducible exact wkC_refl _) | (with_reducible exact wkCs_refl _) | refine And.intro ?_ ?_))
            all_goals first | rfl | exact av_int (by rw [wrap_i64 (by omega)]; omega)
      · (first | refine wX ?_ | exact wZ)
        refine ⟨u + 2, ⟨by omega, by omega, fun i' k' g3 g4 g5 g6 g8 => ?_⟩, by omega, ?_, by (repeat' (first | exact trivial | exact wkE_refl _ | refine And.intro ?_ ?_))⟩
        · by_cases e : i' = u
          · subst e; exact hnk k' (by omega) g3 g8
          · exact hno2 i' k' g3 (by omega) g5 g6 g8
        · (repeat' (first | exact trivial | refine And.intro (by with_reducible rfl) ?_ | (with_reducible exact wkC_refl _) | (with_reducible exact wkCs_refl _) | refine And.intro ?_ ?_))
          all_goals first | rfl | exact av_int (by rw [wrap_i64 (by omega)]; omega)
    · (first | refine wX ?_ | exact wZ)
      refine ⟨i + 1, ⟨by omega, all_step ht hp (fun _ ⟨i', k, h3, h4, h5, h6, h8⟩ => by rw [hno2 i' k h3 (by omega) h4 h5 h6] at h8; cases h8)⟩, by omega, ?_, by (repeat' (first | exact trivial | exact wkE_refl _ | refine And.intro ?_ ?_))⟩
      (repeat' (first | exact trivial | refine And.intro (by with_reducible rfl) ?_ | (with_reducible exact wkC_refl _) | (with_reducible exact wkCs_refl _) | refine And.intro ?_ ?_))
      all_goals first | rfl | exact av_int (by rw [wrap_i64 (by omega)]; omega)
  · have hil : i = l.length := by omega
    subst hil
    rw [List.take_length] at ht
    (first | refine wX ?_ | exact wZ)
    refine out_bool (hb.2 ⟨by omega, fun c hcm => ?_, fun c hcm => ?_⟩).symm
    · obtain ⟨p, hp, rfl⟩ := List.mem_map.1 hcm
      rw [hml]
      exact hc p hp
    · obtain ⟨p, hp, rfl⟩ := List.mem_map.1 hcm
      exact ht p hp
end Go.Proofs.YtahjbnfbilkbcaaGreatDoor

/-
  AX, forty-ninth text: regions that draw their order, by their states: first what is read under a fact, then a family of states that is closed under every operation that may come next.
-/
namespace Go.AX

/-- What is blind, or read under a fact. -/
def frontK (P : Program) (C : World → Prop) (o : Oper) (s : List AV) (K : AV → Prop) : Prop :=
  match o.op with
  | .load _ _ => ∃ x, ReadC P C o s K x
  | .indexAddr _ _ _ => ∃ x, ReadC P C o s K x
  | _ => blindK P o s K
def execF (P : Program) (C : World → Prop) (ops : Array Oper) (l : List Nat) : List AV → (List AV → Prop) → Prop :=
  List.rec (motive := fun _ => List AV → (List AV → Prop) → Prop)
    (fun s K => K s)
    (fun k _ ih s K => pickK ops k fun o => wantK ops o s (fun s => frontK P C o s fun av => putK s o.dst av fun s' => ih s' K)
      (fun s => putK s o.dst (.c (.v undef)) fun s' => ih s' K)) l
/-- One step of a state. -/
def stepJ (P : Program) (ops : Array Oper) (i : Nat) (s : List AV) (H : List Ent) (K : Ex → List AV → List Ent → Prop) (J : List AV → List Ent → Prop) : Prop :=
  pickK ops i fun o => wantK ops o s (fun s => stepK P o s H fun out H' => match out with
    | .val av => putK s o.dst av fun s' => J s' H'
    | .vals _ => False
    | .pan c => K (.pan c) s H') (fun s => putK s o.dst (.c (.v undef)) fun s' => J s' H)
/-- A family of states, closed under what may come next; the number is how many are left. -/
def ClosedJ (P : Program) (ops : Array Oper) (C : World → Prop) (K : Ex → List AV → List Ent → Prop) (J : Nat → Array Bool → List AV → List Ent → Prop) : Prop :=
  ∀ n ls s H, J n ls s H → (∀ w, Facts H w → C w) ∧ ((Region.ready .any ops ls = [] ∧ K .normal s H) ∨ (Region.ready .any ops ls ≠ [] ∧ ∃ m, n = m + 1 ∧ ∀ i ∈ Region.ready .any ops ls, stepJ P ops i s H K (J m (ls.setIfInBounds i true))))
section
variable {P : Program} {ops : Array Oper} {C : World → Prop} {K : Ex → List AV → List Ent → Prop} {ρ0 : List Loc} {S0 : Nat → Prop} {H0 : List Ent} {w0 : World} {dfs : List Deferred}
theorem closed_sound {J : Nat → Array Bool → List AV → List Ent → Prop} (hJ : ClosedJ P ops C K J) : ∀ (n : Nat) (ls : Array Bool) (s : List AV) (H : List Ent), J n ls s H → ∀ (ρ : List Loc) (S : Nat → Prop) (w : World) (a : Act), Ev ρ0 S0 H0 w0 ρ S H w → a.defers = dfs → Sat ρ S H w → RelS ρ s a.tmps.toList →
    AnyC P ops (Post ρ0 S0 H0 w0 dfs K) C [] n ls a w := by
  intro n
  induction n with
  | zero =>
    intro ls s H h ρ S w a hev hdf hs hr
    obtain ⟨hC, h2⟩ := hJ 0 ls s H h
    rcases h2 with ⟨h3, h4⟩ | ⟨_, m, h3, _⟩
    · exact ⟨fun _ => hC w hs.facts, h3, ρ, S, s, H, .normal, hs, hev, hr, hdf, trivial, h4⟩
    · cases h3
  | succ n ih =>
    intro ls s H h ρ S w a hev hdf hs hr
    obtain ⟨hC, h2⟩ := hJ (n + 1) ls s H h
    refine ⟨fun _ => hC w hs.facts, fun h0 => ?_, fun i hi => ?_⟩
    · rcases h2 with ⟨_, h4⟩ | ⟨h3, _⟩
      · exact ⟨ρ, S, s, H, .normal, hs, hev, hr, hdf, trivial, h4⟩
      · exact absurd h0 h3
    · rcases h2 with ⟨h3, _⟩ | ⟨_, m, hm, h4⟩
      · rw [h3] at hi; cases hi
      · obtain rfl : n = m := by omega
        obtain ⟨o, ho, hq⟩ := pickK_spec (h4 i hi)
        unfold wpOp
        simp only [ho]
        rcases wantK_spec hq hr with ⟨hw, s', h', hr'⟩ | ⟨hw, s', h', hr'⟩
        · rw [if_pos hw]
          refine .inl (step_sound (K := fun out H' => match out with
            | .val av => putK s' o.dst av fun s2 => J n (ls.setIfInBounds i true) s2 H'
            | .vals _ => False
            | .pan c => K (.pan c) s' H') h' hs hr' (fun ρ1 S1 H1 w1 av v hs1 hev1 hrel hK => ?_) (fun ρ1 S1 H1 w1 c hs1 hev1 hK => ?_) fun _ _ h => h)
          · obtain ⟨s2, hK2, hput⟩ := putK_spec hK
            have hrs : RelS ρ1 s' a.tmps.toList := by obtain ⟨t, ht⟩ := hev1.pre; rw [ht]; exact RelS_pre t hr'
            exact ih _ s2 H1 hK2 ρ1 S1 w1 _ (hev.trans hev1) (by rw [put_defers]; exact hdf) hs1 (hput ρ1 a v hrs hrel)
          · exact ⟨ρ1, S1, s', H1, .pan c, hs1, hev.trans hev1, trivial, hdf, rfl, hK⟩
        · rw [if_neg (by simp [hw])]
          obtain ⟨s2, hK2, hput⟩ := putK_spec h'
          exact ih _ s2 H hK2 ρ S w _ hev (by rw [put_defers]; exact hdf) hs (hput ρ a undef hr' rfl)
theorem front_sound {Q : Exit → Act → World → Prop} {ρ : List Loc} {w : World} {g : Nat} {Ks : List AV → Prop} {ls2 : Array Bool} (hsel : Region.noSelect ops = true) (hQ : ∀ c a d v w, Q (.panic c) (Act.put a d v) w → Q (.panic c) a w)
    (next : ∀ s a, Ks s → RelS ρ s a.tmps.toList → a.defers = dfs → AnyC P ops Q C [] g ls2 a w) : ∀ (l : List Nat) (s : List AV) (ls : Array Bool) (a : Act), execF P C ops l s Ks → preB .any ops l ls = true → setAll ls l = ls2 → RelS ρ s a.tmps.toList → a.defers = dfs →
      AnyC P ops Q C [] (l.length + g) ls a w
  | [], s, ls, a, h, _, he, hr, hd => by
    have he' : ls = ls2 := he
    subst he'
    rw [List.length_nil, Nat.zero_add]; exact next s a h hr hd
  | k :: l, s, ls, a, h0, hB, he, hr, hd => by
    have h : pickK ops k fun o => wantK ops o s (fun s => frontK P C o s fun av => putK s o.dst av fun s' => execF P C ops l s' Ks) (fun s => putK s o.dst (.c (.v undef)) fun s' => execF P C ops l s' Ks) := h0
    obtain ⟨o, ho, hq⟩ := pickK_spec h
    simp only [preB, Bool.and_eq_true] at hB
    have hk1 : k ∈ Region.ready .any ops ls := by simpa using hB.1.1
    rw [List.length_cons, Nat.add_right_comm]
    have fin : ∀ (v : Value) (s2 : List AV), Yields P ops o v a → execF P C ops l s2 Ks → RelS ρ s2 (a.put o.dst v).tmps.toList → AnyC P ops Q C [] (l.length + g + 1) ls a w := fun v s2 hy hK hr2 =>
      anyC_blind ho (Region.noSelect_spec hsel) (fun c a w h => hQ c a _ _ w h) (by simp) _ ls _ w (fun j oj hj hne hun hno => Region.free_spec ho hB.1.2 j oj hj hne hun hno) hk1 hy
        (front_sound hsel hQ next l s2 _ _ hK hB.2 he hr2 (by rw [put_defers]; exact hd))
    have finR : ∀ (v : Value) (s2 : List AV), YR P ops C o v a → execF P C ops l s2 Ks → RelS ρ s2 (a.put o.dst v).tmps.toList → AnyC P ops Q C [] (l.length + g + 1) ls a w := fun v s2 hy hK hr2 =>
      anyC_read ho (Region.noSelect_spec hsel) (fun c a w h => hQ c a _ _ w h) _ ls _ w (fun j oj hj hne hun hno => Region.free_spec ho hB.1.2 j oj hj hne hun hno) hk1 hy
        (front_sound hsel hQ next l s2 _ _ hK hB.2 he hr2 (by rw [put_defers]; exact hd))
    rcases wantK_spec hq hr with ⟨hw, s', h', hr'⟩ | ⟨hw, s', h', hr'⟩
    · by_cases hld : (∃ T x, o.op = .load T x) ∨ ∃ T x i, o.op = .indexAddr T x i
      · have h2 : ∃ x, ReadC P C o s' (fun av => putK s' o.dst av fun s2 => execF P C ops l s2 Ks) x := by
          have h3 := h'
          unfold frontK at h3
          rcases hld with ⟨T, y, hop⟩ | ⟨T, y, i, hop⟩
          · simp only [hop] at h3
            exact h3
          · simp only [hop] at h3
            exact h3
        obtain ⟨x, rc⟩ := h2
        obtain ⟨s2, hK2, hput⟩ := putK_spec rc.next
        refine finR x s2 (.inl ⟨hw, fun w' hw' => ?_⟩) hK2 (hput ρ a x hr' rfl)
        rw [execOp_congr o rc.sel (ρ' := plainEv s') fun y hy => allPlain_eval hr' _ rc.plain y (Array.mem_toList_iff.2 hy)]
        exact rc.run w' hw'
      · have h2 : blindK P o s' fun av => putK s' o.dst av fun s2 => execF P C ops l s2 Ks := by
          have h3 := h'
          unfold frontK at h3
          split at h3
          · rename_i T x hop
            exact absurd (.inl ⟨T, x, hop⟩) hld
          · rename_i T x i hop
            exact absurd (.inr ⟨T, x, i, hop⟩) hld
          · exact h3
        obtain ⟨av, v, hK, hrel, hrun⟩ := blind_sound (K := fun av => putK s' o.dst av fun s2 => execF P C ops l s2 Ks) h2 hr'
        obtain ⟨s2, hK2, hput⟩ := putK_spec hK
        exact fin v s2 (.inl ⟨hw, hrun⟩) hK2 (hput ρ a v hr' hrel)
    · obtain ⟨s2, hK2, hput⟩ := putK_spec h'
      exact fin undef s2 (.inr ⟨hw, rfl⟩) hK2 (hput ρ a undef hr' rfl)
end
/-- A region by its states. -/
theorem DrawN.walk {P : Program} {ops : Array Oper} {s : List AV} {H : List Ent} {K : Ex → List AV → List Ent → Prop} (hm : P.follows .mixedOrders = true) (C : World → Prop) (rd : List Nat) (n : Nat) (J : Nat → Array Bool → List AV → List Ent → Prop) (hsel : Region.noSelect ops = true) (hn : decide (ops.size = rd.length + n) = true) (hrd : preB .any ops rd (Array.replicate ops.size false) = true)
    (hJ : ClosedJ P ops C K J) (next : execF P C ops rd s fun s1 => J n (setAll (Array.replicate ops.size false) rd) s1 H) : DrawN P ops s H K :=
  .sem fun id ρ S w a hs hr => by
    have hn := of_decide_eq_true hn
    refine wp_region_any hm ?_
    have e0 : wpAny P .any ops (Post ρ S H w a.defers K) ops.size = wpAny P .any ops (Post ρ S H w a.defers K) (rd.length + n) := by rw [← hn]
    rw [e0]
    refine AnyC.any _ _ _ _ (front_sound (C := C) (dfs := a.defers) (ρ := ρ) hsel (fun c a d v w h => h.put) (fun s1 a1 h1 hr1 hd1 => ?_) rd s _ a next hrd rfl hr rfl)
    exact closed_sound hJ n _ s1 H h1 ρ S _ a1 (Ev.drew ρ S H w) hd1 (hs.heap rfl) hr1
/-- What is shown behind a region is used behind it. -/
theorem SemR.mono {P : Program} {ops : Array Oper} {s : List AV} {H : List Ent} {K K' : Ex → List AV → List Ent → Prop} (h : SemR P ops s H K') (hk : ∀ ex s' H', K' ex s' H' → K ex s' H') : SemR P ops s H K :=
  fun id ρ S w a hs hr => wp_mono (h id ρ S w a hs hr) fun e a' w' ⟨ρ', S', s', H', ex, h1, h2, h3, h4, h5, h6⟩ => ⟨ρ', S', s', H', ex, h1, h2, h3, h4, h5, hk _ _ _ h6⟩
/-- len(s) -/
theorem BlindW.lenS {P : Program} {o : Oper} {s : List AV} {K : AV → Prop} {x : Operand} {T : TypeId} {args : Array Operand} {ts : Array TypeId} {b : ByteArray} (ho : o.op = .call { callee := .builtin .len, args := args, argTypes := ts }) (ha : args = #[x]) (ht : ts = #[T]) (hu : P.underlying T = some .string)
    (hx : opv s x = .c (.v (.string b))) (hk : K (.c (.v (.int .i64 (b.size : Int))))) : ∃ x, BlindW P o s K x := by
  subst ha ht
  refine ⟨.int .i64 (b.size : Int), ?_, fun w => execOp_blt ho fun consts => ?_, hk⟩
  · rw [ho]
    show allPlain s [x] = true
    simp [allPlain, hx]
  · have he : plainEv s x = .string b := by unfold plainEv; rw [hx]
    simp [builtin, Builtin.len_, run_underlying hu, he, goInt]
end Go.AX

/-
  Contracts: slices.Values and slices.AppendSeq at strings (turned from the guide's worked callers of iterators).
-/
namespace Go.Proofs.YtahjbnfbilkbcaaGreatDoor
open Go.RowKit Go.Shelf Go.AX Go.Proofs

attribute [local go_sem] Oper.semAt_some

/-- What has come when k rounds are over. -/
def upto {α : Type} (f : Nat → α) (k : Nat) : List α := (List.range k).map f
theorem upto_succ {α : Type} (f : Nat → α) (k : Nat) : upto f (k + 1) = upto f k ++ [f k] := by simp [upto, List.range_succ]
theorem upto_length {α : Type} (f : Nat → α) (k : Nat) : (upto f k).length = k := by simp [upto]
theorem upto_all (zs : List (List UInt8)) : upto (fun j => zs[j]?.getD []) zs.length = zs := by
  apply List.ext_getElem
  · simp [upto]
  · intro i h1 h2
    simp [upto, h2]
theorem upto_take (zs : List (List UInt8)) {k : Nat} (hk : k ≤ zs.length) : upto (fun j => zs[j]?.getD []) k = zs.take k := by
  apply List.ext_getElem
  · simp [upto, hk]
  · intro i h1 h2
    have : i < zs.length := by simp [upto] at h1; omega
    simp [upto, this]

set_option maxRecDepth 100000 in
set_option maxHeartbeats 4000000 in
theorem values1_in (F : Fence) (n : Nat) (h7 : F.fn 114) (hro : F.round = none) (hn : 1 ≤ n) (l Bs n₀ b off len cap : Nat) (zs : List (List UInt8)) (hreach : len * 16 ≤ 140737488351232) (hb : b < n₀) (J Jx : List (List UInt8) → World → Prop)
    (hY : ∀ pre x W, J pre W → pre.length < len → YieldAt F (n - 1) Tryz.prog l #[.string (bs x)] W fun e W' =>
      (e = .returned (.bool true) ∧ J (pre ++ [x]) W' ∧ Below n₀ W W') ∨ (e = .returned (.bool false) ∧ Jx (pre ++ [x]) W'))
    (W : World) (hBs : W.cell? ⟨Bs, 0, none⟩ = some (.slice (some ⟨b, off, none⟩) len cap)) (hc : ∀ j, j < len → W.cell? ⟨b, off + j, none⟩ = some (.string (bs (zs[j]?.getD [])))) (h0 : J [] W) :
    CallsIn F n Tryz.prog 114 #[.func (.yield l) #[] #[], .pointer (some ⟨Bs, 0, none⟩)] W fun e W' => (∃ v, e = .returned v) ∧
      ((∃ ys, ys = upto (fun j => zs[j]?.getD []) len ∧ J ys W') ∨ (∃ pre, (∃ k, k ≤ len ∧ pre = upto (fun j => zs[j]?.getD []) k) ∧ Jx pre W')) := by
  refine callsIn_of_wp Tryz.func114 rfl h7 ?_ hro
  simp only [Tryz.ntmps114, List.size_toArray, List.length_cons, List.length_nil, Nat.reduceAdd, Nat.reduceSub, Array.replicate_succ, Array.replicate_zero, List.push_toArray, List.append_toArray, List.nil_append, List.cons_append]
  gi_wp2
  gi_loopw [7] (fun i wr => ∃ k : Nat, k ≤ len ∧ i = .int .i64 k ∧ J (upto (fun j => zs[j]?.getD []) k) wr ∧ Below n₀ W wr)
    (fun i _ => len - (intOf i).toNat)
  case atStart => exact ⟨0, Nat.zero_le _, rfl, h0, Below.refl _ _⟩
  case round =>
    obtain ⟨k, hk, rfl, hJs, hnx⟩ := hrel
    have hcx : k < len → wr.cell? ⟨b, off + k, none⟩ = some (.string (bs (zs[k]?.getD []))) := fun h => (hnx.cell (p := ⟨b, off + k, none⟩) hb).trans (hc k h)
    by_cases hlt : k < len
    · obtain ⟨fn, tmps, assign, body, hy, hR⟩ := hY _ (zs[k]?.getD []) wr hJs (by rw [upto_length]; exact hlt)
      have hcx' := hcx hlt
      gi_wp2
      refine hR.mono ?_
      rintro e W3 (⟨rfl, hJ3, hk3⟩ | ⟨rfl, hJx3⟩)
      · gi_wp2
        go_roundw
        case rel => exact ⟨k + 1, by omega, by simp, by rw [upto_succ]; exact hJ3, hnx.trans hk3⟩
        case measure => simp [intOf]; omega
      · gi_wp2
        refine bodyPost_ret (results_none rfl _ _ _) rfl ?_
        exact ⟨⟨_, rfl⟩, .inr ⟨_, ⟨k + 1, by omega, (upto_succ _ _).symm⟩, hJx3⟩⟩
    · obtain rfl : k = len := by omega
      gi_wp2
      go_end0
      exact ⟨⟨_, rfl⟩, .inl ⟨_, rfl, hJs⟩⟩
/-- The slice value sv holds the strings zs, in a block below n₀; or it is nil and there are none. -/
def StrsAt (n₀ : Nat) (W : World) (sv : Value) (zs : List (List UInt8)) : Prop :=
  (∃ a cap, sv = .slice a 0 cap ∧ zs = []) ∨ ∃ b off cap, sv = .slice (some ⟨b, off, none⟩) zs.length cap ∧ b < n₀ ∧ ∀ j, j < zs.length → W.cell? ⟨b, off + j, none⟩ = some (.string (bs (zs[j]?.getD [])))
theorem StrsAt.below {n₀ : Nat} {A B : World} (h : Below n₀ A B) {sv : Value} {zs : List (List UInt8)} : StrsAt n₀ A sv zs → StrsAt n₀ B sv zs
  | .inl e => .inl e
  | .inr ⟨b, off, cap, e, hb, hc⟩ => .inr ⟨b, off, cap, e, hb, fun j hj => (h.cell (p := ⟨b, off + j, none⟩) hb).trans (hc j hj)⟩

set_option maxRecDepth 100000 in
set_option maxHeartbeats 1000000 in
theorem values1_nil_in (F : Fence) (n : Nat) (h7 : F.fn 114) (hro : F.round = none) (l Bs : Nat) (a : Option Addr) (cap : Nat) (J : List (List UInt8) → World → Prop) (W : World) (hBs : W.cell? ⟨Bs, 0, none⟩ = some (.slice a 0 cap)) (h0 : J [] W) :
    CallsIn F n Tryz.prog 114 #[.func (.yield l) #[] #[], .pointer (some ⟨Bs, 0, none⟩)] W fun e W' => (∃ v, e = .returned v) ∧ J [] W' := by
  refine callsIn_of_wp Tryz.func114 rfl h7 ?_ hro
  simp only [Tryz.ntmps114, List.size_toArray, List.length_cons, List.length_nil, Nat.reduceAdd, Nat.reduceSub, Array.replicate_succ, Array.replicate_zero, List.push_toArray, List.append_toArray, List.nil_append, List.cons_append]
  gi_wp2
  gi_loopw [7] (fun i wr => i = .int .i64 0 ∧ J [] wr) (fun _ _ => 0)
  case atStart => exact ⟨rfl, h0⟩
  case round =>
    obtain ⟨rfl, hJs⟩ := hrel
    gi_wp2
    go_end0
    exact ⟨⟨_, rfl⟩, hJs⟩

theorem values_stops (F : Fence) (n : Nat) (h7 : F.fn 114) (hro : F.round = none) (hn : 1 ≤ n) (Bs n₀ : Nat) (sv : Value) (zs : List (List UInt8)) (hreach : zs.length * 16 ≤ 140737488351232) (w : World) (hBs : Bs < w.heap.size) (hn₀ : n₀ ≤ w.heap.size)
    (hc : w.cell? ⟨Bs, 0, none⟩ = some sv) (hI : StrsAt n₀ w sv zs) :
    SeqStopsK F n Tryz.prog 114 #[.pointer (some ⟨Bs, 0, none⟩)] (fun x : List UInt8 => #[Value.string (bs x)]) (Below n₀) (fun ys => ys = zs) (fun pre => pre <+: zs) zs.length w := fun l J Jx W hW _ _ hY h0 => by
  have hc' := (hW.cell (p := ⟨Bs, 0, none⟩) hBs).trans hc
  rcases hI.below (hW.mono hn₀) with ⟨a, cap, rfl, rfl⟩ | ⟨b, off, cap, rfl, hb, hcs⟩
  · exact (values1_nil_in F n h7 hro l Bs a cap J W hc' h0).mono fun e W' ⟨he, hj⟩ => ⟨he, .inl ⟨_, rfl, hj⟩⟩
  · refine (values1_in F n h7 hro hn l Bs n₀ b off zs.length cap zs hreach hb J Jx hY W hc' hcs h0).mono ?_
    rintro e W' ⟨he, ⟨ys, rfl, hj⟩ | ⟨pre, ⟨k, hk, rfl⟩, hj⟩⟩
    · exact ⟨he, .inl ⟨_, upto_all zs, hj⟩⟩
    · exact ⟨he, .inr ⟨_, by rw [upto_take zs hk]; exact List.take_prefix _ _, hj⟩⟩

theorem info_str : (Tryz.prog.info? 9).map (fun i => (i.zero, i.size, i.bytes)) = some (some (.string ⟨#[]⟩), 1, 16) := by kernel_rfl

set_option maxRecDepth 100000 in
set_option maxHeartbeats 4000000 in
/-- AppendSeq(nil, Values of zs): a new slice that holds zs. -/
theorem appendSeq_in (F : Fence) (n : Nat) (h3 : F.fn 127) (h5 : F.fn 114) (hro : F.round = none) (hn : 3 ≤ n) (Bs : Nat) (sv : Value) (zs : List (List UInt8)) (hlen : zs.length ≤ maxLen) (hbytes : zs.length * 16 ≤ 140737488351232) (w : World) (hBs : Bs < w.heap.size)
    (hcs : w.cell? ⟨Bs, 0, none⟩ = some sv) (hL : StrsAt w.heap.size w sv zs) :
    CallsIn F n Tryz.prog 127 #[.slice none 0 0, .func (.func 114) #[] #[.pointer (some ⟨Bs, 0, none⟩)]] w fun e W' => ∃ v, e = .returned v ∧ W'.ownsRow w.heap.size 9 1 v zs.length (zs.map fun x => Value.string (bs x)) ∧ Below w.heap.size w W' := by
  have h1 : 1 ≤ n := by omega
  obtain ⟨i0, hi, hz0, hz1, hz2⟩ := info_parts info_str
  refine callsIn_of_wp_marks Tryz.func127 rfl h3 ?_ hro
  simp only [Tryz.ntmps127, List.size_toArray, List.length_cons, List.length_nil, Nat.reduceAdd, Nat.reduceSub, Array.replicate_succ, Array.replicate_zero, List.push_toArray, List.append_toArray, List.nil_append, List.cons_append]
  gi_wp2
  have bO := Boxed.new w 40 (.slice none 0 0)
  have hB0 : Below w.heap.size w (w.alloc (.cells #[.slice none 0 0] 40)) := (Below.refl _ w).alloc (Nat.le_refl _) _
  refine wpIn_rangeFunc_ownG hro h1 (gf := 114) (lb := #[.pointer (some ⟨Bs, 0, none⟩)]) rfl h5 (enters_of Tryz.func114 (by kernel_rfl) rfl)
    (values_stops F (n - 1) h5 hro (by omega) Bs w.heap.size sv zs hbytes _ (by simp; omega) (by simp) ((hB0.cell (p := ⟨Bs, 0, none⟩) hBs).trans hcs) (hL.below hB0)) belowK_t (belowK_b (by simp)) (Below.refl _ _) (fun _ => rfl)
    (fun pre W => (∃ v, Boxed W w.heap.size 40 v ∧ W.ownsRow w.heap.size 9 1 v pre.length (pre.map fun x => Value.string (bs x)) ∧ True) ∧ Below w.heap.size w W)
    (fun _ _ _ => False)
    (OwnFrom.and (Own.from (holdsRow_own w.heap.size w.heap.size 40 9 1 (fun pre : List (List UInt8) => pre.length) (fun pre => pre.map fun x => Value.string (bs x)) (fun _ _ => True)) _) (ownFrom_below (Nat.le_refl _) (by simp)))
    (fun _ _ _ _ _ hs _ _ => hs)
    ⟨⟨_, bO, World.ownsRow_nil _ _ _ _, trivial⟩, hB0⟩
    (fun x => { tmps := #[.slice none 0 0, .func (.func 114) #[] #[.pointer (some ⟨Bs, 0, none⟩)], .pointer (some ⟨w.heap.size, 0, none⟩), undef, .slice none 0 0, .string (bs x), .func (.func 114) #[] #[.pointer (some ⟨Bs, 0, none⟩)], .string (bs x), undef, undef, undef, undef, undef], defers := [] }) ?assign ?body ?done ?stop
  case assign =>
    intro l x W K hK
    gi_wp2
    exact hK
  case body =>
    rintro l pre x W ⟨⟨v, hv, hrow, _⟩, hB⟩ hlt
    have hc := hv.cell
    gi_wp2_with (gi_at_builtin; refine wpListIn_append_own _ rfl _ _ 40 rfl w.heap.size 9 i0 (.string ⟨#[]⟩) 1 16 Tryz.underlying40 hi hz0 hz1 hz2 rfl (by decide) _ _ _ rfl (hrow.alloc _) ⟨W.heap.size, 0, none⟩ 1 1 [.string (bs x)] rfl rfl (cell_one_new _ _ _) (by simp [Value.oneCell']) (by omega) (by omega) (by have := hB.size; simp; omega) ?_; intro v' w1 hown' hgrow _; obtain ⟨g', cap', rfl⟩ := ownsRow_succ hown'; obtain ⟨hv1, hv2, hr2, hk2, hb2⟩ := hv.appended (by decide) hrow hB.size (Nat.le_refl _) hown' hgrow; have hc1 := hv1.cell; have hf1 := hv1.frozen)
    exact ⟨hk2.from _, hb2, ⟨_, hv2, by simpa using hr2, trivial⟩, hB.trans hb2⟩
  case done =>
    rintro D ys W hD rfl ⟨⟨v, hv, hrow, _⟩, hB⟩ hK
    have hc := hv.cell
    gi_wp2
    refine ⟨by simp, .inl ⟨_, _, rfl, run_takeDeferred hK, ?_⟩⟩
    exact ⟨_, results_tmp rfl _ _ _, v, rfl, ownsRow_putObj hrow _ hK rfl, hB.trans (belowK_b (w := w) (Nat.le_refl _) W D _ _ (by simp at hD; omega) hK rfl rfl)⟩
  case stop =>
    rintro D c pre W _ _ h _
    exact h.elim
end Go.Proofs.YtahjbnfbilkbcaaGreatDoor

/-
  AX, fiftieth text: a call over plain values that hands back a slice of its own, with room behind it, perhaps nil.
-/
namespace Go.AX
open Go.RowKit

theorem Sat.addApp {ρ : List Loc} {S : Nat → Prop} {H : List Ent} {w w' : World} {T : TypeId} {sz n cap g : Nat} {ys : List Value} (hs : Sat ρ S H w) (h : Below w.heap.size w w') (hg : w.heap.size ≤ g) (hrow : RowF T sz n ys g cap w') :
    Sat (ρ ++ [⟨0, 0⟩]) S (H ++ [.app T sz ys (some ⟨g, 0, none⟩) n cap]) w' ∧ Ev ρ S H w (ρ ++ [⟨0, 0⟩]) S (H ++ [.app T sz ys (some ⟨g, 0, none⟩) n cap]) w' := by
  have h1 := hs.below h
  have hcase : ∀ (i : Nat) (e : Ent), (H ++ [Ent.app T sz ys (some ⟨g, 0, none⟩) n cap])[i]? = some e → (i < H.length ∧ H[i]? = some e) ∨ (i = H.length ∧ e = .app T sz ys (some ⟨g, 0, none⟩) n cap) := fun i e he => by
    by_cases hi : i < H.length
    · rw [List.getElem?_append_left hi] at he; exact .inl ⟨hi, he⟩
    · have hi2 : i = H.length := by
        have := (List.getElem?_eq_some_iff.1 he).1
        simp at this; omega
      subst hi2
      simp at he
      exact .inr ⟨rfl, he.symm⟩
  have hb2 : ∀ (i : Nat) (e : Ent) (b : Nat), (H ++ [Ent.app T sz ys (some ⟨g, 0, none⟩) n cap])[i]? = some e → entB (ρ ++ [⟨0, 0⟩]) i e b → (H[i]? = some e ∧ entB ρ i e b) ∨ (i = H.length ∧ b = g) := fun i e b he hb => by
    rcases hcase i e he with ⟨hi, he'⟩ | ⟨hi, rfl⟩
    · rw [entB_pre _ (by rw [hs.len]; exact hi)] at hb
      exact .inl ⟨he', hb⟩
    · exact .inr ⟨hi, (Option.some.inj hb).symm⟩
  refine ⟨⟨by simp [hs.len], fun i e he => ?_, fun i j e f b he hf heb hfb => ?_, fun b ⟨i, e, he, hb⟩ hn => ?_, h1.low⟩, ⟨⟨[⟨0, 0⟩], rfl⟩, h.os, h.tape, h.output, h.size, fun b hb _ => h.block b hb, fun b hb => .inl hb, fun b ⟨i, e, he, hb⟩ => ?_⟩⟩
  · rcases hcase i e he with ⟨hi, he'⟩ | ⟨hi, rfl⟩
    · have := (hs.ent i e he').move (w' := w') [⟨0, 0⟩] (fun b hb => h.block _ (hs.blk_lt he' hb)) fun b hb => h.block b (hs.low b hb)
      exact this
    · exact .inr ⟨g, rfl, hrow⟩
  · rcases hb2 i e b he heb with ⟨a1, a2⟩ | ⟨a1, a2⟩ <;> rcases hb2 j f b hf hfb with ⟨b1, b2⟩ | ⟨b1, b2⟩
    · exact hs.inj i j e f b a1 b1 a2 b2
    · have := hs.blk_lt a1 a2; omega
    · have := hs.blk_lt b1 b2; omega
    · omega
  · rcases hb2 i e b he hb with ⟨a1, a2⟩ | ⟨_, a2⟩
    · exact hs.out b ⟨i, e, a1, a2⟩ hn
    · have := hs.low b hn; omega
  · rcases hb2 i e b he hb with ⟨a1, a2⟩ | ⟨_, a2⟩
    · exact .inl ⟨i, e, a1, a2⟩
    · exact .inr (by omega)
theorem SpecH.rawN {P : Program} {f : FuncId} {xs : List Value} {H : List Ent} {K : Out → List Ent → Prop} {T : TypeId} {sz n : Nat} {ys : List Value} (ok : CallOk P f)
    (h : ∀ w, Facts H w → Calls P f xs.toArray w fun e w' => ∃ v, e = .returned v ∧ w'.ownsRow w.heap.size T sz v n ys ∧ Below w.heap.size w w')
    (hk0 : n = 0 → snocK H (.app T sz [] none 0 0) 0 fun H' _ => K (.val (.c (.v (.slice none 0 0)))) H')
    (hk : ∀ b cap : Nat, n ≤ cap → snocK H (.app T sz ys (some ⟨b, 0, none⟩) n cap) 0 fun H' _ => K (.val (.c (.v (.slice (some ⟨b, 0, none⟩) n cap)))) H') : SpecH P f (pvs xs) H K := by
  simp only [snocK_eq] at hk hk0
  refine ⟨ok, fun ρ S w vs hs hr => ?_⟩
  obtain rfl := RelS_pvs hr
  refine (h w hs.facts).mono fun e w' ⟨v, he, hrow, bel⟩ => ?_
  rcases hrow.2 with ⟨rfl, h0⟩ | ⟨g, cap, cur, rfl, hg, hb, h1, h2, h3, h4⟩
  · have hs' := (hs.below bel).pad [.app T sz [] none 0 0] rfl
    obtain ⟨t, hs2, hev2⟩ := hs'
    refine ⟨ρ ++ t, S, _, .val (.c (.v (.slice none 0 0))), hs2, ?_, ⟨_, he, rfl⟩, hk0 h0⟩
    exact (below_ev (S := S) (S' := S) (ρ := ρ) (H := H) (H' := H) [] bel (fun b hb => .inl hb) (fun b hb => by simpa using hb)).trans (by simpa using hev2)
  · have hR : RowF T sz n ys g cap w' := ⟨cur, (0, 0), ⟨hb, .inl rfl⟩, hrow.1, h1, h2, h3, h4⟩
    obtain ⟨hs2, hev2⟩ := hs.addApp bel hg hR
    exact ⟨_, S, _, .val (.c (.v (.slice (some ⟨g, 0, none⟩) n cap))), hs2, hev2, ⟨_, he, rfl⟩, hk g cap h1⟩
end Go.AX

/-
  Contracts: slices.AppendSeq, Sort and Compact at strings, over slices of one's own.
-/
namespace Go.Proofs.YtahjbnfbilkbcaaGreatDoor
open Go.RowKit Go.AX Go.Core Go.Sort Go.Proofs
set_option maxRecDepth 20000

theorem holds_row {T : TypeId} {b cap : Nat} {zs : List (List UInt8)} {w : World} (h : RowF T 1 zs.length (strC zs) b cap w) : Holds encStr w b 0 zs.toArray := by
  obtain ⟨arr, ⟨lo, hi⟩, ⟨hb, hfr⟩, h1, h2, h3, h4, h5⟩ := h
  intro j hj
  have hj' : j < zs.length := by simpa using hj
  have h6 : (arr.toList.take (zs.length * 1))[j]? = (strC zs)[j]? := by rw [h5]
  rw [List.getElem?_take_of_lt (by omega)] at h6
  unfold strC at h6
  rw [List.getElem?_map, List.getElem?_eq_getElem hj'] at h6
  refine ⟨?_, ?_⟩
  · simp only [World.cell?, hb, Nat.zero_add]
    simp only [Option.isSome_none, Bool.false_eq_true, if_false]
    rw [Array.getElem?_toList] at h6
    rw [h6, getElem!_pos zs.toArray j (by simpa using hj')]
    rfl
  · simp only [World.frozen?, hb, Nat.zero_add]
    rcases hfr with hfr | hfr
    · cases hfr; simp
    · have : ¬ lo ≤ j := by
        simp only at hfr
        have : j < arr.size := by omega
        omega
      simp [this]
theorem row_put {T : TypeId} {b cap k : Nat} {zs ts : List (List UInt8)} {w : World} {os : Array Obj} (h : RowF T 1 zs.length (strC zs) b cap w) (hb : b < w.heap.size) (hl : ts.length = zs.length) : RowF T 1 zs.length (strC ts) b cap (grow (putRow encStr (Sort.ahead w k) b 0 ts.toArray) os) := by
  obtain ⟨arr, fr, ⟨hh, hfr⟩, h1, h2, h3, h4, h5⟩ := h
  have hsz : (putCells encStr 0 ts.toArray arr).size = arr.size := by simp [putCells]
  refine ⟨putCells encStr 0 ts.toArray arr, fr, ⟨?_, by rw [hsz]; exact hfr⟩, by simp [strC, hl], h2, h3, by rw [hsz]; exact h4, ?_⟩
  · rw [heap_grow_old _ _ (by simp [putRow, mapBlock, Sort.ahead, hb])]
    simp [putRow, mapBlock, Sort.ahead, Array.getElem?_modify, hh, onCells]
  · rw [Nat.mul_one, ← hl]
    exact take_putCells arr ts (by omega)
def sortS (zs : List (List UInt8)) : List (List UInt8) := zs.mergeSort fun x y => decide (x ≤ y)
theorem sortS_len (zs : List (List UInt8)) : (sortS zs).length = zs.length := (List.mergeSort_perm zs _).length_eq
theorem Sort_c {H : List Ent} {K : Out → List Ent → Prop} (i : Nat) (zs : List (List UInt8)) (b cap : Nat) (hz : zs.length ≤ 2000) (hi : nthE H i = some (.app 9 1 (strC zs) (some ⟨b, 0, none⟩) zs.length cap))
    (hk : setEK H i (.app 9 1 (strC (sortS zs)) (some ⟨b, 0, none⟩) zs.length cap) fun H' => K (.val (.c (.v (.tuple #[])))) H') : SpecH Tryz.prog 113 (pvs [.slice (some ⟨b, 0, none⟩) zs.length cap]) H K :=
  SpecH.rawA (callOk Tryz.func113 (by kernel_rfl) rfl) i hi (R := fun r n' ys' => r = .tuple #[] ∧ n' = zs.length ∧ ys' = strC (sortS zs)) (fun w hrow hb => (Tryz.slices_Sort_string b 0 cap zs w (holds_row hrow) hb (by omega)).mono fun e w' ⟨he, k, os, hw⟩ => by
    subst hw
    have hg := grownBy_sorted (w := w) (g := b) (n := k) (os := os) (sortS zs).toArray
    exact ⟨_, _, _, he, ⟨rfl, rfl, rfl⟩, row_put hrow hb (sortS_len zs), hg.size, fun k hk hne => hg.block k hk (fun e => hne (Option.some.inj e)), hg.os, hg.tape, hg.output⟩) fun r n' ys' ⟨h1, h2, h3⟩ => by
    subst h1 h2 h3
    exact hk
theorem SortNil_c {H : List Ent} {K : Out → List Ent → Prop} (p : Option Addr) (cap : Nat) (hk : K (.val (.c (.v (.tuple #[])))) H) : SpecH Tryz.prog 113 (pvs [.slice p 0 cap]) H K :=
  SpecH.rawP (R := fun r => r = .tuple #[]) (callOk Tryz.func113 (by kernel_rfl) rfl) (fun w _ => (Tryz.slices_Sort_string_none p cap w).mono fun e w' ⟨he, hw⟩ => by
    subst hw
    exact ⟨_, he, rfl, Below.refl _ _⟩) fun r hr => by subst hr; exact hk
theorem Compact_c {H : List Ent} {K : Out → List Ent → Prop} (i : Nat) (zs : List (List UInt8)) (b cap : Nat) (hz : zs.length ≤ 2000) (hcap : zs.length ≤ cap) (hi : nthE H i = some (.app 9 1 (strC zs) (some ⟨b, 0, none⟩) zs.length cap))
    (hk : ∀ ys, setEK H i (.app 9 1 ys (some ⟨b, 0, none⟩) zs.length cap) fun H' => K (.val (.c (.v (.slice (some ⟨b, 0, none⟩) (Lib.compact zs).length cap)))) H') : SpecH Tryz.prog 88 (pvs [.slice (some ⟨b, 0, none⟩) zs.length cap]) H K :=
  SpecH.rawA (callOk Tryz.func88 (by kernel_rfl) rfl) i hi (R := fun r n' _ => r = .slice (some ⟨b, 0, none⟩) (Lib.compact zs).length cap ∧ n' = zs.length) (fun w hrow hb => (Tryz.slices_Compact_string b 0 cap zs w (holds_row hrow) (by omega) hcap).mono fun e w' ⟨he, k, hw⟩ => by
    subst hw
    have hlen : (Lib.compact zs ++ List.replicate (zs.length - (Lib.compact zs).length) []).length = zs.length := by
      have := Lib.compact_length_le zs
      simp
      omega
    have hr := row_put (k := k) (os := #[]) hrow hb hlen
    have hg := grownBy_sorted (w := w) (g := b) (n := k) (os := #[]) (Lib.compact zs ++ List.replicate (zs.length - (Lib.compact zs).length) []).toArray
    rw [grow_empty] at hr hg
    exact ⟨_, _, _, he, ⟨rfl, rfl⟩, hr, hg.size, fun k hk hne => hg.block k hk (fun e => hne (Option.some.inj e)), hg.os, hg.tape, hg.output⟩) fun r n' ys' ⟨h1, h2⟩ => by
    subst h1 h2
    exact hk ys'
theorem Compact_n {H : List Ent} {K : Out → List Ent → Prop} (i : Nat) (zs : List (List UInt8)) (n : Nat) (hn : zs.length = n) (b cap : Nat) (hz : n ≤ 2000) (hcap : n ≤ cap) (hi : nthE H i = some (.app 9 1 (strC zs) (some ⟨b, 0, none⟩) n cap))
    (hk : ∀ ys, setEK H i (.app 9 1 ys (some ⟨b, 0, none⟩) n cap) fun H' => K (.val (.c (.v (.slice (some ⟨b, 0, none⟩) (Lib.compact zs).length cap)))) H') : SpecH Tryz.prog 88 (pvs [.slice (some ⟨b, 0, none⟩) n cap]) H K := by
  subst hn
  exact Compact_c i zs b cap hz hcap hi hk
theorem CompactNil_c {H : List Ent} {K : Out → List Ent → Prop} (p : Option Addr) (cap : Nat) (hk : K (.val (.c (.v (.slice p 0 cap)))) H) : SpecH Tryz.prog 88 (pvs [.slice p 0 cap]) H K :=
  SpecH.rawP (R := fun r => r = .slice p 0 cap) (callOk Tryz.func88 (by kernel_rfl) rfl) (fun w _ => (Tryz.slices_Compact_string_empty p cap w).mono fun e w' ⟨he, hw⟩ => by
    subst hw
    exact ⟨_, he, rfl, Below.refl _ _⟩) fun r hr => by subst hr; exact hk
theorem strs_at {w : World} {a : Option Addr} {cap : Nat} {zs : List (List UInt8)} (h : SlAt a (zs.length * 1) (strC zs) w) : StrsAt w.heap.size w (.slice a zs.length cap) zs ∨ zs = [] := by
  cases zs with
  | nil => exact .inr rfl
  | cons z zs =>
    obtain ⟨h1, h2, h3⟩ := h
    have ha := h2 (by simp)
    obtain ⟨p, rfl⟩ := Option.isSome_iff_exists.1 ha
    have hc : ∀ j, j < (z :: zs).length → w.cell? (p.add j) = (strC (z :: zs))[j]? := fun j hj => h3 j (by omega)
    have h0 := hc 0 (by simp)
    have hsp : p.spot = none ∧ p.block < w.heap.size := by
      have e : (strC (z :: zs))[0]? = some (.string (bs z)) := rfl
      rw [e] at h0
      unfold World.cell? at h0
      split at h0
      · rename_i c T fr hb
        have hb' : p.block < w.heap.size := (Array.getElem?_eq_some_iff.1 hb).1
        by_cases hs : (p.add 0).spot.isSome
        · rw [if_pos hs] at h0; cases h0
        · refine ⟨?_, hb'⟩
          have : ¬ p.spot.isSome = true := hs
          simpa using this
      · cases h0
    obtain ⟨pb, po, ps⟩ := p
    obtain ⟨rfl, hlt⟩ : ps = none ∧ pb < w.heap.size := hsp
    refine .inl (.inr ⟨pb, po, cap, rfl, hlt, fun j hj => ?_⟩)
    have := hc j hj
    unfold strC at this
    rw [List.getElem?_map, List.getElem?_eq_getElem hj] at this
    rw [List.getElem?_eq_getElem hj]
    rw [add_lit] at this
    exact this
theorem AppendSeq_c {H : List Ent} {K : Out → List Ent → Prop} (B cap : Nat) (a : Option Addr) (zs : List (List UInt8)) (hz : zs.length ≤ 2000) (hF : ∀ w, Facts H w → w.cell? ⟨B, 0, none⟩ = some (.slice a zs.length cap) ∧ SlAt a (zs.length * 1) (strC zs) w)
    (hk0 : zs.length = 0 → snocK H (.app 9 1 [] none 0 0) 0 fun H' _ => K (.val (.c (.v (.slice none 0 0)))) H')
    (hk : ∀ b c : Nat, zs.length ≤ c → snocK H (.app 9 1 (strC zs) (some ⟨b, 0, none⟩) zs.length c) 0 fun H' _ => K (.val (.c (.v (.slice (some ⟨b, 0, none⟩) zs.length c)))) H') :
    SpecH Tryz.prog 127 (pvs [.slice none 0 0, .func (.func 114) #[] #[.pointer (some ⟨B, 0, none⟩)]]) H K := by
  refine SpecH.rawN (T := 9) (sz := 1) (n := zs.length) (ys := strC zs) (callOk Tryz.func127 (by kernel_rfl) rfl) (fun w hw => ?_) hk0 hk
  obtain ⟨h1, h3⟩ := hF w hw
  have hB : B < w.heap.size := by
    unfold World.cell? at h1
    split at h1
    · rename_i hb; exact (Array.getElem?_eq_some_iff.1 hb).1
    · cases h1
  have hs : StrsAt w.heap.size w (.slice a zs.length cap) zs := by
    rcases strs_at (cap := cap) h3 with h | h
    · exact h
    · subst h
      exact .inl ⟨a, cap, rfl, rfl⟩
  have hm : zs.length ≤ maxLen := by simp only [maxLen]; omega
  exact (callsIn_wide (n := 5)).1 ((appendSeq_in Fence.wide 5 trivial trivial rfl (by omega) B _ zs hm (by omega) w hB h1 hs).mono fun e w' ⟨v, he, hr, hb⟩ => ⟨v, he, hr, hb⟩)
end Go.Proofs.YtahjbnfbilkbcaaGreatDoor

/-
  Plain: names are different just where sorting them and striking equal neighbours leaves as many.
-/
namespace Go.Core
open Go.Lib

theorem filter_full {α : Type} {p : α → Bool} : ∀ {l : List α}, (l.filter p).length = l.length → ∀ x ∈ l, p x = true
  | [], _, _, h => by cases h
  | a :: l, he, x, h => by
    rw [List.filter_cons] at he
    have hle := List.length_filter_le p l
    cases hp : p a with
    | false => rw [if_neg (by simp [hp])] at he; simp only [List.length_cons] at he; omega
    | true =>
      rw [if_pos hp] at he
      simp only [List.length_cons] at he
      rcases List.mem_cons.1 h with rfl | h
      · exact hp
      · exact filter_full (by omega) x h
theorem compact_len (zs : List (List UInt8)) : (compact zs).length = zs.length ↔ ∀ j, j < zs.length → keeps zs.toArray j = true := by
  constructor
  · intro h j hj
    unfold compact compactUpTo at h
    rw [List.length_map] at h
    exact filter_full (l := List.range zs.length) (by rw [h, List.length_range]) j (List.mem_range.2 hj)
  · exact fun h => by rw [compact_all zs h]
theorem sorted_nodup {zs : List (List UInt8)} (hs : zs.Pairwise fun a b => decide (a ≤ b) = true) : (∀ j, j < zs.length → keeps zs.toArray j = true) ↔ zs.Nodup := by
  constructor
  · intro h
    refine List.pairwise_iff_getElem.2 fun i j hi hj hij he => ?_
    -- the neighbour of j lies between both
    have h1 := h j hj
    unfold keeps at h1
    rw [decide_eq_true_eq] at h1
    have h2 : zs.toArray[j]! ≠ zs.toArray[j - 1]! := h1.resolve_left (by omega)
    rw [getElem!_pos zs.toArray j (by simpa using hj), getElem!_pos zs.toArray (j - 1) (by simp; omega)] at h2
    simp only [List.getElem_toArray] at h2
    refine h2 ?_
    rcases Nat.lt_or_ge i (j - 1) with hlt | hge
    · have a1 := List.pairwise_iff_getElem.1 hs i (j - 1) hi (by omega) hlt
      have a2 := List.pairwise_iff_getElem.1 hs (j - 1) j (by omega) hj (by omega)
      simp only [decide_eq_true_eq] at a1 a2
      rw [he] at a1
      exact List.le_antisymm a1 a2
    · have e : i = j - 1 := by omega
      subst e
      exact he.symm
  · intro h j hj
    unfold keeps
    rw [decide_eq_true_eq]
    rcases Nat.eq_zero_or_pos j with h0 | h0
    · exact .inl h0
    · refine .inr ?_
      rw [getElem!_pos zs.toArray j (by simpa using hj), getElem!_pos zs.toArray (j - 1) (by simp; omega)]
      simp only [List.getElem_toArray]
      exact Ne.symm (List.pairwise_iff_getElem.1 h (j - 1) j (by omega) hj (by omega))
theorem compact_sort (ss : List (List UInt8)) : (compact (ss.mergeSort fun x y => decide (x ≤ y))).length = ss.length ↔ ss.Nodup := by
  have hp := List.mergeSort_perm ss fun x y => decide (x ≤ y)
  have hs : (ss.mergeSort fun x y => decide (x ≤ y)).Pairwise fun a b => decide (a ≤ b) = true :=
    List.pairwise_mergeSort (fun a b c h1 h2 => by simp only [decide_eq_true_eq] at *; exact List.le_trans h1 h2) (fun a b => by simp only [Bool.or_eq_true, decide_eq_true_eq]; exact List.le_total a b) ss
  rw [← hp.length_eq, compact_len, sorted_nodup hs]
  exact hp.nodup_iff
end Go.Core
