/-
  Lemmas (C8 C7 C9 Ax49 V1 Ax50 V2 P11 C11 Ax47 D1 C12 C13 W1 P12).
-/
import Derived.RangeFuncBox
import Derived.RangeFuncLeaves
import Derived.Shelf.Abstract
import Derived.WalkKit
import Derived.OwnWalkIn
import Derived.TacticsInMore
import Derived.LoopNIn
import Derived.LoopIn
import Derived.Maps.AppendAt
import Derived.Laws.AppendOwn
import Derived.Sort.OwnSorted
import Derived.Lib.SlicesCompact
import Derived.Test.YtahjbnfbilkbcaaGreatDoorSam5
set_option linter.unusedVariables false
set_option linter.unusedSimpArgs false
/-
  Contract: whether a cell is valid (document).
-/
namespace Go.Proofs.YtahjbnfbilkbcaaGreatDoor
open Go.AX Go.RowKit Go.Core Go.Scan
set_option maxRecDepth 20000

theorem all_step {α : Type} {Q : α → Prop} {l : List α} {i : Nat} {p : α} (h : ∀ c ∈ l.take i, Q c) (hp : l[i]? = some p) (hq : Q p) : ∀ c ∈ l.take (i + 1), Q c := by
  rw [List.take_add_one, hp]
  intro c hc
  rcases List.mem_append.1 hc with hc | hc
  · exact h c hc
  · rw [List.mem_singleton.1 (show c ∈ [p] from hc)]; exact hq
theorem range_no {n : Nat} {c : Cell} {x : Int} (h : x ∈ c.items) (hx : ¬ (0 ≤ x ∧ x < (n : Int))) : cellD n c = false := by
  have : rangeB n c = false := by
    cases hb : rangeB n c with
    | false => rfl
    | true =>
      unfold rangeB at hb
      have := List.all_eq_true.1 hb x h
      simp at this
      exact absurd this hx
  unfold cellD
  rw [this]
  simp
theorem slat_take {a : Option Addr} {l : List (List UInt8)} {w : World} {i : Nat} (h : SlAt a (l.length * 1) (strC l) w) (hi : i ≤ l.length) : SlAt a (i * 1) (strC (l.take i)) w := by
  obtain ⟨h1, h2, h3⟩ := h
  refine ⟨by simp [strC]; omega, fun h => h2 (by omega), fun j hj => ?_⟩
  rw [h3 j (by omega)]
  unfold strC
  rw [List.getElem?_map, List.getElem?_map, List.getElem?_take_of_lt (by omega)]
set_option maxHeartbeats 4000000 in
theorem cell_c0 (a : Option Addr) (ca n : Nat) (hn : n ≤ 200000000000000) (kind num : Int) (text : List UInt8) (names : List (List UInt8)) (items : List Int) (na : Option Addr) (nc : Nat) (ia : Option Addr) (ic : Nat) (hna : na = none → names = []) (hia : ia = none → items = []) (hnl : names.length ≤ 200000000000000) (hil : items.length ≤ 200000000000000) (hnw : ∀ s ∈ names, s.length ≤ 200000000000000) (htl : text.length ≤ 200000000000000) (hnb : names.length ≤ nc) :
    ∀ H, (∀ w, Facts H w → SlAt na (names.length * 1) (strC names) w ∧ SlAt ia (items.length * 1) (iC items) w) → SpecH Tryz.prog 43 (pvs [.slice a n ca, .agg #[.int .i64 kind, .int .i64 num, .string (bs text), .slice na names.length nc, .slice ia items.length ic]]) H (Ret (.bool (cellD n ⟨kind, num, text, names, items⟩)) H) := by
  refine factC hm Tryz.func43 (by kernel_rfl) rfl rfl ?_
  (first | refine wX ?_ | exact wZ)
  refine loopS Nat (fun i => i ≤ items.length ∧ ∀ x ∈ items.take i, 0 ≤ x ∧ x < (n : Int)) (fun i => mkS Tryz.f43.ntmps 0 [(0, .c (.v (.slice a n ca))), (3, .c (.lp 1 0)), (5, .c (.v (.int .i64 (i : Int))))]) (fun i => items.length - i) rfl (fun _ => rfl) 0 ⟨Nat.zero_le _, by simp⟩ ?_ ?_
  · (repeat' (first | exact trivial | refine And.intro (by with_reducible rfl) ?_ | (with_reducible exact wkC_refl _) | (with_reducible exact wkCs_refl _) | refine And.intro ?_ ?_))
    all_goals rfl
  intro i ⟨hi, hr⟩
  (first | refine wX ?_ | exact wZ)
  refine brd_dec (fun h1 => ?_) (fun h1 => ?_)
  · obtain ⟨x, hx⟩ : ∃ x, items[i]? = some x := ⟨_, List.getElem?_eq_getElem (by omega)⟩
    have hxm := List.mem_of_getElem? hx
    have hsa : ia.isSome = true := by
      cases ia with
      | none => rw [hia rfl] at hx; cases hx
      | some b => rfl
    (first | refine wX ?_ | exact wZ)
    refine Nd.mk ⟨hsa, by omega, by omega⟩ ?_
    (first | refine wX ?_ | exact wZ)
    refine LdN.one (.int .i64 x) rfl (fun w hw => hw.1.2) (by rw [Int.toNat_natCast]; show (iC items)[i * 1]? = _; rw [Nat.mul_one]; exact iC_get hx) ?_
    (first | refine wX ?_ | exact wZ)
    refine brd_dec (fun h2 => ?_) (fun h2 => ?_)
    · (first | refine wX ?_ | exact wZ)
      exact out_bool (range_no (c := ⟨kind, num, text, names, items⟩) hxm (by omega)).symm
    (first | refine wX ?_ | exact wZ)
    refine Nd.mk ⟨hsa, by omega, by omega⟩ ?_
    (first | refine wX ?_ | exact wZ)
    refine LdN.one (.int .i64 x) rfl (fun w hw => hw.1.2) (by rw [Int.toNat_natCast]; show (iC items)[i * 1]? = _; rw [Nat.mul_one]; exact iC_get hx) ?_
    (first | refine wX ?_ | exact wZ)
    refine brd_dec (fun h3 => ?_) (fun h3 => ?_)
    · (first | refine wX ?_ | exact wZ)
      exact out_bool (range_no (c := ⟨kind, num, text, names, items⟩) hxm (by omega)).symm
    (first | refine wX ?_ | exact wZ)
    refine ⟨i + 1, ⟨by omega, all_step hr hx (by omega)⟩, by omega, ?_, by (repeat' (first | exact trivial | exact wkE_refl _ | refine And.intro ?_ ?_))⟩
    (repeat' (first | exact trivial | refine And.intro (by with_reducible rfl) ?_ | (with_reducible exact wkC_refl _) | (with_reducible exact wkCs_refl _) | refine And.intro ?_ ?_))
    all_goals first | rfl | exact av_int (by rw [wrap_i64 (by omega)]; omega)
  have hin : i = items.length := by omega
  subst hin
  rw [List.take_length] at hr
  have hrB : rangeB n ⟨kind, num, text, names, items⟩ = true := List.all_eq_true.2 fun x hx => by have := hr x hx; simp; omega
  clear h1 hi
  (first | refine wX ?_ | exact wZ)
  refine brd_dec (fun hk0 => ?_) (fun hk0 => ?_)
  · (first | refine wX ?_ | exact wZ)
    exact out_bool (by unfold cellD; simp [hk0])
  (first | refine wX ?_ | exact wZ)
  have hkk : 8 < kind ∨ kind = 0 ∨ kind = 1 ∨ kind = 2 ∨ kind = 3 ∨ kind = 4 ∨ kind = 5 ∨ kind = 6 ∨ kind = 7 ∨ kind = 8 := by omega
  rcases hkk with hk | rfl | rfl | rfl | rfl | rfl | rfl | rfl | rfl | rfl
  · refine brd_dec (fun _ => ?_) (fun h => absurd hk h)
    (first | refine wX ?_ | exact wZ)
    exact out_bool (by unfold cellD; simp [hk])
  · -- 0: the kind
    -- 0: the kind
    (first | refine wX ?_ | exact wZ)
    refine call1 (leaf_c ⟨⟨0, num, text, names, items⟩, na, nc, ia, ic⟩ _) ?_
    (first | refine wX ?_ | exact wZ)
    refine brd_dec (fun hi => ?_) (fun hi => ?_)
    · (first | refine wX ?_ | exact wZ)
      exact out_bool (by
        have h0 : items ≠ [] := fun e => by rw [e] at hi; simp at hi
        unfold cellD
        rw [hrB]
        simp [h0])
    have hi0 : items = [] := List.eq_nil_of_length_eq_zero (by omega)
    (first | refine wX ?_ | exact wZ)
    refine brd_dec (fun hi => ?_) (fun hi => ?_)
    · (first | refine wX ?_ | exact wZ)
      exact out_bool (by
        have h0 : names ≠ [] := fun e => by rw [e] at hi; simp at hi
        unfold cellD
        rw [hrB]
        simp [h0])
    have hn0 : names = [] := List.eq_nil_of_length_eq_zero (by omega)
    (first | refine wX ?_ | exact wZ)
    refine brd_ne (fun hu => ?_) (fun hu => ?_)
    · (first | refine wX ?_ | exact wZ)
      exact out_bool (by
        unfold cellD
        rw [hrB]
        simp [hu])
    (first | refine wX ?_ | exact wZ)
    -- hi0, : what is known of items
    exact out_bool (by
      rw [bs_list, Bool.eq_iff_iff]
      unfold cellD
      rw [hrB]
      simp [hi0, hn0, hu])
  · -- 1: the kind
    -- 1: the kind
    (first | refine wX ?_ | exact wZ)
    refine call1 (leaf_c ⟨⟨1, num, text, names, items⟩, na, nc, ia, ic⟩ _) ?_
    (first | refine wX ?_ | exact wZ)
    refine brd_dec (fun hi => ?_) (fun hi => ?_)
    · (first | refine wX ?_ | exact wZ)
      exact out_bool (by
        have h0 : items ≠ [] := fun e => by rw [e] at hi; simp at hi
        unfold cellD
        rw [hrB]
        simp [h0])
    have hi0 : items = [] := List.eq_nil_of_length_eq_zero (by omega)
    (first | refine wX ?_ | exact wZ)
    refine brd_dec (fun hi => ?_) (fun hi => ?_)
    · (first | refine wX ?_ | exact wZ)
      exact out_bool (by
        have h0 : names ≠ [] := fun e => by rw [e] at hi; simp at hi
        unfold cellD
        rw [hrB]
        simp [h0])
    have hn0 : names = [] := List.eq_nil_of_length_eq_zero (by omega)
    (first | refine wX ?_ | exact wZ)
    refine brd_ne (fun hu => ?_) (fun hu => ?_)
    · (first | refine wX ?_ | exact wZ)
      exact out_bool (by
        unfold cellD
        rw [hrB]
        simp [hu])
    (first | refine wX ?_ | exact wZ)
    -- hi0, : what is known of items
    exact out_bool (by
      rw [bs_list, Bool.eq_iff_iff]
      unfold cellD
      rw [hrB]
      simp [hi0, hn0, hu])
  · -- 2: the kind
    -- 2: the kind
    (first | refine wX ?_ | exact wZ)
    refine call1 (leaf_c ⟨⟨2, num, text, names, items⟩, na, nc, ia, ic⟩ _) ?_
    (first | refine wX ?_ | exact wZ)
    refine brd_dec (fun hi => ?_) (fun hi => ?_)
    · (first | refine wX ?_ | exact wZ)
      exact out_bool (by
        have h0 : items ≠ [] := fun e => by rw [e] at hi; simp at hi
        unfold cellD
        rw [hrB]
        simp [h0])
    have hi0 : items = [] := List.eq_nil_of_length_eq_zero (by omega)
    (first | refine wX ?_ | exact wZ)
    refine brd_dec (fun hi => ?_) (fun hi => ?_)
    · (first | refine wX ?_ | exact wZ)
      exact out_bool (by
        have h0 : names ≠ [] := fun e => by rw [e] at hi; simp at hi
        unfold cellD
        rw [hrB]
        simp [h0])
    have hn0 : names = [] := List.eq_nil_of_length_eq_zero (by omega)
    (first | refine wX ?_ | exact wZ)
    refine brd_ne (fun hu => ?_) (fun hu => ?_)
    · (first | refine wX ?_ | exact wZ)
      exact out_bool (by
        unfold cellD
        rw [hrB]
        simp [hu])
    (first | refine wX ?_ | exact wZ)
    -- hi0, : what is known of items
    exact out_bool (by
      rw [bs_list, Bool.eq_iff_iff]
      unfold cellD
      rw [hrB]
      simp [hi0, hn0, hu])
  · -- 3: the kind
    (first | refine wX ?_ | exact wZ)
    refine call1 (leaf_c ⟨⟨3, num, text, names, items⟩, na, nc, ia, ic⟩ _) ?_
    (first | refine wX ?_ | exact wZ)
    refine brd_dec (fun hi => ?_) (fun hi => ?_)
    · (first | refine wX ?_ | exact wZ)
      exact out_bool (by
        have h0 : items ≠ [] := fun e => by rw [e] at hi; simp at hi
        unfold cellD
        rw [hrB]
        simp [h0])
    have hi0 : items = [] := List.eq_nil_of_length_eq_zero (by omega)
    (first | refine wX ?_ | exact wZ)
    refine brd_dec (fun hi => ?_) (fun hi => ?_)
    · (first | refine wX ?_ | exact wZ)
      exact out_bool (by
        have h0 : names ≠ [] := fun e => by rw [e] at hi; simp at hi
        unfold cellD
        rw [hrB]
        simp [h0])
    have hn0 : names = [] := List.eq_nil_of_length_eq_zero (by omega)
    (first | refine wX ?_ | exact wZ)
    -- the text is empty, or not
    rw [bs_list]
    cases ht : text == ([] : List UInt8) with
    | false =>
      have ht0 : text ≠ [] := fun e => by rw [e] at ht; cases ht
      (first | refine wX ?_ | exact wZ)
      exact out_bool (by
        unfold cellD
        rw [hrB]
        simp [ht0])
    | true =>
    have ht0 : text = [] := eq_of_beq ht
    (first | refine wX ?_ | exact wZ)
    refine brd_dec (fun hm1 => ?_) (fun hm1 => ?_)
    · (first | refine wX ?_ | exact wZ)
      exact out_bool (by
        rw [Bool.eq_iff_iff]
        unfold cellD
        rw [hrB]
        have hmm : -Go.Core.maxI ≤ num := hm1
        simp [hi0, hn0, ht0, hmm]
        exact Iff.rfl)
    · (first | refine wX ?_ | exact wZ)
      exact out_bool (by
        have : ¬ (-Go.Core.maxI ≤ num) := hm1
        unfold cellD
        rw [hrB]
        simp [this])
  · -- 4: the kind
    (first | refine wX ?_ | exact wZ)
    refine call1 (leaf_c ⟨⟨4, num, text, names, items⟩, na, nc, ia, ic⟩ _) ?_
    (first | refine wX ?_ | exact wZ)
    refine brd_dec (fun hi => ?_) (fun hi => ?_)
    · (first | refine wX ?_ | exact wZ)
      exact out_bool (by
        have h0 : items ≠ [] := fun e => by rw [e] at hi; simp at hi
        unfold cellD
        rw [hrB]
        simp [h0])
    have hi0 : items = [] := List.eq_nil_of_length_eq_zero (by omega)
    (first | refine wX ?_ | exact wZ)
    refine brd_dec (fun hi => ?_) (fun hi => ?_)
    · (first | refine wX ?_ | exact wZ)
      exact out_bool (by
        have h0 : names ≠ [] := fun e => by rw [e] at hi; simp at hi
        unfold cellD
        rw [hrB]
        simp [h0])
    have hn0 : names = [] := List.eq_nil_of_length_eq_zero (by omega)
    (first | refine wX ?_ | exact wZ)
    refine brd_ne (fun hu => ?_) (fun hu => ?_)
    · (first | refine wX ?_ | exact wZ)
      exact out_bool (by
        unfold cellD
        rw [hrB]
        simp [hu])
    (first | refine wX ?_ | exact wZ)
    exact out_bool (by
      rw [bs_size, Bool.eq_iff_iff]
      unfold cellD
      rw [hrB]
      simp [hi0, hn0, hu]
      try omega)
  · -- 5: the kind
    (first | refine wX ?_ | exact wZ)
    refine call1 (leaf_c ⟨⟨5, num, text, names, items⟩, na, nc, ia, ic⟩ _) ?_
    (first | refine wX ?_ | exact wZ)
    refine brd_dec (fun hi => ?_) (fun hi => ?_)
    · (first | refine wX ?_ | exact wZ)
      exact out_bool (by
        have h0 : items ≠ [] := fun e => by rw [e] at hi; simp at hi
        unfold cellD
        rw [hrB]
        simp [h0])
    have hi0 : items = [] := List.eq_nil_of_length_eq_zero (by omega)
    (first | refine wX ?_ | exact wZ)
    refine brd_dec (fun hi => ?_) (fun hi => ?_)
    · (first | refine wX ?_ | exact wZ)
      exact out_bool (by
        have h0 : names ≠ [] := fun e => by rw [e] at hi; simp at hi
        unfold cellD
        rw [hrB]
        simp [h0])
    have hn0 : names = [] := List.eq_nil_of_length_eq_zero (by omega)
    (first | refine wX ?_ | exact wZ)
    refine brd_ne (fun hu => ?_) (fun hu => ?_)
    · (first | refine wX ?_ | exact wZ)
      exact out_bool (by
        unfold cellD
        rw [hrB]
        simp [hu])
    (first | refine wX ?_ | exact wZ)
    exact out_bool (by
      rw [bs_size, Bool.eq_iff_iff]
      unfold cellD
      rw [hrB]
      simp [hi0, hn0, hu]
      try omega)
  · -- 6: the kind
    (first | refine wX ?_ | exact wZ)
    refine call1 (leaf_c ⟨⟨6, num, text, names, items⟩, na, nc, ia, ic⟩ _) ?_
    (first | refine wX ?_ | exact wZ)
    refine brd_dec (fun hi => ?_) (fun hi => ?_)
    · (first | refine wX ?_ | exact wZ)
      exact out_bool (by
        have h0 : names ≠ [] := fun e => by rw [e] at hi; simp at hi
        unfold cellD
        rw [hrB]
        simp [h0])
    have hn0 : names = [] := List.eq_nil_of_length_eq_zero (by omega)
    (first | refine wX ?_ | exact wZ)
    refine brd_ne (fun hu => ?_) (fun hu => ?_)
    · (first | refine wX ?_ | exact wZ)
      exact out_bool (by
        unfold cellD
        rw [hrB]
        simp [hu])
    (first | refine wX ?_ | exact wZ)
    -- : what is known of items
    exact out_bool (by
      rw [bs_list, Bool.eq_iff_iff]
      unfold cellD
      rw [hrB]
      simp [hn0, hu])
  · -- 7: the kind
    (first | refine wX ?_ | exact wZ)
    refine call1 (leaf_c ⟨⟨7, num, text, names, items⟩, na, nc, ia, ic⟩ _) ?_
    (first | refine wX ?_ | exact wZ)
    refine brd_dec (fun hi => ?_) (fun hi => ?_)
    · (first | refine wX ?_ | exact wZ)
      exact out_bool (by
        have h0 : names ≠ [] := fun e => by rw [e] at hi; simp at hi
        unfold cellD
        rw [hrB]
        simp [h0])
    have hn0 : names = [] := List.eq_nil_of_length_eq_zero (by omega)
    (first | refine wX ?_ | exact wZ)
    refine brd_ne (fun hu => ?_) (fun hu => ?_)
    · (first | refine wX ?_ | exact wZ)
      exact out_bool (by
        unfold cellD
        rw [hrB]
        simp [hu])
    (first | refine wX ?_ | exact wZ)
    -- the text is empty, or not
    rw [bs_list]
    cases ht : text == ([] : List UInt8) with
    | false =>
      have ht0 : text ≠ [] := fun e => by rw [e] at ht; cases ht
      (first | refine wX ?_ | exact wZ)
      exact out_bool (by
        unfold cellD
        rw [hrB]
        simp [ht0])
    | true =>
    have ht0 : text = [] := eq_of_beq ht
    (first | refine wX ?_ | exact wZ)
    exact out_bool (by
      rw [Bool.eq_iff_iff]
      unfold cellD
      rw [hrB]
      simp [hn0, hu, ht0]
      rw [Int.tmod_eq_emod_of_nonneg (by omega)]
      omega)
  · -- 8: the kind
    (first | refine wX ?_ | exact wZ)
    refine call1 (leaf_c ⟨⟨8, num, text, names, items⟩, na, nc, ia, ic⟩ _) ?_
    (first | refine wX ?_ | exact wZ)
    refine brd_ne (fun hu => ?_) (fun hu => ?_)
    · (first | refine wX ?_ | exact wZ)
      exact out_bool (by
        unfold cellD
        rw [hrB]
        simp [hu])
    (first | refine wX ?_ | exact wZ)
    refine call1 (dConst_c text htl _) ?_
    cases hcn : constD text with
    | false =>
      (first | refine wX ?_ | exact wZ)
      exact out_bool (by
        unfold cellD
        rw [hrB, hcn]
        simp)
    | true =>
    (first | refine wX ?_ | exact wZ)
    refine brd_ne (fun hln => ?_) (fun hln => ?_)
    · (first | refine wX ?_ | exact wZ)
      exact out_bool (by
        have : ¬ names.length = items.length := by omega
        unfold cellD
        rw [hrB, hcn]
        simp [this])
    (first | refine wX ?_ | exact wZ)
    refine loopS Nat (fun i => i ≤ names.length ∧ ∀ j, j < i → (ivarD (names.getD j []) && !decide (names.getD j [] ∈ names.take j)) = true) (fun i => mkS Tryz.f43.ntmps 0 [(0, .c (.v (.slice a n ca))), (3, .c (.lp 1 0)), (6, .c (.v (.int .i64 (i : Int))))]) (fun i => names.length - i) rfl (fun _ => rfl) 0 ⟨Nat.zero_le _, fun _ h => by omega⟩ ?_ ?_
    · (repeat' (first | exact trivial | refine And.intro (by with_reducible rfl) ?_ | (with_reducible exact wkC_refl _) | (with_reducible exact wkCs_refl _) | refine And.intro ?_ ?_))
      all_goals rfl
    intro i ⟨hi, hj⟩
    (first | refine wX ?_ | exact wZ)
    refine brd_dec (fun h1 => ?_) (fun h1 => ?_)
    · obtain ⟨x, hx⟩ : ∃ x, names[i]? = some x := ⟨_, List.getElem?_eq_getElem (by omega)⟩
      have hxm := List.mem_of_getElem? hx
      have hsa : na.isSome = true := by
        cases na with
        | none => rw [hna rfl] at hx; cases hx
        | some b => rfl
      have hxd : names.getD i [] = x := by rw [List.getD_eq_getElem?_getD, hx]; rfl
      have hbad : (ivarD x && !decide (x ∈ names.take i)) = false → false = cellD n ⟨8, num, text, names, items⟩ := fun h => by
        cases hcd : cellD n ⟨8, num, text, names, items⟩ with
        | false => rfl
        | true =>
          unfold cellD at hcd
          simp only [show ¬ (8 : Int) = 3 by decide, show ¬ (8 : Int) = 4 by decide, show ¬ (8 : Int) = 5 by decide, show ¬ (8 : Int) = 7 by decide, if_false, if_true, Bool.and_eq_true] at hcd
          have := List.all_eq_true.1 hcd.2.2 i (List.mem_range.2 (by omega))
          rw [hxd, h] at this
          cases this
      (first | refine wX ?_ | exact wZ)
      refine Nd.mk ⟨hsa, by omega, by omega⟩ ?_
      (first | refine wX ?_ | exact wZ)
      refine LdN.one (.string (bs x)) rfl (fun w hw => hw.1.1) (by rw [Int.toNat_natCast]; show (strC names)[i * 1]? = _; rw [Nat.mul_one]; exact strC_get hx) ?_
      (first | refine wX ?_ | exact wZ)
      refine callQ (dIvar_c x (hnw x hxm) _) ?_
      cases hiv : ivarD x with
      | false =>
        (first | refine wX ?_ | exact wZ)
        exact out_bool (hbad (by rw [hiv]; rfl))
      | true =>
      (first | refine wX ?_ | exact wZ)
      refine ReadW.slc_hi rfl (by kernel_rfl) rfl rfl (by omega) ?_
      rw [Int.toNat_natCast]
      (first | refine wX ?_ | exact wZ)
      refine Nd.mk ⟨hsa, by omega, by omega⟩ ?_
      (first | refine wX ?_ | exact wZ)
      refine LdN.one (.string (bs x)) rfl (fun w hw => hw.1.1) (by rw [Int.toNat_natCast]; show (strC names)[i * 1]? = _; rw [Nat.mul_one]; exact strC_get hx) ?_
      (first | refine wX ?_ | exact wZ)
      have htk : (names.take i).length = i := by rw [List.length_take]; omega
      have hh := dHas_c na nc (names.take i) x (fun h => by rw [hna h]; simp) (by omega)
      rw [htk] at hh
      refine callQ (hh _ ?_) ?_
      · exact fun w hw => slat_take hw.1.1 (by omega)
      cases hmm : decide (x ∈ names.take i) with
      | true =>
        (first | refine wX ?_ | exact wZ)
        exact out_bool (hbad (by rw [hmm]; simp))
      | false =>
        (first | refine wX ?_ | exact wZ)
        refine ⟨i + 1, ⟨by omega, fun j hj2 => ?_⟩, by omega, ?_, by (repeat' (first | exact trivial | exact wkE_refl _ | refine And.intro ?_ ?_))⟩
        · by_cases e : j = i
          · subst e; rw [hxd, hiv, hmm]; rfl
          · exact hj j (by omega)
        · (repeat' (first | exact trivial | refine And.intro (by with_reducible rfl) ?_ | (with_reducible exact wkC_refl _) | (with_reducible exact wkCs_refl _) | refine And.intro ?_ ?_))
          all_goals first | rfl | exact av_int (by rw [wrap_i64 (by omega)]; omega)
    · have hin : i = names.length := by omega
      subst hin
      (first | refine wX ?_ | exact wZ)
      refine out_bool ?_
      unfold cellD
      rw [hrB, hcn, List.all_eq_true.2 fun j hj2 => hj j (List.mem_range.1 hj2)]
      simp [hu]
      omega
theorem cell_c (a : Option Addr) (ca n : Nat) (hn : n ≤ 200000000000000) (p : CellP) (hp : CellOk p) : ∀ H, (∀ w, Facts H w → CellF p w) → SpecH Tryz.prog 43 (pvs [.slice a n ca, cellV p]) H (Ret (.bool (cellD n p.c)) H) := by
  obtain ⟨⟨kind, num, text, names, items⟩, na, nc, ia, ic⟩ := p
  exact cell_c0 a ca n hn kind num text names items na nc ia ic hp.na hp.ia hp.nl hp.il hp.nw hp.tl hp.nb
end Go.Proofs.YtahjbnfbilkbcaaGreatDoor

/-
  Contract: whether two keys of a table are one (program).
-/
namespace Go.Core
def keyB (g : List Cell) (a b : Int) : Bool := decide (a = b) || oneKeyB (at_ g a) (at_ g b)
/-- Two keys of a table are one. -/
def Twice (g : List Cell) (it : List Int) : Prop := ∃ i k : Nat, k < i ∧ i < it.length ∧ i % 2 = 0 ∧ k % 2 = 0 ∧ keyB g (it.getD i 0) (it.getD k 0) = true
end Go.Core
namespace Go.Proofs.YtahjbnfbilkbcaaGreatDoor
open Go.AX Go.RowKit Go.Core
set_option maxRecDepth 20000

theorem at_map {l : List CellP} {i : Nat} {p : CellP} (h : l[i]? = some p) : at_ (l.map (·.c)) (i : Int) = p.c := by
  unfold at_
  rw [Int.toNat_natCast, List.getD_eq_getElem?_getD, List.getElem?_map, h]
  rfl
set_option maxHeartbeats 1000000 in
theorem twice_c (a : Option Addr) (c : Nat) (l : List CellP) (p : CellP) (ha : a = none → l = []) (hl : l.length ≤ 200000000000000) (hp : CellOk p) (hin : ∀ x ∈ p.c.items, 0 ≤ x ∧ x < (l.length : Int)) :
    ∀ H, (∀ w, Facts H w → GrF a l w ∧ CellF p w) → ∃ b : Bool, (b = true ↔ Twice (l.map (·.c)) p.c.items) ∧ SpecH Tryz.prog 48 (pvs [.slice a l.length c, cellV p]) H (Ret (.bool b) H) := by
  intro H hH
  obtain ⟨b, hb⟩ : ∃ b : Bool, b = true ↔ Twice (l.map (·.c)) p.c.items := by
    by_cases h : Twice (l.map (·.c)) p.c.items
    · exact ⟨true, fun _ => h, fun _ => rfl⟩
    · exact ⟨false, (fun h => by cases h), fun h2 => absurd h2 h⟩
  refine ⟨b, hb, ?_⟩
  have hil := hp.il
  refine factC hm Tryz.func48 (by kernel_rfl) rfl rfl ?_ H hH
  (first | refine wX ?_ | exact wZ)
  refine loopS Nat (fun i => i ≤ p.c.items.length + 1 ∧ i % 2 = 0 ∧ ∀ i' k, k < i' → i' < i → i' < p.c.items.length → i' % 2 = 0 → k % 2 = 0 → keyB (l.map (·.c)) (p.c.items.getD i' 0) (p.c.items.getD k 0) = false) (fun i => mkS Tryz.f48.ntmps 0 [(0, .c (.v (.slice a l.length c))), (3, .c (.lp 1 0)), (5, .c (.v (.int .i64 (i : Int))))]) (fun i => p.c.items.length + 2 - i) rfl (fun _ => rfl) 0 ⟨Nat.zero_le _, rfl, fun _ _ _ h => by omega⟩ ?_ ?_
  · (repeat' (first | exact trivial | refine And.intro (by with_reducible rfl) ?_ | (with_reducible exact wkC_refl _) | (with_reducible exact wkCs_refl _) | refine And.intro ?_ ?_))
    all_goals rfl
  intro i ⟨hi, hi2, hno⟩
  (first | refine wX ?_ | exact wZ)
  refine brd_dec (fun h1 => ?_) (fun h1 => ?_)
  · obtain ⟨x, hx⟩ : ∃ x, p.c.items[i]? = some x := ⟨_, List.getElem?_eq_getElem (by omega)⟩
    have hsi : p.ia.isSome = true := by
      cases hna : p.ia with
      | none => rw [hp.ia hna] at hx; cases hx
      | some b => rfl
    (first | refine wX ?_ | exact wZ)
    refine loopS Nat (fun k => k ≤ i + 1 ∧ k % 2 = 0 ∧ ∀ k', k' < k → k' < i → k' % 2 = 0 → keyB (l.map (·.c)) (p.c.items.getD i 0) (p.c.items.getD k' 0) = false) (fun k => mkS Tryz.f48.ntmps 0 [(0, .c (.v (.slice a l.length c))), (3, .c (.lp 1 0)), (5, .c (.v (.int .i64 (i : Int)))), (6, .c (.v (.int .i64 (k : Int))))]) (fun k => i + 2 - k) rfl (fun _ => rfl) 0 ⟨Nat.zero_le _, rfl, fun _ h => by omega⟩ ?_ ?_
    · (repeat' (first | exact trivial | refine And.intro (by with_reducible rfl) ?_ | (with_reducible exact wkC_refl _) | (with_reducible exact wkCs_refl _) | refine And.intro ?_ ?_))
      all_goals rfl
    intro k ⟨hk, hk2, hnk⟩
    (first | refine wX ?_ | exact wZ)
    refine brd_dec (fun h2 => ?_) (fun h2 => ?_)
    · obtain ⟨y, hy⟩ : ∃ y, p.c.items[k]? = some y := ⟨_, List.getElem?_eq_getElem (by omega)⟩
      obtain ⟨hx0, hx1⟩ := hin x (List.mem_of_getElem? hx)
      obtain ⟨hy0, hy1⟩ := hin y (List.mem_of_getElem? hy)
      obtain ⟨u, rfl⟩ : ∃ u : Nat, x = (u : Int) := ⟨x.toNat, by omega⟩
      obtain ⟨v, rfl⟩ : ∃ v : Nat, y = (v : Int) := ⟨y.toNat, by omega⟩
      obtain ⟨q, hq⟩ : ∃ q, l[u]? = some q := ⟨_, List.getElem?_eq_getElem (by omega)⟩
      obtain ⟨r, hr⟩ : ∃ r, l[v]? = some r := ⟨_, List.getElem?_eq_getElem (by omega)⟩
      have hke : keyB (l.map (·.c)) (p.c.items.getD i 0) (p.c.items.getD k 0) = (decide ((u : Int) = v) || oneKeyB q.c r.c) := by
        rw [List.getD_eq_getElem?_getD, List.getD_eq_getElem?_getD, hx, hy]
        show keyB _ (u : Int) (v : Int) = _
        unfold keyB
        rw [at_map hq, at_map hr]
      (first | refine wX ?_ | exact wZ)
      refine Nd.mk ⟨hsi, by omega, by omega⟩ ?_
      (first | refine wX ?_ | exact wZ)
      refine LdN.one (.int .i64 (u : Int)) rfl (fun w hw => hw.1.2.2) (by rw [Int.toNat_natCast]; show (iC p.c.items)[i * 1]? = _; rw [Nat.mul_one]; exact iC_get hx) ?_
      (first | refine wX ?_ | exact wZ)
      refine Nd.mk ⟨hsi, by omega, by omega⟩ ?_
      (first | refine wX ?_ | exact wZ)
      refine LdN.one (.int .i64 (v : Int)) rfl (fun w hw => hw.1.2.2) (by rw [Int.toNat_natCast]; show (iC p.c.items)[k * 1]? = _; rw [Nat.mul_one]; exact iC_get hy) ?_
      (first | refine wX ?_ | exact wZ)
      have hok := oneKey_c a c l u v q r hq hr ha hl
      rw [← hke] at hok
      refine callQ (hok _ ?_) ?_
      · exact fun w hw => hw.1.1
      cases hkb : keyB (l.map (·.c)) (p.c.items.getD i 0) (p.c.items.getD k 0) with
      | true =>
        (first | refine wX ?_ | exact wZ)
        exact out_bool ((hb.2 ⟨i, k, by omega, by omega, hi2, hk2, hkb⟩).symm)
      | false =>
        (first | refine wX ?_ | exact wZ)
        refine ⟨k + 2, ⟨by omega, by omega, fun k' h3 h4 h5 => ?_⟩, by omega, ?_, by (repeat' (first | exact trivial | exact wkE_refl _ | refine And.intro ?_ ?_))⟩
        · by_cases e : k' = k
          · subst e; exact hkb
          · exact hnk k' (by omega) h4 h5
        · (repeat' (first | exact trivial | refine And.intro (by with_reducible rfl) ?_ | (with_reducible exact wkC_refl _) | (with_reducible exact wkCs_refl _) | refine And.intro ?_ ?_))
          all_goals first | rfl | exact av_int (by rw [wrap_i64 (by omega)]; omega)
    · (first | refine wX ?_ | exact wZ)
      refine ⟨i + 2, ⟨by omega, by omega, fun i' k' h3 h4 h5 h6 h7 => ?_⟩, by omega, ?_, by (repeat' (first | exact trivial | exact wkE_refl _ | refine And.intro ?_ ?_))⟩
      · by_cases e : i' = i
        · subst e; exact hnk k' (by omega) h3 h7
        · exact hno i' k' h3 (by omega) h5 h6 h7
      · (repeat' (first | exact trivial | refine And.intro (by with_reducible rfl) ?_ | (with_reducible exact wkC_refl _) | (with_reducible exact wkCs_refl _) | refine And.intro ?_ ?_))
        all_goals first | rfl | exact av_int (by rw [wrap_i64 (by omega)]; omega)
  · (first | refine wX ?_ | exact wZ)
    refine out_bool ?_
    cases b with
    | false => rfl
    | true =>
      obtain ⟨i', k, h2, h3, h4, h5, h6⟩ := hb.1 rfl
      rw [hno i' k h2 (by omega) h3 h4 h5] at h6
      cases h6
end Go.Proofs.YtahjbnfbilkbcaaGreatDoor

/-
  Contract: whether a graph is valid (document).
-/
namespace Go.Core
def ValidP (g : List Cell) : Prop := g.length ≤ 500 ∧ (∀ c ∈ g, cellD g.length c = true) ∧ ∀ c ∈ g, c.kind = 7 → ¬ Twice g c.items
theorem cellD_in {n : Nat} {c : Cell} (h : cellD n c = true) : ∀ x ∈ c.items, 0 ≤ x ∧ x < (n : Int) := by
  unfold cellD at h
  simp only [Bool.and_eq_true] at h
  intro x hx
  have := List.all_eq_true.1 h.1.1 x hx
  simpa using this
end Go.Core
namespace Go.Proofs.YtahjbnfbilkbcaaGreatDoor
open Go.AX Go.RowKit Go.Core Go.Scan
set_option maxRecDepth 20000

set_option maxHeartbeats 4000000 in
theorem Valid_c (a : Option Addr) (ca : Nat) (l : List CellP) (ha : a = none → l = []) (hl : l.length ≤ 200000000000000) (hok : ∀ p ∈ l, CellOk p) :
    ∀ H, (∀ w, Facts H w → GrF a l w) → ∃ b : Bool, (b = true ↔ ValidP (l.map (·.c))) ∧ SpecH Tryz.prog 17 (pvs [.slice a l.length ca]) H (Ret (.bool b) H) := by
  intro H hH
  obtain ⟨b, hb⟩ : ∃ b : Bool, b = true ↔ ValidP (l.map (·.c)) := by
    by_cases h : ValidP (l.map (·.c))
    · exact ⟨true, fun _ => h, fun _ => rfl⟩
    · exact ⟨false, (fun h => by cases h), fun h2 => absurd h2 h⟩
  refine ⟨b, hb, ?_⟩
  have hml : (l.map (·.c)).length = l.length := by simp
  have hno : ¬ ValidP (l.map (·.c)) → false = b := fun h => by
    cases b with
    | false => rfl
    | true => exact absurd (hb.1 rfl) h
  refine factC hm Tryz.func17 (by kernel_rfl) rfl rfl ?_ H hH
  (first | refine wX ?_ | exact wZ)
  refine brd_dec (fun h0 => ?_) (fun h0 => ?_)
  · (first | refine wX ?_ | exact wZ)
    exact out_bool (hno fun h => by have := h.1; omega)
  (first | refine wX ?_ | exact wZ)
  refine loopS Nat (fun i => i ≤ l.length ∧ ∀ p ∈ l.take i, cellD l.length p.c = true) (fun i => mkS Tryz.f17.ntmps 0 [(0, .c (.v (.slice a l.length ca))), (3, .c (.v (.int .i64 (i : Int))))]) (fun i => l.length - i) rfl (fun _ => rfl) 0 ⟨Nat.zero_le _, by simp⟩ ?_ ?_
  · (repeat' (first | exact trivial | refine And.intro (by with_reducible rfl) ?_ | (with_reducible exact wkC_refl _) | (with_reducible exact wkCs_refl _) | refine And.intro ?_ ?_))
    all_goals rfl
  intro i ⟨hi, hc⟩
  (first | refine wX ?_ | exact wZ)
  refine brd_dec (fun h1 => ?_) (fun h1 => ?_)
  · obtain ⟨p, hp⟩ : ∃ p, l[i]? = some p := ⟨_, List.getElem?_eq_getElem (by omega)⟩
    have hpm := List.mem_of_getElem? hp
    have hsa : a.isSome = true := by
      cases a with
      | none => rw [ha rfl] at hp; cases hp
      | some b => rfl
    (first | refine wX ?_ | exact wZ)
    refine Nd.mk ⟨hsa, by omega, by omega⟩ ?_
    (first | refine wX ?_ | exact wZ)
    refine LdN.agg (cellC p) rfl (fun w hw => hw.1.1) rfl (fun k hk => by rw [Int.toNat_natCast]; exact grC_get l i k hk hp) ?_
    (first | refine wX ?_ | exact wZ)
    refine call1 (cell_c a ca l.length hl p (hok p hpm) _ (fun w hw => hw.1.2 p hpm)) ?_
    cases hcd : cellD l.length p.c with
    | false =>
      (first | refine wX ?_ | exact wZ)
      exact out_bool (hno fun h => by
        have := h.2.1 p.c (List.mem_map.2 ⟨p, hpm, rfl⟩)
        rw [hml, hcd] at this
        cases this)
    | true =>
      (first | refine wX ?_ | exact wZ)
      refine ⟨i + 1, ⟨by omega, all_step hc hp hcd⟩, by omega, ?_, by (repeat' (first | exact trivial | exact wkE_refl _ | refine And.intro ?_ ?_))⟩
      (repeat' (first | exact trivial | refine And.intro (by with_reducible rfl) ?_ | (with_reducible exact wkC_refl _) | (with_reducible exact wkCs_refl _) | refine And.intro ?_ ?_))
      all_goals first | rfl | exact av_int (by rw [wrap_i64 (by omega)]; omega)
  have hil : i = l.length := by omega
  subst hil
  rw [List.take_length] at hc
  clear h1
  (first | refine wX ?_ | exact wZ)
  refine loopS Nat (fun i => i ≤ l.length ∧ ∀ p ∈ l.take i, p.c.kind = 7 → ¬ Twice (l.map (·.c)) p.c.items) (fun i => mkS Tryz.f17.ntmps 0 [(0, .c (.v (.slice a l.length ca))), (4, .c (.v (.int .i64 (i : Int))))]) (fun i => l.length - i) rfl (fun _ => rfl) 0 ⟨Nat.zero_le _, by simp⟩ ?_ ?_
  · (repeat' (first | exact trivial | refine And.intro (by with_reducible rfl) ?_ | (with_reducible exact wkC_refl _) | (with_reducible exact wkCs_refl _) | refine And.intro ?_ ?_))
    all_goals rfl
  intro i ⟨hi, ht⟩
  (first | refine wX ?_ | exact wZ)
  refine brd_dec (fun h1 => ?_) (fun h1 => ?_)
  · obtain ⟨p, hp⟩ : ∃ p, l[i]? = some p := ⟨_, List.getElem?_eq_getElem (by omega)⟩
    have hpm := List.mem_of_getElem? hp
    have hpo := hok p hpm
    have hpil := hpo.il
    have hsa : a.isSome = true := by
      cases a with
      | none => rw [ha rfl] at hp; cases hp
      | some b => rfl
    (first | refine wX ?_ | exact wZ)
    refine Nd.mk ⟨hsa, by omega, by omega⟩ ?_
    (first | refine wX ?_ | exact wZ)
    refine LdN.fld (.int .i64 p.c.kind) rfl (fun w hw => hw.1.1) (by rw [Int.toNat_natCast]; exact grC_get l i 0 (by decide) hp) ?_
    (first | refine wX ?_ | exact wZ)
    refine brd_ne (fun h7 => ?_) (fun h7 => ?_)
    · (first | refine wX ?_ | exact wZ)
      refine ⟨i + 1, ⟨by omega, all_step ht hp (fun h => absurd h h7)⟩, by omega, ?_, by (repeat' (first | exact trivial | exact wkE_refl _ | refine And.intro ?_ ?_))⟩
      (repeat' (first | exact trivial | refine And.intro (by with_reducible rfl) ?_ | (with_reducible exact wkC_refl _) | (with_reducible exact wkCs_refl _) | refine And.intro ?_ ?_))
      all_goals first | rfl | exact av_int (by rw [wrap_i64 (by omega)]; omega)
    (first | refine wX ?_ | exact wZ)
    refine Nd.mk ⟨hsa, by omega, by omega⟩ ?_
    (first | refine wX ?_ | exact wZ)
    refine LdN.fld (.slice p.ia p.c.items.length p.ic) rfl (fun w hw => hw.1.1) (by rw [Int.toNat_natCast]; exact grC_get l i 4 (by decide) hp) ?_
    (first | refine wX ?_ | exact wZ)
    have hin := cellD_in (hc p hpm)
    refine loopS Nat (fun u => u ≤ p.c.items.length + 1 ∧ u % 2 = 0 ∧ ∀ i' k, k < i' → i' < u → i' < p.c.items.length → i' % 2 = 0 → k % 2 = 0 → keyB (l.map (·.c)) (p.c.items.getD i' 0) (p.c.items.getD k 0) = false) (fun u => mkS Tryz.f17.ntmps 0 [(0, .c (.v (.slice a l.length ca))), (4, .c (.v (.int .i64 (i : Int)))), (5, .c (.v (.slice p.ia p.c.items.length p.ic))), (6, .c (.v (.int .i64 (u : Int))))]) (fun u => p.c.items.length + 2 - u) rfl (fun _ => rfl) 0 ⟨Nat.zero_le _, rfl, fun _ _ _ h => by omega⟩ ?_ ?_
    · (repeat' (first | exact trivial | refine And.intro (by with_reducible rfl) ?_ | (with_reducible exact wkC_refl _) | (with_reducible exact wkCs_refl _) | refine And.intro ?_ ?_))
      all_goals rfl
    intro u ⟨hu, hu2, hno2⟩
    (first | refine wX ?_ | exact wZ)
    refine brd_dec (fun h2 => ?_) (fun h2 => ?_)
    · obtain ⟨x, hx⟩ : ∃ x, p.c.items[u]? = some x := ⟨_, List.getElem?_eq_getElem (by omega)⟩
      have hsi : p.ia.isSome = true := by
        cases hna : p.ia with
        | none => rw [hpo.ia hna] at hx; cases hx
        | some b => rfl
      (first | refine wX ?_ | exact wZ)
      refine loopS Nat (fun k => k ≤ u + 1 ∧ k % 2 = 0 ∧ ∀ k', k' < k → k' < u → k' % 2 = 0 → keyB (l.map (·.c)) (p.c.items.getD u 0) (p.c.items.getD k' 0) = false) (fun k => mkS Tryz.f17.ntmps 0 [(0, .c (.v (.slice a l.length ca))), (4, .c (.v (.int .i64 (i : Int)))), (5, .c (.v (.slice p.ia p.c.items.length p.ic))), (6, .c (.v (.int .i64 (u : Int)))), (7, .c (.v (.int .i64 (k : Int))))]) (fun k => u + 2 - k) rfl (fun _ => rfl) 0 ⟨Nat.zero_le _, rfl, fun _ h => by omega⟩ ?_ ?_
      · (repeat' (first | exact trivial | refine And.intro (by with_reducible rfl) ?_ | (with_reducible exact wkC_refl _) | (with_reducible exact wkCs_refl _) | refine And.intro ?_ ?_))
        all_goals rfl
      intro k ⟨hk, hk2, hnk⟩
      (first | refine wX ?_ | exact wZ)
      refine brd_dec (fun h3 => ?_) (fun h3 => ?_)
      · obtain ⟨y, hy⟩ : ∃ y, p.c.items[k]? = some y := ⟨_, List.getElem?_eq_getElem (by omega)⟩
        obtain ⟨hx0, hx1⟩ := hin x (List.mem_of_getElem? hx)
        obtain ⟨hy0, hy1⟩ := hin y (List.mem_of_getElem? hy)
        obtain ⟨xn, rfl⟩ : ∃ xn : Nat, x = (xn : Int) := ⟨x.toNat, by omega⟩
        obtain ⟨yn, rfl⟩ : ∃ yn : Nat, y = (yn : Int) := ⟨y.toNat, by omega⟩
        obtain ⟨q, hq⟩ : ∃ q, l[xn]? = some q := ⟨_, List.getElem?_eq_getElem (by omega)⟩
        obtain ⟨r, hr⟩ : ∃ r, l[yn]? = some r := ⟨_, List.getElem?_eq_getElem (by omega)⟩
        have hke : keyB (l.map (·.c)) (p.c.items.getD u 0) (p.c.items.getD k 0) = (decide ((xn : Int) = yn) || oneKeyB q.c r.c) := by
          rw [List.getD_eq_getElem?_getD, List.getD_eq_getElem?_getD, hx, hy]
          show keyB _ (xn : Int) (yn : Int) = _
          unfold keyB
          rw [at_map hq, at_map hr]
        (first | refine wX ?_ | exact wZ)
        -- an item of the table; u: its place, xn: its value
        refine Nd.mk ⟨hsi, by omega, by omega⟩ ?_
        (first | refine wX ?_ | exact wZ)
        refine LdN.one (.int .i64 (xn : Int)) rfl (fun w hw => (hw.1.2 p hpm).2) (by rw [Int.toNat_natCast]; show (iC p.c.items)[u * 1]? = _; rw [Nat.mul_one]; exact iC_get (by assumption)) ?_
        (first | refine wX ?_ | exact wZ)
        -- an item of the table; k: its place, yn: its value
        refine Nd.mk ⟨hsi, by omega, by omega⟩ ?_
        (first | refine wX ?_ | exact wZ)
        refine LdN.one (.int .i64 (yn : Int)) rfl (fun w hw => (hw.1.2 p hpm).2) (by rw [Int.toNat_natCast]; show (iC p.c.items)[k * 1]? = _; rw [Nat.mul_one]; exact iC_get (by assumption)) ?_
        (first | refine wX ?_ | exact wZ)
        have hoc := okey_c a ca l xn yn q r hq hr ha hl
        rw [← hke] at hoc
        refine callQ (hoc _ ?_) ?_
        · exact fun w hw => hw.1
        cases hkb : keyB (l.map (·.c)) (p.c.items.getD u 0) (p.c.items.getD k 0) with
        | true =>
          (first | refine wX ?_ | exact wZ)
          exact out_bool (hno fun h => h.2.2 p.c (List.mem_map.2 ⟨p, hpm, rfl⟩) h7 ⟨u, k, by omega, by omega, hu2, hk2, hkb⟩)
        | false =>
          (first | refine wX ?_ | exact wZ)
          refine ⟨k + 2, ⟨by omega, by omega, fun k' h4 h5 h6 => ?_⟩, by omega, ?_, by (repeat' (first | exact trivial | exact wkE_refl _ | refine And.intro ?_ ?_))⟩
          · by_cases e : k' = k
            · subst e; exact hkb
            · exact hnk k' (by omega) h5 h6
          · (repeat' (first | exact trivial | refine And.intro (by with_reducible rfl) ?_ | (with_reducible exact wkC_refl _) | (with_reducible exact wkCs_refl _) | refine And.intro ?_ ?_))
            all_goals first | rfl | exact av_int (by rw [wrap_i64 (by omega)]; omega)
      · (first | refine wX ?_ | exact wZ)
        refine ⟨u + 2, ⟨by omega, by omega, fun i' k' g3 g4 g5 g6 g8 => ?_⟩, by omega, ?_, by (repeat' (first | exact trivial | exact wkE_refl _ | refine And.intro ?_ ?_))⟩
        · by_cases e : i' = u
          · subst e; exact hnk k' (by omega) g3 g8
          · exact hno2 i' k' g3 (by omega) g5 g6 g8
        · (repeat' (first | exact trivial | refine And.intro (by with_reducible rfl) ?_ | (with_reducible exact wkC_refl _) | (with_reducible exact wkCs_refl _) | refine And.intro ?_ ?_))
          all_goals first | rfl | exact av_int (by rw [wrap_i64 (by omega)]; omega)
    · (first | refine wX ?_ | exact wZ)
      refine ⟨i + 1, ⟨by omega, all_step ht hp (fun _ ⟨i', k, h3, h4, h5, h6, h8⟩ => by rw [hno2 i' k h3 (by omega) h4 h5 h6] at h8; cases h8)⟩, by omega, ?_, by (repeat' (first | exact trivial | exact wkE_refl _ | refine And.intro ?_ ?_))⟩
      (repeat' (first | exact trivial | refine And.intro (by with_reducible rfl) ?_ | (with_reducible exact wkC_refl _) | (with_reducible exact wkCs_refl _) | refine And.intro ?_ ?_))
      all_goals first | rfl | exact av_int (by rw [wrap_i64 (by omega)]; omega)
  · have hil : i = l.length := by omega
    subst hil
    rw [List.take_length] at ht
    (first | refine wX ?_ | exact wZ)
    refine out_bool (hb.2 ⟨by omega, fun c hcm => ?_, fun c hcm => ?_⟩).symm
    · obtain ⟨p, hp, rfl⟩ := List.mem_map.1 hcm
      rw [hml]
      exact hc p hp
    · obtain ⟨p, hp, rfl⟩ := List.mem_map.1 hcm
      exact ht p hp
end Go.Proofs.YtahjbnfbilkbcaaGreatDoor

/-
  AX, forty-ninth text: regions that draw their order, by their states: first what is read under a fact, then a family of states that is closed under every operation that may come next.
-/
namespace Go.AX

/-- What is blind, or read under a fact. -/
def frontK (P : Program) (C : World → Prop) (o : Oper) (s : List AV) (K : AV → Prop) : Prop :=
  match o.op with
  | .load _ _ => ∃ x, ReadC P C o s K x
  | .indexAddr _ _ _ => ∃ x, ReadC P C o s K x
  | _ => blindK P o s K
def execF (P : Program) (C : World → Prop) (ops : Array Oper) (l : List Nat) : List AV → (List AV → Prop) → Prop :=
  List.rec (motive := fun _ => List AV → (List AV → Prop) → Prop)
    (fun s K => K s)
    (fun k _ ih s K => pickK ops k fun o => wantK ops o s (fun s => frontK P C o s fun av => putK s o.dst av fun s' => ih s' K)
      (fun s => putK s o.dst (.c (.v undef)) fun s' => ih s' K)) l
/-- One step of a state. -/
def stepJ (P : Program) (ops : Array Oper) (i : Nat) (s : List AV) (H : List Ent) (K : Ex → List AV → List Ent → Prop) (J : List AV → List Ent → Prop) : Prop :=
  pickK ops i fun o => wantK ops o s (fun s => stepK P o s H fun out H' => match out with
    | .val av => putK s o.dst av fun s' => J s' H'
    | .vals _ => False
    | .pan c => K (.pan c) s H') (fun s => putK s o.dst (.c (.v undef)) fun s' => J s' H)
/-- A family of states, closed under what may come next; the number is how many are left. -/
def ClosedJ (P : Program) (ops : Array Oper) (C : World → Prop) (K : Ex → List AV → List Ent → Prop) (J : Nat → Array Bool → List AV → List Ent → Prop) : Prop :=
  ∀ n ls s H, J n ls s H → (∀ w, Facts H w → C w) ∧ ((Region.ready .any ops ls = [] ∧ K .normal s H) ∨ (Region.ready .any ops ls ≠ [] ∧ ∃ m, n = m + 1 ∧ ∀ i ∈ Region.ready .any ops ls, stepJ P ops i s H K (J m (ls.setIfInBounds i true))))
section
variable {P : Program} {ops : Array Oper} {C : World → Prop} {K : Ex → List AV → List Ent → Prop} {ρ0 : List Loc} {S0 : Nat → Prop} {H0 : List Ent} {w0 : World} {dfs : List Deferred}
theorem closed_sound {J : Nat → Array Bool → List AV → List Ent → Prop} (hJ : ClosedJ P ops C K J) : ∀ (n : Nat) (ls : Array Bool) (s : List AV) (H : List Ent), J n ls s H → ∀ (ρ : List Loc) (S : Nat → Prop) (w : World) (a : Act), Ev ρ0 S0 H0 w0 ρ S H w → a.defers = dfs → Sat ρ S H w → RelS ρ s a.tmps.toList →
    AnyC P ops (Post ρ0 S0 H0 w0 dfs K) C [] n ls a w := by
  intro n
  induction n with
  | zero =>
    intro ls s H h ρ S w a hev hdf hs hr
    obtain ⟨hC, h2⟩ := hJ 0 ls s H h
    rcases h2 with ⟨h3, h4⟩ | ⟨_, m, h3, _⟩
    · exact ⟨fun _ => hC w hs.facts, h3, ρ, S, s, H, .normal, hs, hev, hr, hdf, trivial, h4⟩
    · cases h3
  | succ n ih =>
    intro ls s H h ρ S w a hev hdf hs hr
    obtain ⟨hC, h2⟩ := hJ (n + 1) ls s H h
    refine ⟨fun _ => hC w hs.facts, fun h0 => ?_, fun i hi => ?_⟩
    · rcases h2 with ⟨_, h4⟩ | ⟨h3, _⟩
      · exact ⟨ρ, S, s, H, .normal, hs, hev, hr, hdf, trivial, h4⟩
      · exact absurd h0 h3
    · rcases h2 with ⟨h3, _⟩ | ⟨_, m, hm, h4⟩
      · rw [h3] at hi; cases hi
      · obtain rfl : n = m := by omega
        obtain ⟨o, ho, hq⟩ := pickK_spec (h4 i hi)
        unfold wpOp
        simp only [ho]
        rcases wantK_spec hq hr with ⟨hw, s', h', hr'⟩ | ⟨hw, s', h', hr'⟩
        · rw [if_pos hw]
          refine .inl (step_sound (K := fun out H' => match out with
            | .val av => putK s' o.dst av fun s2 => J n (ls.setIfInBounds i true) s2 H'
            | .vals _ => False
            | .pan c => K (.pan c) s' H') h' hs hr' (fun ρ1 S1 H1 w1 av v hs1 hev1 hrel hK => ?_) (fun ρ1 S1 H1 w1 c hs1 hev1 hK => ?_) fun _ _ h => h)
          · obtain ⟨s2, hK2, hput⟩ := putK_spec hK
            have hrs : RelS ρ1 s' a.tmps.toList := by obtain ⟨t, ht⟩ := hev1.pre; rw [ht]; exact RelS_pre t hr'
            exact ih _ s2 H1 hK2 ρ1 S1 w1 _ (hev.trans hev1) (by rw [put_defers]; exact hdf) hs1 (hput ρ1 a v hrs hrel)
          · exact ⟨ρ1, S1, s', H1, .pan c, hs1, hev.trans hev1, trivial, hdf, rfl, hK⟩
        · rw [if_neg (by simp [hw])]
          obtain ⟨s2, hK2, hput⟩ := putK_spec h'
          exact ih _ s2 H hK2 ρ S w _ hev (by rw [put_defers]; exact hdf) hs (hput ρ a undef hr' rfl)
theorem front_sound {Q : Exit → Act → World → Prop} {ρ : List Loc} {w : World} {g : Nat} {Ks : List AV → Prop} {ls2 : Array Bool} (hsel : Region.noSelect ops = true) (hQ : ∀ c a d v w, Q (.panic c) (Act.put a d v) w → Q (.panic c) a w)
    (next : ∀ s a, Ks s → RelS ρ s a.tmps.toList → a.defers = dfs → AnyC P ops Q C [] g ls2 a w) : ∀ (l : List Nat) (s : List AV) (ls : Array Bool) (a : Act), execF P C ops l s Ks → preB .any ops l ls = true → setAll ls l = ls2 → RelS ρ s a.tmps.toList → a.defers = dfs →
      AnyC P ops Q C [] (l.length + g) ls a w
  | [], s, ls, a, h, _, he, hr, hd => by
    have he' : ls = ls2 := he
    subst he'
    rw [List.length_nil, Nat.zero_add]; exact next s a h hr hd
  | k :: l, s, ls, a, h0, hB, he, hr, hd => by
    have h : pickK ops k fun o => wantK ops o s (fun s => frontK P C o s fun av => putK s o.dst av fun s' => execF P C ops l s' Ks) (fun s => putK s o.dst (.c (.v undef)) fun s' => execF P C ops l s' Ks) := h0
    obtain ⟨o, ho, hq⟩ := pickK_spec h
    simp only [preB, Bool.and_eq_true] at hB
    have hk1 : k ∈ Region.ready .any ops ls := by simpa using hB.1.1
    rw [List.length_cons, Nat.add_right_comm]
    have fin : ∀ (v : Value) (s2 : List AV), Yields P ops o v a → execF P C ops l s2 Ks → RelS ρ s2 (a.put o.dst v).tmps.toList → AnyC P ops Q C [] (l.length + g + 1) ls a w := fun v s2 hy hK hr2 =>
      anyC_blind ho (Region.noSelect_spec hsel) (fun c a w h => hQ c a _ _ w h) (by simp) _ ls _ w (fun j oj hj hne hun hno => Region.free_spec ho hB.1.2 j oj hj hne hun hno) hk1 hy
        (front_sound hsel hQ next l s2 _ _ hK hB.2 he hr2 (by rw [put_defers]; exact hd))
    have finR : ∀ (v : Value) (s2 : List AV), YR P ops C o v a → execF P C ops l s2 Ks → RelS ρ s2 (a.put o.dst v).tmps.toList → AnyC P ops Q C [] (l.length + g + 1) ls a w := fun v s2 hy hK hr2 =>
      anyC_read ho (Region.noSelect_spec hsel) (fun c a w h => hQ c a _ _ w h) _ ls _ w (fun j oj hj hne hun hno => Region.free_spec ho hB.1.2 j oj hj hne hun hno) hk1 hy
        (front_sound hsel hQ next l s2 _ _ hK hB.2 he hr2 (by rw [put_defers]; exact hd))
    rcases wantK_spec hq hr with ⟨hw, s', h', hr'⟩ | ⟨hw, s', h', hr'⟩
    · by_cases hld : (∃ T x, o.op = .load T x) ∨ ∃ T x i, o.op = .indexAddr T x i
      · have h2 : ∃ x, ReadC P C o s' (fun av => putK s' o.dst av fun s2 => execF P C ops l s2 Ks) x := by
          have h3 := h'
          unfold frontK at h3
          rcases hld with ⟨T, y, hop⟩ | ⟨T, y, i, hop⟩
          · simp only [hop] at h3
            exact h3
          · simp only [hop] at h3
            exact h3
        obtain ⟨x, rc⟩ := h2
        obtain ⟨s2, hK2, hput⟩ := putK_spec rc.next
        refine finR x s2 (.inl ⟨hw, fun w' hw' => ?_⟩) hK2 (hput ρ a x hr' rfl)
        rw [execOp_congr o rc.sel (ρ' := plainEv s') fun y hy => allPlain_eval hr' _ rc.plain y (Array.mem_toList_iff.2 hy)]
        exact rc.run w' hw'
      · have h2 : blindK P o s' fun av => putK s' o.dst av fun s2 => execF P C ops l s2 Ks := by
          have h3 := h'
          unfold frontK at h3
          split at h3
          · rename_i T x hop
            exact absurd (.inl ⟨T, x, hop⟩) hld
          · rename_i T x i hop
            exact absurd (.inr ⟨T, x, i, hop⟩) hld
          · exact h3
        obtain ⟨av, v, hK, hrel, hrun⟩ := blind_sound (K := fun av => putK s' o.dst av fun s2 => execF P C ops l s2 Ks) h2 hr'
        obtain ⟨s2, hK2, hput⟩ := putK_spec hK
        exact fin v s2 (.inl ⟨hw, hrun⟩) hK2 (hput ρ a v hr' hrel)
    · obtain ⟨s2, hK2, hput⟩ := putK_spec h'
      exact fin undef s2 (.inr ⟨hw, rfl⟩) hK2 (hput ρ a undef hr' rfl)
end
/-- A region by its states. -/
theorem DrawN.walk {P : Program} {ops : Array Oper} {s : List AV} {H : List Ent} {K : Ex → List AV → List Ent → Prop} (hm : P.follows .mixedOrders = true) (C : World → Prop) (rd : List Nat) (n : Nat) (J : Nat → Array Bool → List AV → List Ent → Prop) (hsel : Region.noSelect ops = true) (hn : decide (ops.size = rd.length + n) = true) (hrd : preB .any ops rd (Array.replicate ops.size false) = true)
    (hJ : ClosedJ P ops C K J) (next : execF P C ops rd s fun s1 => J n (setAll (Array.replicate ops.size false) rd) s1 H) : DrawN P ops s H K :=
  .sem fun id ρ S w a hs hr => by
    have hn := of_decide_eq_true hn
    refine wp_region_any hm ?_
    have e0 : wpAny P .any ops (Post ρ S H w a.defers K) ops.size = wpAny P .any ops (Post ρ S H w a.defers K) (rd.length + n) := by rw [← hn]
    rw [e0]
    refine AnyC.any _ _ _ _ (front_sound (C := C) (dfs := a.defers) (ρ := ρ) hsel (fun c a d v w h => h.put) (fun s1 a1 h1 hr1 hd1 => ?_) rd s _ a next hrd rfl hr rfl)
    exact closed_sound hJ n _ s1 H h1 ρ S _ a1 (Ev.drew ρ S H w) hd1 (hs.heap rfl) hr1
/-- What is shown behind a region is used behind it. -/
theorem SemR.mono {P : Program} {ops : Array Oper} {s : List AV} {H : List Ent} {K K' : Ex → List AV → List Ent → Prop} (h : SemR P ops s H K') (hk : ∀ ex s' H', K' ex s' H' → K ex s' H') : SemR P ops s H K :=
  fun id ρ S w a hs hr => wp_mono (h id ρ S w a hs hr) fun e a' w' ⟨ρ', S', s', H', ex, h1, h2, h3, h4, h5, h6⟩ => ⟨ρ', S', s', H', ex, h1, h2, h3, h4, h5, hk _ _ _ h6⟩
/-- len(s) -/
theorem BlindW.lenS {P : Program} {o : Oper} {s : List AV} {K : AV → Prop} {x : Operand} {T : TypeId} {args : Array Operand} {ts : Array TypeId} {b : ByteArray} (ho : o.op = .call { callee := .builtin .len, args := args, argTypes := ts }) (ha : args = #[x]) (ht : ts = #[T]) (hu : P.underlying T = some .string)
    (hx : opv s x = .c (.v (.string b))) (hk : K (.c (.v (.int .i64 (b.size : Int))))) : ∃ x, BlindW P o s K x := by
  subst ha ht
  refine ⟨.int .i64 (b.size : Int), ?_, fun w => execOp_blt ho fun consts => ?_, hk⟩
  · rw [ho]
    show allPlain s [x] = true
    simp [allPlain, hx]
  · have he : plainEv s x = .string b := by unfold plainEv; rw [hx]
    simp [builtin, Builtin.len_, run_underlying hu, he, goInt]
end Go.AX

/-
  Contracts: slices.Values and slices.AppendSeq at strings (turned from the guide's worked callers of iterators).
-/
namespace Go.Proofs.YtahjbnfbilkbcaaGreatDoor
open Go.RowKit Go.Shelf Go.AX Go.Proofs

attribute [local go_sem] Oper.semAt_some

/-- What has come when k rounds are over. -/
def upto {α : Type} (f : Nat → α) (k : Nat) : List α := (List.range k).map f
theorem upto_succ {α : Type} (f : Nat → α) (k : Nat) : upto f (k + 1) = upto f k ++ [f k] := by simp [upto, List.range_succ]
theorem upto_length {α : Type} (f : Nat → α) (k : Nat) : (upto f k).length = k := by simp [upto]
theorem upto_all (zs : List (List UInt8)) : upto (fun j => zs[j]?.getD []) zs.length = zs := by
  apply List.ext_getElem
  · simp [upto]
  · intro i h1 h2
    simp [upto, h2]
theorem upto_take (zs : List (List UInt8)) {k : Nat} (hk : k ≤ zs.length) : upto (fun j => zs[j]?.getD []) k = zs.take k := by
  apply List.ext_getElem
  · simp [upto, hk]
  · intro i h1 h2
    have : i < zs.length := by simp [upto] at h1; omega
    simp [upto, this]

set_option maxRecDepth 100000 in
set_option maxHeartbeats 4000000 in
theorem values1_in (F : Fence) (n : Nat) (h7 : F.fn 114) (hro : F.round = none) (hn : 1 ≤ n) (l Bs n₀ b off len cap : Nat) (zs : List (List UInt8)) (hreach : len * 16 ≤ 140737488351232) (hb : b < n₀) (J Jx : List (List UInt8) → World → Prop)
    (hY : ∀ pre x W, J pre W → pre.length < len → YieldAt F (n - 1) Tryz.prog l #[.string (bs x)] W fun e W' =>
      (e = .returned (.bool true) ∧ J (pre ++ [x]) W' ∧ Below n₀ W W') ∨ (e = .returned (.bool false) ∧ Jx (pre ++ [x]) W'))
    (W : World) (hBs : W.cell? ⟨Bs, 0, none⟩ = some (.slice (some ⟨b, off, none⟩) len cap)) (hc : ∀ j, j < len → W.cell? ⟨b, off + j, none⟩ = some (.string (bs (zs[j]?.getD [])))) (h0 : J [] W) :
    CallsIn F n Tryz.prog 114 #[.func (.yield l) #[] #[], .pointer (some ⟨Bs, 0, none⟩)] W fun e W' => (∃ v, e = .returned v) ∧
      ((∃ ys, ys = upto (fun j => zs[j]?.getD []) len ∧ J ys W') ∨ (∃ pre, (∃ k, k ≤ len ∧ pre = upto (fun j => zs[j]?.getD []) k) ∧ Jx pre W')) := by
  refine callsIn_of_wp Tryz.func114 rfl h7 ?_ hro
  simp only [Tryz.ntmps114, List.size_toArray, List.length_cons, List.length_nil, Nat.reduceAdd, Nat.reduceSub, Array.replicate_succ, Array.replicate_zero, List.push_toArray, List.append_toArray, List.nil_append, List.cons_append]
  gi_wp2
  gi_loopw [7] (fun i wr => ∃ k : Nat, k ≤ len ∧ i = .int .i64 k ∧ J (upto (fun j => zs[j]?.getD []) k) wr ∧ Below n₀ W wr)
    (fun i _ => len - (intOf i).toNat)
  case atStart => exact ⟨0, Nat.zero_le _, rfl, h0, Below.refl _ _⟩
  case round =>
    obtain ⟨k, hk, rfl, hJs, hnx⟩ := hrel
    have hcx : k < len → wr.cell? ⟨b, off + k, none⟩ = some (.string (bs (zs[k]?.getD []))) := fun h => (hnx.cell (p := ⟨b, off + k, none⟩) hb).trans (hc k h)
    by_cases hlt : k < len
    · obtain ⟨fn, tmps, assign, body, hy, hR⟩ := hY _ (zs[k]?.getD []) wr hJs (by rw [upto_length]; exact hlt)
      have hcx' := hcx hlt
      gi_wp2
      refine hR.mono ?_
      rintro e W3 (⟨rfl, hJ3, hk3⟩ | ⟨rfl, hJx3⟩)
      · gi_wp2
        go_roundw
        case rel => exact ⟨k + 1, by omega, by simp, by rw [upto_succ]; exact hJ3, hnx.trans hk3⟩
        case measure => simp [intOf]; omega
      · gi_wp2
        refine bodyPost_ret (results_none rfl _ _ _) rfl ?_
        exact ⟨⟨_, rfl⟩, .inr ⟨_, ⟨k + 1, by omega, (upto_succ _ _).symm⟩, hJx3⟩⟩
    · obtain rfl : k = len := by omega
      gi_wp2
      go_end0
      exact ⟨⟨_, rfl⟩, .inl ⟨_, rfl, hJs⟩⟩
/-- The slice value sv holds the strings zs, in a block below n₀; or it is nil and there are none. -/
def StrsAt (n₀ : Nat) (W : World) (sv : Value) (zs : List (List UInt8)) : Prop :=
  (∃ a cap, sv = .slice a 0 cap ∧ zs = []) ∨ ∃ b off cap, sv = .slice (some ⟨b, off, none⟩) zs.length cap ∧ b < n₀ ∧ ∀ j, j < zs.length → W.cell? ⟨b, off + j, none⟩ = some (.string (bs (zs[j]?.getD [])))
theorem StrsAt.below {n₀ : Nat} {A B : World} (h : Below n₀ A B) {sv : Value} {zs : List (List UInt8)} : StrsAt n₀ A sv zs → StrsAt n₀ B sv zs
  | .inl e => .inl e
  | .inr ⟨b, off, cap, e, hb, hc⟩ => .inr ⟨b, off, cap, e, hb, fun j hj => (h.cell (p := ⟨b, off + j, none⟩) hb).trans (hc j hj)⟩

set_option maxRecDepth 100000 in
set_option maxHeartbeats 1000000 in
theorem values1_nil_in (F : Fence) (n : Nat) (h7 : F.fn 114) (hro : F.round = none) (l Bs : Nat) (a : Option Addr) (cap : Nat) (J : List (List UInt8) → World → Prop) (W : World) (hBs : W.cell? ⟨Bs, 0, none⟩ = some (.slice a 0 cap)) (h0 : J [] W) :
    CallsIn F n Tryz.prog 114 #[.func (.yield l) #[] #[], .pointer (some ⟨Bs, 0, none⟩)] W fun e W' => (∃ v, e = .returned v) ∧ J [] W' := by
  refine callsIn_of_wp Tryz.func114 rfl h7 ?_ hro
  simp only [Tryz.ntmps114, List.size_toArray, List.length_cons, List.length_nil, Nat.reduceAdd, Nat.reduceSub, Array.replicate_succ, Array.replicate_zero, List.push_toArray, List.append_toArray, List.nil_append, List.cons_append]
  gi_wp2
  gi_loopw [7] (fun i wr => i = .int .i64 0 ∧ J [] wr) (fun _ _ => 0)
  case atStart => exact ⟨rfl, h0⟩
  case round =>
    obtain ⟨rfl, hJs⟩ := hrel
    gi_wp2
    go_end0
    exact ⟨⟨_, rfl⟩, hJs⟩

theorem values_stops (F : Fence) (n : Nat) (h7 : F.fn 114) (hro : F.round = none) (hn : 1 ≤ n) (Bs n₀ : Nat) (sv : Value) (zs : List (List UInt8)) (hreach : zs.length * 16 ≤ 140737488351232) (w : World) (hBs : Bs < w.heap.size) (hn₀ : n₀ ≤ w.heap.size)
    (hc : w.cell? ⟨Bs, 0, none⟩ = some sv) (hI : StrsAt n₀ w sv zs) :
    SeqStopsK F n Tryz.prog 114 #[.pointer (some ⟨Bs, 0, none⟩)] (fun x : List UInt8 => #[Value.string (bs x)]) (Below n₀) (fun ys => ys = zs) (fun pre => pre <+: zs) zs.length w := fun l J Jx W hW _ _ hY h0 => by
  have hc' := (hW.cell (p := ⟨Bs, 0, none⟩) hBs).trans hc
  rcases hI.below (hW.mono hn₀) with ⟨a, cap, rfl, rfl⟩ | ⟨b, off, cap, rfl, hb, hcs⟩
  · exact (values1_nil_in F n h7 hro l Bs a cap J W hc' h0).mono fun e W' ⟨he, hj⟩ => ⟨he, .inl ⟨_, rfl, hj⟩⟩
  · refine (values1_in F n h7 hro hn l Bs n₀ b off zs.length cap zs hreach hb J Jx hY W hc' hcs h0).mono ?_
    rintro e W' ⟨he, ⟨ys, rfl, hj⟩ | ⟨pre, ⟨k, hk, rfl⟩, hj⟩⟩
    · exact ⟨he, .inl ⟨_, upto_all zs, hj⟩⟩
    · exact ⟨he, .inr ⟨_, by rw [upto_take zs hk]; exact List.take_prefix _ _, hj⟩⟩

theorem info_str : (Tryz.prog.info? 9).map (fun i => (i.zero, i.size, i.bytes)) = some (some (.string ⟨#[]⟩), 1, 16) := by kernel_rfl

set_option maxRecDepth 100000 in
set_option maxHeartbeats 4000000 in
/-- AppendSeq(nil, Values of zs): a new slice that holds zs. -/
theorem appendSeq_in (F : Fence) (n : Nat) (h3 : F.fn 127) (h5 : F.fn 114) (hro : F.round = none) (hn : 3 ≤ n) (Bs : Nat) (sv : Value) (zs : List (List UInt8)) (hlen : zs.length ≤ maxLen) (hbytes : zs.length * 16 ≤ 140737488351232) (w : World) (hBs : Bs < w.heap.size)
    (hcs : w.cell? ⟨Bs, 0, none⟩ = some sv) (hL : StrsAt w.heap.size w sv zs) :
    CallsIn F n Tryz.prog 127 #[.slice none 0 0, .func (.func 114) #[] #[.pointer (some ⟨Bs, 0, none⟩)]] w fun e W' => ∃ v, e = .returned v ∧ W'.ownsRow w.heap.size 9 1 v zs.length (zs.map fun x => Value.string (bs x)) ∧ Below w.heap.size w W' := by
  have h1 : 1 ≤ n := by omega
  obtain ⟨i0, hi, hz0, hz1, hz2⟩ := info_parts info_str
  refine callsIn_of_wp_marks Tryz.func127 rfl h3 ?_ hro
  simp only [Tryz.ntmps127, List.size_toArray, List.length_cons, List.length_nil, Nat.reduceAdd, Nat.reduceSub, Array.replicate_succ, Array.replicate_zero, List.push_toArray, List.append_toArray, List.nil_append, List.cons_append]
  gi_wp2
  have bO := Boxed.new w 40 (.slice none 0 0)
  have hB0 : Below w.heap.size w (w.alloc (.cells #[.slice none 0 0] 40)) := (Below.refl _ w).alloc (Nat.le_refl _) _
  refine wpIn_rangeFunc_ownG hro h1 (gf := 114) (lb := #[.pointer (some ⟨Bs, 0, none⟩)]) rfl h5 (enters_of Tryz.func114 (by kernel_rfl) rfl)
    (values_stops F (n - 1) h5 hro (by omega) Bs w.heap.size sv zs hbytes _ (by simp; omega) (by simp) ((hB0.cell (p := ⟨Bs, 0, none⟩) hBs).trans hcs) (hL.below hB0)) belowK_t (belowK_b (by simp)) (Below.refl _ _) (fun _ => rfl)
    (fun pre W => (∃ v, Boxed W w.heap.size 40 v ∧ W.ownsRow w.heap.size 9 1 v pre.length (pre.map fun x => Value.string (bs x)) ∧ True) ∧ Below w.heap.size w W)
    (fun _ _ _ => False)
    (OwnFrom.and (Own.from (holdsRow_own w.heap.size w.heap.size 40 9 1 (fun pre : List (List UInt8) => pre.length) (fun pre => pre.map fun x => Value.string (bs x)) (fun _ _ => True)) _) (ownFrom_below (Nat.le_refl _) (by simp)))
    (fun _ _ _ _ _ hs _ _ => hs)
    ⟨⟨_, bO, World.ownsRow_nil _ _ _ _, trivial⟩, hB0⟩
    (fun x => { tmps := #[.slice none 0 0, .func (.func 114) #[] #[.pointer (some ⟨Bs, 0, none⟩)], .pointer (some ⟨w.heap.size, 0, none⟩), undef, .slice none 0 0, .string (bs x), .func (.func 114) #[] #[.pointer (some ⟨Bs, 0, none⟩)], .string (bs x), undef, undef, undef, undef, undef], defers := [] }) ?assign ?body ?done ?stop
  case assign =>
    intro l x W K hK
    gi_wp2
    exact hK
  case body =>
    rintro l pre x W ⟨⟨v, hv, hrow, _⟩, hB⟩ hlt
    have hc := hv.cell
    gi_wp2_with (gi_at_builtin; refine wpListIn_append_own _ rfl _ _ 40 rfl w.heap.size 9 i0 (.string ⟨#[]⟩) 1 16 Tryz.underlying40 hi hz0 hz1 hz2 rfl (by decide) _ _ _ rfl (hrow.alloc _) ⟨W.heap.size, 0, none⟩ 1 1 [.string (bs x)] rfl rfl (cell_one_new _ _ _) (by simp [Value.oneCell']) (by omega) (by omega) (by have := hB.size; simp; omega) ?_; intro v' w1 hown' hgrow _; obtain ⟨g', cap', rfl⟩ := ownsRow_succ hown'; obtain ⟨hv1, hv2, hr2, hk2, hb2⟩ := hv.appended (by decide) hrow hB.size (Nat.le_refl _) hown' hgrow; have hc1 := hv1.cell; have hf1 := hv1.frozen)
    exact ⟨hk2.from _, hb2, ⟨_, hv2, by simpa using hr2, trivial⟩, hB.trans hb2⟩
  case done =>
    rintro D ys W hD rfl ⟨⟨v, hv, hrow, _⟩, hB⟩ hK
    have hc := hv.cell
    gi_wp2
    refine ⟨by simp, .inl ⟨_, _, rfl, run_takeDeferred hK, ?_⟩⟩
    exact ⟨_, results_tmp rfl _ _ _, v, rfl, ownsRow_putObj hrow _ hK rfl, hB.trans (belowK_b (w := w) (Nat.le_refl _) W D _ _ (by simp at hD; omega) hK rfl rfl)⟩
  case stop =>
    rintro D c pre W _ _ h _
    exact h.elim
end Go.Proofs.YtahjbnfbilkbcaaGreatDoor

/-
  AX, fiftieth text: a call over plain values that hands back a slice of its own, with room behind it, perhaps nil.
-/
namespace Go.AX
open Go.RowKit

theorem Sat.addApp {ρ : List Loc} {S : Nat → Prop} {H : List Ent} {w w' : World} {T : TypeId} {sz n cap g : Nat} {ys : List Value} (hs : Sat ρ S H w) (h : Below w.heap.size w w') (hg : w.heap.size ≤ g) (hrow : RowF T sz n ys g cap w') :
    Sat (ρ ++ [⟨0, 0⟩]) S (H ++ [.app T sz ys (some ⟨g, 0, none⟩) n cap]) w' ∧ Ev ρ S H w (ρ ++ [⟨0, 0⟩]) S (H ++ [.app T sz ys (some ⟨g, 0, none⟩) n cap]) w' := by
  have h1 := hs.below h
  have hcase : ∀ (i : Nat) (e : Ent), (H ++ [Ent.app T sz ys (some ⟨g, 0, none⟩) n cap])[i]? = some e → (i < H.length ∧ H[i]? = some e) ∨ (i = H.length ∧ e = .app T sz ys (some ⟨g, 0, none⟩) n cap) := fun i e he => by
    by_cases hi : i < H.length
    · rw [List.getElem?_append_left hi] at he; exact .inl ⟨hi, he⟩
    · have hi2 : i = H.length := by
        have := (List.getElem?_eq_some_iff.1 he).1
        simp at this; omega
      subst hi2
      simp at he
      exact .inr ⟨rfl, he.symm⟩
  have hb2 : ∀ (i : Nat) (e : Ent) (b : Nat), (H ++ [Ent.app T sz ys (some ⟨g, 0, none⟩) n cap])[i]? = some e → entB (ρ ++ [⟨0, 0⟩]) i e b → (H[i]? = some e ∧ entB ρ i e b) ∨ (i = H.length ∧ b = g) := fun i e b he hb => by
    rcases hcase i e he with ⟨hi, he'⟩ | ⟨hi, rfl⟩
    · rw [entB_pre _ (by rw [hs.len]; exact hi)] at hb
      exact .inl ⟨he', hb⟩
    · exact .inr ⟨hi, (Option.some.inj hb).symm⟩
  refine ⟨⟨by simp [hs.len], fun i e he => ?_, fun i j e f b he hf heb hfb => ?_, fun b ⟨i, e, he, hb⟩ hn => ?_, h1.low⟩, ⟨⟨[⟨0, 0⟩], rfl⟩, h.os, h.tape, h.output, h.size, fun b hb _ => h.block b hb, fun b hb => .inl hb, fun b ⟨i, e, he, hb⟩ => ?_⟩⟩
  · rcases hcase i e he with ⟨hi, he'⟩ | ⟨hi, rfl⟩
    · have := (hs.ent i e he').move (w' := w') [⟨0, 0⟩] (fun b hb => h.block _ (hs.blk_lt he' hb)) fun b hb => h.block b (hs.low b hb)
      exact this
    · exact .inr ⟨g, rfl, hrow⟩
  · rcases hb2 i e b he heb with ⟨a1, a2⟩ | ⟨a1, a2⟩ <;> rcases hb2 j f b hf hfb with ⟨b1, b2⟩ | ⟨b1, b2⟩
    · exact hs.inj i j e f b a1 b1 a2 b2
    · have := hs.blk_lt a1 a2; omega
    · have := hs.blk_lt b1 b2; omega
    · omega
  · rcases hb2 i e b he hb with ⟨a1, a2⟩ | ⟨_, a2⟩
    · exact hs.out b ⟨i, e, a1, a2⟩ hn
    · have := hs.low b hn; omega
  · rcases hb2 i e b he hb with ⟨a1, a2⟩ | ⟨_, a2⟩
    · exact .inl ⟨i, e, a1, a2⟩
    · exact .inr (by omega)
theorem SpecH.rawN {P : Program} {f : FuncId} {xs : List Value} {H : List Ent} {K : Out → List Ent → Prop} {T : TypeId} {sz n : Nat} {ys : List Value} (ok : CallOk P f)
    (h : ∀ w, Facts H w → Calls P f xs.toArray w fun e w' => ∃ v, e = .returned v ∧ w'.ownsRow w.heap.size T sz v n ys ∧ Below w.heap.size w w')
    (hk0 : n = 0 → snocK H (.app T sz [] none 0 0) 0 fun H' _ => K (.val (.c (.v (.slice none 0 0)))) H')
    (hk : ∀ b cap : Nat, n ≤ cap → snocK H (.app T sz ys (some ⟨b, 0, none⟩) n cap) 0 fun H' _ => K (.val (.c (.v (.slice (some ⟨b, 0, none⟩) n cap)))) H') : SpecH P f (pvs xs) H K := by
  simp only [snocK_eq] at hk hk0
  refine ⟨ok, fun ρ S w vs hs hr => ?_⟩
  obtain rfl := RelS_pvs hr
  refine (h w hs.facts).mono fun e w' ⟨v, he, hrow, bel⟩ => ?_
  rcases hrow.2 with ⟨rfl, h0⟩ | ⟨g, cap, cur, rfl, hg, hb, h1, h2, h3, h4⟩
  · have hs' := (hs.below bel).pad [.app T sz [] none 0 0] rfl
    obtain ⟨t, hs2, hev2⟩ := hs'
    refine ⟨ρ ++ t, S, _, .val (.c (.v (.slice none 0 0))), hs2, ?_, ⟨_, he, rfl⟩, hk0 h0⟩
    exact (below_ev (S := S) (S' := S) (ρ := ρ) (H := H) (H' := H) [] bel (fun b hb => .inl hb) (fun b hb => by simpa using hb)).trans (by simpa using hev2)
  · have hR : RowF T sz n ys g cap w' := ⟨cur, (0, 0), ⟨hb, .inl rfl⟩, hrow.1, h1, h2, h3, h4⟩
    obtain ⟨hs2, hev2⟩ := hs.addApp bel hg hR
    exact ⟨_, S, _, .val (.c (.v (.slice (some ⟨g, 0, none⟩) n cap))), hs2, hev2, ⟨_, he, rfl⟩, hk g cap h1⟩
end Go.AX

/-
  Contracts: slices.AppendSeq, Sort and Compact at strings, over slices of one's own.
-/
namespace Go.Proofs.YtahjbnfbilkbcaaGreatDoor
open Go.RowKit Go.AX Go.Core Go.Sort Go.Proofs
set_option maxRecDepth 20000

theorem holds_row {T : TypeId} {b cap : Nat} {zs : List (List UInt8)} {w : World} (h : RowF T 1 zs.length (strC zs) b cap w) : Holds encStr w b 0 zs.toArray := by
  obtain ⟨arr, ⟨lo, hi⟩, ⟨hb, hfr⟩, h1, h2, h3, h4, h5⟩ := h
  intro j hj
  have hj' : j < zs.length := by simpa using hj
  have h6 : (arr.toList.take (zs.length * 1))[j]? = (strC zs)[j]? := by rw [h5]
  rw [List.getElem?_take_of_lt (by omega)] at h6
  unfold strC at h6
  rw [List.getElem?_map, List.getElem?_eq_getElem hj'] at h6
  refine ⟨?_, ?_⟩
  · simp only [World.cell?, hb, Nat.zero_add]
    simp only [Option.isSome_none, Bool.false_eq_true, if_false]
    rw [Array.getElem?_toList] at h6
    rw [h6, getElem!_pos zs.toArray j (by simpa using hj')]
    rfl
  · simp only [World.frozen?, hb, Nat.zero_add]
    rcases hfr with hfr | hfr
    · cases hfr; simp
    · have : ¬ lo ≤ j := by
        simp only at hfr
        have : j < arr.size := by omega
        omega
      simp [this]
theorem row_put {T : TypeId} {b cap k : Nat} {zs ts : List (List UInt8)} {w : World} {os : Array Obj} (h : RowF T 1 zs.length (strC zs) b cap w) (hb : b < w.heap.size) (hl : ts.length = zs.length) : RowF T 1 zs.length (strC ts) b cap (grow (putRow encStr (Sort.ahead w k) b 0 ts.toArray) os) := by
  obtain ⟨arr, fr, ⟨hh, hfr⟩, h1, h2, h3, h4, h5⟩ := h
  have hsz : (putCells encStr 0 ts.toArray arr).size = arr.size := by simp [putCells]
  refine ⟨putCells encStr 0 ts.toArray arr, fr, ⟨?_, by rw [hsz]; exact hfr⟩, by simp [strC, hl], h2, h3, by rw [hsz]; exact h4, ?_⟩
  · rw [heap_grow_old _ _ (by simp [putRow, mapBlock, Sort.ahead, hb])]
    simp [putRow, mapBlock, Sort.ahead, Array.getElem?_modify, hh, onCells]
  · rw [Nat.mul_one, ← hl]
    exact take_putCells arr ts (by omega)
def sortS (zs : List (List UInt8)) : List (List UInt8) := zs.mergeSort fun x y => decide (x ≤ y)
theorem sortS_len (zs : List (List UInt8)) : (sortS zs).length = zs.length := (List.mergeSort_perm zs _).length_eq
theorem Sort_c {H : List Ent} {K : Out → List Ent → Prop} (i : Nat) (zs : List (List UInt8)) (b cap : Nat) (hz : zs.length ≤ 2000) (hi : nthE H i = some (.app 9 1 (strC zs) (some ⟨b, 0, none⟩) zs.length cap))
    (hk : setEK H i (.app 9 1 (strC (sortS zs)) (some ⟨b, 0, none⟩) zs.length cap) fun H' => K (.val (.c (.v (.tuple #[])))) H') : SpecH Tryz.prog 113 (pvs [.slice (some ⟨b, 0, none⟩) zs.length cap]) H K :=
  SpecH.rawA (callOk Tryz.func113 (by kernel_rfl) rfl) i hi (R := fun r n' ys' => r = .tuple #[] ∧ n' = zs.length ∧ ys' = strC (sortS zs)) (fun w hrow hb => (Tryz.slices_Sort_string b 0 cap zs w (holds_row hrow) hb (by omega)).mono fun e w' ⟨he, k, os, hw⟩ => by
    subst hw
    have hg := grownBy_sorted (w := w) (g := b) (n := k) (os := os) (sortS zs).toArray
    exact ⟨_, _, _, he, ⟨rfl, rfl, rfl⟩, row_put hrow hb (sortS_len zs), hg.size, fun k hk hne => hg.block k hk (fun e => hne (Option.some.inj e)), hg.os, hg.tape, hg.output⟩) fun r n' ys' ⟨h1, h2, h3⟩ => by
    subst h1 h2 h3
    exact hk
theorem SortNil_c {H : List Ent} {K : Out → List Ent → Prop} (p : Option Addr) (cap : Nat) (hk : K (.val (.c (.v (.tuple #[])))) H) : SpecH Tryz.prog 113 (pvs [.slice p 0 cap]) H K :=
  SpecH.rawP (R := fun r => r = .tuple #[]) (callOk Tryz.func113 (by kernel_rfl) rfl) (fun w _ => (Tryz.slices_Sort_string_none p cap w).mono fun e w' ⟨he, hw⟩ => by
    subst hw
    exact ⟨_, he, rfl, Below.refl _ _⟩) fun r hr => by subst hr; exact hk
theorem Compact_c {H : List Ent} {K : Out → List Ent → Prop} (i : Nat) (zs : List (List UInt8)) (b cap : Nat) (hz : zs.length ≤ 2000) (hcap : zs.length ≤ cap) (hi : nthE H i = some (.app 9 1 (strC zs) (some ⟨b, 0, none⟩) zs.length cap))
    (hk : ∀ ys, setEK H i (.app 9 1 ys (some ⟨b, 0, none⟩) zs.length cap) fun H' => K (.val (.c (.v (.slice (some ⟨b, 0, none⟩) (Lib.compact zs).length cap)))) H') : SpecH Tryz.prog 88 (pvs [.slice (some ⟨b, 0, none⟩) zs.length cap]) H K :=
  SpecH.rawA (callOk Tryz.func88 (by kernel_rfl) rfl) i hi (R := fun r n' _ => r = .slice (some ⟨b, 0, none⟩) (Lib.compact zs).length cap ∧ n' = zs.length) (fun w hrow hb => (Tryz.slices_Compact_string b 0 cap zs w (holds_row hrow) (by omega) hcap).mono fun e w' ⟨he, k, hw⟩ => by
    subst hw
    have hlen : (Lib.compact zs ++ List.replicate (zs.length - (Lib.compact zs).length) []).length = zs.length := by
      have := Lib.compact_length_le zs
      simp
      omega
    have hr := row_put (k := k) (os := #[]) hrow hb hlen
    have hg := grownBy_sorted (w := w) (g := b) (n := k) (os := #[]) (Lib.compact zs ++ List.replicate (zs.length - (Lib.compact zs).length) []).toArray
    rw [grow_empty] at hr hg
    exact ⟨_, _, _, he, ⟨rfl, rfl⟩, hr, hg.size, fun k hk hne => hg.block k hk (fun e => hne (Option.some.inj e)), hg.os, hg.tape, hg.output⟩) fun r n' ys' ⟨h1, h2⟩ => by
    subst h1 h2
    exact hk ys'
theorem Compact_n {H : List Ent} {K : Out → List Ent → Prop} (i : Nat) (zs : List (List UInt8)) (n : Nat) (hn : zs.length = n) (b cap : Nat) (hz : n ≤ 2000) (hcap : n ≤ cap) (hi : nthE H i = some (.app 9 1 (strC zs) (some ⟨b, 0, none⟩) n cap))
    (hk : ∀ ys, setEK H i (.app 9 1 ys (some ⟨b, 0, none⟩) n cap) fun H' => K (.val (.c (.v (.slice (some ⟨b, 0, none⟩) (Lib.compact zs).length cap)))) H') : SpecH Tryz.prog 88 (pvs [.slice (some ⟨b, 0, none⟩) n cap]) H K := by
  subst hn
  exact Compact_c i zs b cap hz hcap hi hk
theorem CompactNil_c {H : List Ent} {K : Out → List Ent → Prop} (p : Option Addr) (cap : Nat) (hk : K (.val (.c (.v (.slice p 0 cap)))) H) : SpecH Tryz.prog 88 (pvs [.slice p 0 cap]) H K :=
  SpecH.rawP (R := fun r => r = .slice p 0 cap) (callOk Tryz.func88 (by kernel_rfl) rfl) (fun w _ => (Tryz.slices_Compact_string_empty p cap w).mono fun e w' ⟨he, hw⟩ => by
    subst hw
    exact ⟨_, he, rfl, Below.refl _ _⟩) fun r hr => by subst hr; exact hk
theorem strs_at {w : World} {a : Option Addr} {cap : Nat} {zs : List (List UInt8)} (h : SlAt a (zs.length * 1) (strC zs) w) : StrsAt w.heap.size w (.slice a zs.length cap) zs ∨ zs = [] := by
  cases zs with
  | nil => exact .inr rfl
  | cons z zs =>
    obtain ⟨h1, h2, h3⟩ := h
    have ha := h2 (by simp)
    obtain ⟨p, rfl⟩ := Option.isSome_iff_exists.1 ha
    have hc : ∀ j, j < (z :: zs).length → w.cell? (p.add j) = (strC (z :: zs))[j]? := fun j hj => h3 j (by omega)
    have h0 := hc 0 (by simp)
    have hsp : p.spot = none ∧ p.block < w.heap.size := by
      have e : (strC (z :: zs))[0]? = some (.string (bs z)) := rfl
      rw [e] at h0
      unfold World.cell? at h0
      split at h0
      · rename_i c T fr hb
        have hb' : p.block < w.heap.size := (Array.getElem?_eq_some_iff.1 hb).1
        by_cases hs : (p.add 0).spot.isSome
        · rw [if_pos hs] at h0; cases h0
        · refine ⟨?_, hb'⟩
          have : ¬ p.spot.isSome = true := hs
          simpa using this
      · cases h0
    obtain ⟨pb, po, ps⟩ := p
    obtain ⟨rfl, hlt⟩ : ps = none ∧ pb < w.heap.size := hsp
    refine .inl (.inr ⟨pb, po, cap, rfl, hlt, fun j hj => ?_⟩)
    have := hc j hj
    unfold strC at this
    rw [List.getElem?_map, List.getElem?_eq_getElem hj] at this
    rw [List.getElem?_eq_getElem hj]
    rw [add_lit] at this
    exact this
theorem AppendSeq_c {H : List Ent} {K : Out → List Ent → Prop} (B cap : Nat) (a : Option Addr) (zs : List (List UInt8)) (hz : zs.length ≤ 2000) (hF : ∀ w, Facts H w → w.cell? ⟨B, 0, none⟩ = some (.slice a zs.length cap) ∧ SlAt a (zs.length * 1) (strC zs) w)
    (hk0 : zs.length = 0 → snocK H (.app 9 1 [] none 0 0) 0 fun H' _ => K (.val (.c (.v (.slice none 0 0)))) H')
    (hk : ∀ b c : Nat, zs.length ≤ c → snocK H (.app 9 1 (strC zs) (some ⟨b, 0, none⟩) zs.length c) 0 fun H' _ => K (.val (.c (.v (.slice (some ⟨b, 0, none⟩) zs.length c)))) H') :
    SpecH Tryz.prog 127 (pvs [.slice none 0 0, .func (.func 114) #[] #[.pointer (some ⟨B, 0, none⟩)]]) H K := by
  refine SpecH.rawN (T := 9) (sz := 1) (n := zs.length) (ys := strC zs) (callOk Tryz.func127 (by kernel_rfl) rfl) (fun w hw => ?_) hk0 hk
  obtain ⟨h1, h3⟩ := hF w hw
  have hB : B < w.heap.size := by
    unfold World.cell? at h1
    split at h1
    · rename_i hb; exact (Array.getElem?_eq_some_iff.1 hb).1
    · cases h1
  have hs : StrsAt w.heap.size w (.slice a zs.length cap) zs := by
    rcases strs_at (cap := cap) h3 with h | h
    · exact h
    · subst h
      exact .inl ⟨a, cap, rfl, rfl⟩
  have hm : zs.length ≤ maxLen := by simp only [maxLen]; omega
  exact (callsIn_wide (n := 5)).1 ((appendSeq_in Fence.wide 5 trivial trivial rfl (by omega) B _ zs hm (by omega) w hB h1 hs).mono fun e w' ⟨v, he, hr, hb⟩ => ⟨v, he, hr, hb⟩)
end Go.Proofs.YtahjbnfbilkbcaaGreatDoor

/-
  Plain: names are different just where sorting them and striking equal neighbours leaves as many.
-/
namespace Go.Core
open Go.Lib

theorem filter_full {α : Type} {p : α → Bool} : ∀ {l : List α}, (l.filter p).length = l.length → ∀ x ∈ l, p x = true
  | [], _, _, h => by cases h
  | a :: l, he, x, h => by
    rw [List.filter_cons] at he
    have hle := List.length_filter_le p l
    cases hp : p a with
    | false => rw [if_neg (by simp [hp])] at he; simp only [List.length_cons] at he; omega
    | true =>
      rw [if_pos hp] at he
      simp only [List.length_cons] at he
      rcases List.mem_cons.1 h with rfl | h
      · exact hp
      · exact filter_full (by omega) x h
theorem compact_len (zs : List (List UInt8)) : (compact zs).length = zs.length ↔ ∀ j, j < zs.length → keeps zs.toArray j = true := by
  constructor
  · intro h j hj
    unfold compact compactUpTo at h
    rw [List.length_map] at h
    exact filter_full (l := List.range zs.length) (by rw [h, List.length_range]) j (List.mem_range.2 hj)
  · exact fun h => by rw [compact_all zs h]
theorem sorted_nodup {zs : List (List UInt8)} (hs : zs.Pairwise fun a b => decide (a ≤ b) = true) : (∀ j, j < zs.length → keeps zs.toArray j = true) ↔ zs.Nodup := by
  constructor
  · intro h
    refine List.pairwise_iff_getElem.2 fun i j hi hj hij he => ?_
    -- the neighbour of j lies between both
    have h1 := h j hj
    unfold keeps at h1
    rw [decide_eq_true_eq] at h1
    have h2 : zs.toArray[j]! ≠ zs.toArray[j - 1]! := h1.resolve_left (by omega)
    rw [getElem!_pos zs.toArray j (by simpa using hj), getElem!_pos zs.toArray (j - 1) (by simp; omega)] at h2
    simp only [List.getElem_toArray] at h2
    refine h2 ?_
    rcases Nat.lt_or_ge i (j - 1) with hlt | hge
    · have a1 := List.pairwise_iff_getElem.1 hs i (j - 1) hi (by omega) hlt
      have a2 := List.pairwise_iff_getElem.1 hs (j - 1) j (by omega) hj (by omega)
      simp only [decide_eq_true_eq] at a1 a2
      rw [he] at a1
      exact List.le_antisymm a1 a2
    · have e : i = j - 1 := by omega
      subst e
      exact he.symm
  · intro h j hj
    unfold keeps
    rw [decide_eq_true_eq]
    rcases Nat.eq_zero_or_pos j with h0 | h0
    · exact .inl h0
    · refine .inr ?_
      rw [getElem!_pos zs.toArray j (by simpa using hj), getElem!_pos zs.toArray (j - 1) (by simp; omega)]
      simp only [List.getElem_toArray]
      exact Ne.symm (List.pairwise_iff_getElem.1 h (j - 1) j (by omega) hj (by omega))
theorem compact_sort (ss : List (List UInt8)) : (compact (ss.mergeSort fun x y => decide (x ≤ y))).length = ss.length ↔ ss.Nodup := by
  have hp := List.mergeSort_perm ss fun x y => decide (x ≤ y)
  have hs : (ss.mergeSort fun x y => decide (x ≤ y)).Pairwise fun a b => decide (a ≤ b) = true :=
    List.pairwise_mergeSort (fun a b c h1 h2 => by simp only [decide_eq_true_eq] at *; exact List.le_trans h1 h2) (fun a b => by simp only [Bool.or_eq_true, decide_eq_true_eq]; exact List.le_total a b) ss
  rw [← hp.length_eq, compact_len, sorted_nodup hs]
  exact hp.nodup_iff
end Go.Core

/-
  Contract: whether the fields of a cell are valid (program).
-/
namespace Go.Proofs.YtahjbnfbilkbcaaGreatDoor
open Go.AX Go.RowKit Go.Core Go.Scan
set_option maxRecDepth 20000

def plWords (text : List UInt8) (p5 p10 p14 : Bool) (k : Int) : Option Value :=
  if k = 4 ∧ p5 = true then some (.bool (decide ((text.length : Int) ≤ 2000))) else if k = 5 ∧ p10 = true then some (.bool (decide ((text.length : Int) ≤ 40))) else if k = 8 ∧ p14 = true then some (.bool (icB text)) else none
def plOk (p0 p13 p5 p10 p14 p15 p16 : Bool) : Bool := (!p5 || p0) && (!p10 || p0) && (!p14 || (p0 && p13)) && (!p15 || (p5 && p10 && p14)) && (!p16 || p15)
def plN (p0 p13 p5 p10 p14 p15 p16 : Bool) : Nat := (!p0).toNat + (!p13).toNat + (!p5).toNat + (!p10).toNat + (!p14).toNat + (!p15).toNat + (!p16).toNat
def mpA (p : Bool) (b : Nat) : AV := bif p then .c (.v (.map (some b))) else .c .any
def plS (c : Value) (cb b : Nat) (text : List UInt8) (p0 p13 p15 p16 : Bool) : List AV :=
  .c (.v c) :: .c (.v (.pointer (some ⟨cb, 0, none⟩))) :: .c (.v (.bool false)) :: mpA p16 b :: .c .any :: .c .any :: .c .any :: mpA p0 b ::
    .c (.v (.pointer (some ⟨cb, 2, none⟩))) :: .c (.v (.string (bs text))) :: .c (.v (.int .i64 (text.length : Int))) :: .c (.v (.bool (decide ((text.length : Int) ≤ 2000)))) ::
    .c (.v (.pointer (some ⟨cb, 2, none⟩))) :: .c (.v (.string (bs text))) :: .c (.v (.int .i64 (text.length : Int))) :: .c (.v (.bool (decide ((text.length : Int) ≤ 40)))) ::
    .c (.v (.pointer (some ⟨cb, 2, none⟩))) :: .c (.v (.string (bs text))) :: (bif p13 then .c (.v (.bool (icB text))) else .c .any) :: mpA p15 b :: mkS 111 20 []
def plH (F : World → Prop) (cs : List Value) (cb b cl : Nat) (es : Array MapEntry) (p0 : Bool) : List Ent :=
  .fact F :: .app 42 5 cs (some ⟨cb, 0, none⟩) 1 1 :: (bif p0 then [.mp b es cl] else [])
def plJ (F : World → Prop) (c : Value) (cs : List Value) (cb : Nat) (text : List UInt8) (n : Nat) (ls : Array Bool) (s : List AV) (H : List Ent) : Prop :=
  ∃ (p0 p13 p5 p10 p14 p15 p16 : Bool) (b cl : Nat) (es : Array MapEntry), plOk p0 p13 p5 p10 p14 p15 p16 = true ∧ n = plN p0 p13 p5 p10 p14 p15 p16 ∧ ls = #[p0, true, true, true, true, p5, true, true, true, true, p10, true, true, p13, p14, p15, p16] ∧
    s = plS c cb b text p0 p13 p15 p16 ∧ H = plH F cs cb b cl es p0 ∧ MapIs .i64 es (plWords text p5 p10 p14)
theorem plain1_c (s : List UInt8) (hs : s.length ≤ 200000000000000) : ∀ H, SpecH Tryz.prog 90 (pvs [.string (bs s)]) H (Ret (.bool (!iiB s)) H) := by
  refine pureC hm Tryz.func90 (by kernel_rfl) rfl rfl ?_
  (first | refine wX ?_ | exact wZ)
  refine call1 (IsIvar_c s hs _) ?_
  (first | refine wX ?_ | exact wZ)
theorem CompactN_c (p : Option Addr) (cap : Nat) : ∀ H, SpecH Tryz.prog 88 (pvs [.slice p 0 cap]) H (Ret (.slice p 0 cap) H) := fun _ => CompactNil_c p cap ⟨rfl, rfl⟩
set_option maxHeartbeats 4000000 in
theorem plain_c0 (kind num : Int) (text : List UInt8) (names : List (List UInt8)) (items : List Int) (na : Option Addr) (nc : Nat) (ia : Option Addr) (ic : Nat) (hna : na = none → names = []) (hia : ia = none → items = []) (hnl : names.length ≤ 2000) (hil : items.length ≤ 2000) (hnw : ∀ s ∈ names, s.length ≤ 200000000000000) (htl : text.length ≤ 200000000000000) :
    ∀ H, (∀ w, Facts H w → SlAt na (names.length * 1) (strC names) w ∧ SlAt ia (items.length * 1) (iC items) w) → SpecH Tryz.prog 45 (pvs [.agg #[.int .i64 kind, .int .i64 num, .string (bs text), .slice na names.length nc, .slice ia items.length ic]]) H (Ret (.bool (plainS ⟨kind, num, text, names, items⟩)) H) := by
  refine factC hm Tryz.func45 (by kernel_rfl) rfl rfl ?_
  (first | refine wXB ?_ | exact wZB)
  refine BoxN.known [.int .i64 kind, .int .i64 num, .string (bs text), .slice na names.length nc, .slice ia items.length ic] rfl fun cb => ?_
  (first | refine wXB ?_ | exact wZB)
  refine DrawN.walk hm (fun w => SlAt (some ⟨cb, 0, none⟩) 5 [.int .i64 kind, .int .i64 num, .string (bs text), .slice na names.length nc, .slice ia items.length ic] w) [1, 2, 3, 4, 6, 7, 8, 9, 11, 12] 7 (plJ (fun w => SlAt na (names.length * 1) (strC names) w ∧ SlAt ia (items.length * 1) (iC items) w) (.agg #[.int .i64 kind, .int .i64 num, .string (bs text), .slice na names.length nc, .slice ia items.length ic]) [.int .i64 kind, .int .i64 num, .string (bs text), .slice na names.length nc, .slice ia items.length ic] cb text) (by decide +kernel) (by decide +kernel) (by decide +kernel) ?_ ?_
  · rintro n ls s H ⟨p0, p13, p5, p10, p14, p15, p16, b, cl, es, hok, rfl, rfl, rfl, rfl, hes⟩
    refine ⟨fun w hw => hw.2.1, ?_⟩
    cases p16 with
    | true =>
      obtain ⟨rfl, rfl, rfl, rfl, rfl, rfl⟩ : p0 = true ∧ p13 = true ∧ p5 = true ∧ p10 = true ∧ p14 = true ∧ p15 = true := by
        clear hes
        revert p0 p13 p5 p10 p14 p15
        decide
      refine .inl ⟨by decide +kernel, ?_⟩
      have hkk : kind < 0 ∨ 8 < kind ∨ kind = 0 ∨ kind = 1 ∨ kind = 2 ∨ kind = 3 ∨ kind = 4 ∨ kind = 5 ∨ kind = 6 ∨ kind = 7 ∨ kind = 8 := by omega
      obtain ⟨j, hj⟩ := hes kind
      rcases hkk with hk | hk | rfl | rfl | rfl | rfl | rfl | rfl | rfl | rfl | rfl
      · -- what the map holds: nothing
        rw [show plWords text true true true kind = none by unfold plWords; rw [if_neg (by omega), if_neg (by omega), if_neg (by omega)]] at hj
        (first | refine wXE ?_ | exact wZE)
        refine ReadW.askMap none rfl Tryz.underlying119 Tryz.underlying3 rfl rfl rfl rfl (fun w hw => hw.2.2.1) hj ?_
        (first | refine wXE ?_ | exact wZE)
        refine brd_dec (fun _ => ?_) (fun h => absurd hk h)
        (first | refine wXE ?_ | exact wZE)
        exact out_bool (by
          have : ¬ 0 ≤ kind := by omega
          unfold Go.Core.plainS; simp [this])
      · -- what the map holds: nothing
        rw [show plWords text true true true kind = none by unfold plWords; rw [if_neg (by omega), if_neg (by omega), if_neg (by omega)]] at hj
        (first | refine wXE ?_ | exact wZE)
        refine ReadW.askMap none rfl Tryz.underlying119 Tryz.underlying3 rfl rfl rfl rfl (fun w hw => hw.2.2.1) hj ?_
        (first | refine wXE ?_ | exact wZE)
        refine brd_dec (fun h => absurd h (by omega)) (fun _ => ?_)
        (first | refine wXE ?_ | exact wZE)
        refine brd_dec (fun _ => ?_) (fun h => absurd hk h)
        (first | refine wXE ?_ | exact wZE)
        exact out_bool (by
          have : ¬ kind ≤ 8 := by omega
          unfold Go.Core.plainS; simp [this])
      · -- what the map holds: nothing
        rw [show plWords text true true true 0 = none by unfold plWords; rw [if_neg (by omega), if_neg (by omega), if_neg (by omega)]] at hj
        (first | refine wXE ?_ | exact wZE)
        refine ReadW.askMap none rfl Tryz.underlying119 Tryz.underlying3 rfl rfl rfl rfl (fun w hw => hw.2.2.1) hj ?_
        (first | refine wXE ?_ | exact wZE)
        rw [bs_list]
        cases ht : text == ([] : List UInt8) with
        | false =>
          have ht0 : text ≠ [] := fun e => by rw [e] at ht; cases ht
          (first | refine wXE ?_ | exact wZE)
          exact out_bool (by unfold Go.Core.plainS; simp [ht0])
        | true =>
        have ht0 : text = [] := eq_of_beq ht
        (first | refine wXE ?_ | exact wZE)
        refine brd_ne (fun hu => ?_) (fun hu => ?_)
        · (first | refine wXE ?_ | exact wZE)
          exact out_bool (by unfold Go.Core.plainS; simp [hu])
        (first | refine wXE ?_ | exact wZE)
        refine brd_dec (fun h => absurd h (by omega)) (fun _ => ?_)
        (first | refine wXE ?_ | exact wZE)
        refine brd_dec (fun h => absurd h (by omega)) (fun _ => ?_)
        (first | refine wXE ?_ | exact wZE)
        -- 0: the kind, ht0, hu: what is known
        refine call1 (isLeaf_c 0 _) ?_
        (first | refine wXE ?_ | exact wZE)
        refine brd_eq (fun h1 => ?_) (fun h1 => ?_)
        · have hi0 : items = [] := List.eq_nil_of_length_eq_zero (by omega)
          (first | refine wXE ?_ | exact wZE)
          exact out_bool (by
            have hmx : -Go.Core.maxI ≤ 0 ∧ (0 : Int) ≤ Go.Core.maxI := by decide
            rw [Bool.eq_iff_iff]
            unfold Go.Core.plainS
            simp [hi0, ht0, hu, hmx]
            try exact ⟨fun h => List.eq_nil_of_length_eq_zero (by omega), fun h => by rw [h]; rfl⟩)
        · have hi0 : items ≠ [] := fun e => by rw [e] at h1; exact h1 rfl
          (first | refine wXE ?_ | exact wZE)
          exact out_bool (by unfold Go.Core.plainS; simp [hi0])
      · -- what the map holds: nothing
        rw [show plWords text true true true 1 = none by unfold plWords; rw [if_neg (by omega), if_neg (by omega), if_neg (by omega)]] at hj
        (first | refine wXE ?_ | exact wZE)
        refine ReadW.askMap none rfl Tryz.underlying119 Tryz.underlying3 rfl rfl rfl rfl (fun w hw => hw.2.2.1) hj ?_
        (first | refine wXE ?_ | exact wZE)
        rw [bs_list]
        cases ht : text == ([] : List UInt8) with
        | false =>
          have ht0 : text ≠ [] := fun e => by rw [e] at ht; cases ht
          (first | refine wXE ?_ | exact wZE)
          exact out_bool (by unfold Go.Core.plainS; simp [ht0])
        | true =>
        have ht0 : text = [] := eq_of_beq ht
        (first | refine wXE ?_ | exact wZE)
        refine brd_ne (fun hu => ?_) (fun hu => ?_)
        · (first | refine wXE ?_ | exact wZE)
          exact out_bool (by unfold Go.Core.plainS; simp [hu])
        (first | refine wXE ?_ | exact wZE)
        refine brd_dec (fun h => absurd h (by omega)) (fun _ => ?_)
        (first | refine wXE ?_ | exact wZE)
        refine brd_dec (fun h => absurd h (by omega)) (fun _ => ?_)
        (first | refine wXE ?_ | exact wZE)
        -- 1: the kind, ht0, hu: what is known
        refine call1 (isLeaf_c 1 _) ?_
        (first | refine wXE ?_ | exact wZE)
        refine brd_eq (fun h1 => ?_) (fun h1 => ?_)
        · have hi0 : items = [] := List.eq_nil_of_length_eq_zero (by omega)
          (first | refine wXE ?_ | exact wZE)
          exact out_bool (by
            have hmx : -Go.Core.maxI ≤ 0 ∧ (0 : Int) ≤ Go.Core.maxI := by decide
            rw [Bool.eq_iff_iff]
            unfold Go.Core.plainS
            simp [hi0, ht0, hu, hmx]
            try exact ⟨fun h => List.eq_nil_of_length_eq_zero (by omega), fun h => by rw [h]; rfl⟩)
        · have hi0 : items ≠ [] := fun e => by rw [e] at h1; exact h1 rfl
          (first | refine wXE ?_ | exact wZE)
          exact out_bool (by unfold Go.Core.plainS; simp [hi0])
      · -- what the map holds: nothing
        rw [show plWords text true true true 2 = none by unfold plWords; rw [if_neg (by omega), if_neg (by omega), if_neg (by omega)]] at hj
        (first | refine wXE ?_ | exact wZE)
        refine ReadW.askMap none rfl Tryz.underlying119 Tryz.underlying3 rfl rfl rfl rfl (fun w hw => hw.2.2.1) hj ?_
        (first | refine wXE ?_ | exact wZE)
        rw [bs_list]
        cases ht : text == ([] : List UInt8) with
        | false =>
          have ht0 : text ≠ [] := fun e => by rw [e] at ht; cases ht
          (first | refine wXE ?_ | exact wZE)
          exact out_bool (by unfold Go.Core.plainS; simp [ht0])
        | true =>
        have ht0 : text = [] := eq_of_beq ht
        (first | refine wXE ?_ | exact wZE)
        refine brd_ne (fun hu => ?_) (fun hu => ?_)
        · (first | refine wXE ?_ | exact wZE)
          exact out_bool (by unfold Go.Core.plainS; simp [hu])
        (first | refine wXE ?_ | exact wZE)
        refine brd_dec (fun h => absurd h (by omega)) (fun _ => ?_)
        (first | refine wXE ?_ | exact wZE)
        refine brd_dec (fun h => absurd h (by omega)) (fun _ => ?_)
        (first | refine wXE ?_ | exact wZE)
        -- 2: the kind, ht0, hu: what is known
        refine call1 (isLeaf_c 2 _) ?_
        (first | refine wXE ?_ | exact wZE)
        refine brd_eq (fun h1 => ?_) (fun h1 => ?_)
        · have hi0 : items = [] := List.eq_nil_of_length_eq_zero (by omega)
          (first | refine wXE ?_ | exact wZE)
          exact out_bool (by
            have hmx : -Go.Core.maxI ≤ 0 ∧ (0 : Int) ≤ Go.Core.maxI := by decide
            rw [Bool.eq_iff_iff]
            unfold Go.Core.plainS
            simp [hi0, ht0, hu, hmx]
            try exact ⟨fun h => List.eq_nil_of_length_eq_zero (by omega), fun h => by rw [h]; rfl⟩)
        · have hi0 : items ≠ [] := fun e => by rw [e] at h1; exact h1 rfl
          (first | refine wXE ?_ | exact wZE)
          exact out_bool (by unfold Go.Core.plainS; simp [hi0])
      · -- what the map holds: nothing
        rw [show plWords text true true true 3 = none by unfold plWords; rw [if_neg (by omega), if_neg (by omega), if_neg (by omega)]] at hj
        (first | refine wXE ?_ | exact wZE)
        refine ReadW.askMap none rfl Tryz.underlying119 Tryz.underlying3 rfl rfl rfl rfl (fun w hw => hw.2.2.1) hj ?_
        (first | refine wXE ?_ | exact wZE)
        rw [bs_list]
        cases ht : text == ([] : List UInt8) with
        | false =>
          have ht0 : text ≠ [] := fun e => by rw [e] at ht; cases ht
          (first | refine wXE ?_ | exact wZE)
          exact out_bool (by unfold Go.Core.plainS; simp [ht0])
        | true =>
        have ht0 : text = [] := eq_of_beq ht
        (first | refine wXE ?_ | exact wZE)
        refine brd_dec (fun hb1 => ?_) (fun hb1 => ?_)
        · (first | refine wXE ?_ | exact wZE)
          exact out_bool (by
            have : ¬ (-Go.Core.maxI ≤ num) := by show ¬ (-1000000000000000 ≤ num); omega
            unfold Go.Core.plainS; simp [this])
        (first | refine wXE ?_ | exact wZE)
        refine brd_dec (fun hb2 => ?_) (fun hb2 => ?_)
        · (first | refine wXE ?_ | exact wZE)
          exact out_bool (by
            have : ¬ (num ≤ Go.Core.maxI) := by show ¬ (num ≤ 1000000000000000); omega
            unfold Go.Core.plainS; simp [this])
        (first | refine wXE ?_ | exact wZE)
        have hq1 : -Go.Core.maxI ≤ num := by show -1000000000000000 ≤ num; omega
        have hq2 : num ≤ Go.Core.maxI := by show num ≤ 1000000000000000; omega
        -- 3: the kind, ht0, hq1, hq2: what is known
        refine call1 (isLeaf_c 3 _) ?_
        (first | refine wXE ?_ | exact wZE)
        refine brd_eq (fun h1 => ?_) (fun h1 => ?_)
        · have hi0 : items = [] := List.eq_nil_of_length_eq_zero (by omega)
          (first | refine wXE ?_ | exact wZE)
          exact out_bool (by
            have hmx : -Go.Core.maxI ≤ 0 ∧ (0 : Int) ≤ Go.Core.maxI := by decide
            rw [Bool.eq_iff_iff]
            unfold Go.Core.plainS
            simp [hi0, ht0, hq1, hq2, hmx]
            try exact ⟨fun h => List.eq_nil_of_length_eq_zero (by omega), fun h => by rw [h]; rfl⟩)
        · have hi0 : items ≠ [] := fun e => by rw [e] at h1; exact h1 rfl
          (first | refine wXE ?_ | exact wZE)
          exact out_bool (by unfold Go.Core.plainS; simp [hi0])
      · -- 4: the kind, decide ((text.length : Int) ≤ 2000): what the map holds
        rw [show plWords text true true true 4 = some (.bool (decide ((text.length : Int) ≤ 2000))) by simp [plWords]] at hj
        (first | refine wXE ?_ | exact wZE)
        refine ReadW.askMap (some (j, .bool (decide ((text.length : Int) ≤ 2000)))) rfl Tryz.underlying119 Tryz.underlying3 rfl rfl rfl rfl (fun w hw => hw.2.2.1) hj ?_
        (first | refine wXE ?_ | exact wZE)
        cases hf : decide ((text.length : Int) ≤ 2000) with
        | false =>
          (first | refine wXE ?_ | exact wZE)
          exact out_bool (by unfold Go.Core.plainS; simp [show ¬ text.length ≤ 2000 from fun h => of_decide_eq_false hf (by omega)])
        | true =>
        (first | refine wXE ?_ | exact wZE)
        refine brd_ne (fun hu => ?_) (fun hu => ?_)
        · (first | refine wXE ?_ | exact wZE)
          exact out_bool (by unfold Go.Core.plainS; simp [hu])
        (first | refine wXE ?_ | exact wZE)
        refine brd_dec (fun h => absurd h (by omega)) (fun _ => ?_)
        (first | refine wXE ?_ | exact wZE)
        refine brd_dec (fun h => absurd h (by omega)) (fun _ => ?_)
        (first | refine wXE ?_ | exact wZE)
        -- 4: the kind, hu, show text.length ≤ 2000 from by have := of_decide_eq_true hf; omega: what is known
        refine call1 (isLeaf_c 4 _) ?_
        (first | refine wXE ?_ | exact wZE)
        refine brd_eq (fun h1 => ?_) (fun h1 => ?_)
        · have hi0 : items = [] := List.eq_nil_of_length_eq_zero (by omega)
          (first | refine wXE ?_ | exact wZE)
          exact out_bool (by
            have hmx : -Go.Core.maxI ≤ 0 ∧ (0 : Int) ≤ Go.Core.maxI := by decide
            rw [Bool.eq_iff_iff]
            unfold Go.Core.plainS
            simp [hi0, hu, show text.length ≤ 2000 from by have := of_decide_eq_true hf; omega, hmx]
            try exact ⟨fun h => List.eq_nil_of_length_eq_zero (by omega), fun h => by rw [h]; rfl⟩)
        · have hi0 : items ≠ [] := fun e => by rw [e] at h1; exact h1 rfl
          (first | refine wXE ?_ | exact wZE)
          exact out_bool (by unfold Go.Core.plainS; simp [hi0])
      · -- 5: the kind, decide ((text.length : Int) ≤ 40): what the map holds
        rw [show plWords text true true true 5 = some (.bool (decide ((text.length : Int) ≤ 40))) by simp [plWords]] at hj
        (first | refine wXE ?_ | exact wZE)
        refine ReadW.askMap (some (j, .bool (decide ((text.length : Int) ≤ 40)))) rfl Tryz.underlying119 Tryz.underlying3 rfl rfl rfl rfl (fun w hw => hw.2.2.1) hj ?_
        (first | refine wXE ?_ | exact wZE)
        cases hf : decide ((text.length : Int) ≤ 40) with
        | false =>
          (first | refine wXE ?_ | exact wZE)
          exact out_bool (by unfold Go.Core.plainS; simp [show ¬ text.length ≤ 40 from fun h => of_decide_eq_false hf (by omega)])
        | true =>
        (first | refine wXE ?_ | exact wZE)
        refine brd_ne (fun hu => ?_) (fun hu => ?_)
        · (first | refine wXE ?_ | exact wZE)
          exact out_bool (by unfold Go.Core.plainS; simp [hu])
        (first | refine wXE ?_ | exact wZE)
        refine brd_dec (fun h => absurd h (by omega)) (fun _ => ?_)
        (first | refine wXE ?_ | exact wZE)
        refine brd_dec (fun h => absurd h (by omega)) (fun _ => ?_)
        (first | refine wXE ?_ | exact wZE)
        -- 5: the kind, hu, show text.length ≤ 40 from by have := of_decide_eq_true hf; omega: what is known
        refine call1 (isLeaf_c 5 _) ?_
        (first | refine wXE ?_ | exact wZE)
        refine brd_eq (fun h1 => ?_) (fun h1 => ?_)
        · have hi0 : items = [] := List.eq_nil_of_length_eq_zero (by omega)
          (first | refine wXE ?_ | exact wZE)
          exact out_bool (by
            have hmx : -Go.Core.maxI ≤ 0 ∧ (0 : Int) ≤ Go.Core.maxI := by decide
            rw [Bool.eq_iff_iff]
            unfold Go.Core.plainS
            simp [hi0, hu, show text.length ≤ 40 from by have := of_decide_eq_true hf; omega, hmx]
            try exact ⟨fun h => List.eq_nil_of_length_eq_zero (by omega), fun h => by rw [h]; rfl⟩)
        · have hi0 : items ≠ [] := fun e => by rw [e] at h1; exact h1 rfl
          (first | refine wXE ?_ | exact wZE)
          exact out_bool (by unfold Go.Core.plainS; simp [hi0])
      · -- what the map holds: nothing
        rw [show plWords text true true true 6 = none by unfold plWords; rw [if_neg (by omega), if_neg (by omega), if_neg (by omega)]] at hj
        (first | refine wXE ?_ | exact wZE)
        refine ReadW.askMap none rfl Tryz.underlying119 Tryz.underlying3 rfl rfl rfl rfl (fun w hw => hw.2.2.1) hj ?_
        (first | refine wXE ?_ | exact wZE)
        rw [bs_list]
        cases ht : text == ([] : List UInt8) with
        | false =>
          have ht0 : text ≠ [] := fun e => by rw [e] at ht; cases ht
          (first | refine wXE ?_ | exact wZE)
          exact out_bool (by unfold Go.Core.plainS; simp [ht0])
        | true =>
        have ht0 : text = [] := eq_of_beq ht
        (first | refine wXE ?_ | exact wZE)
        refine brd_ne (fun hu => ?_) (fun hu => ?_)
        · (first | refine wXE ?_ | exact wZE)
          exact out_bool (by unfold Go.Core.plainS; simp [hu])
        (first | refine wXE ?_ | exact wZE)
        refine brd_dec (fun h => absurd h (by omega)) (fun _ => ?_)
        (first | refine wXE ?_ | exact wZE)
        refine brd_dec (fun h => absurd h (by omega)) (fun _ => ?_)
        (first | refine wXE ?_ | exact wZE)
        -- 6: the kind
        refine call1 (isLeaf_c 6 _) ?_
        (first | refine wXE ?_ | exact wZE)
        refine brd_eq (fun h1 => ?_) (fun h1 => ?_)
        · have hn0 : names = [] := List.eq_nil_of_length_eq_zero (by omega)
          (first | refine wXE ?_ | exact wZE)
          exact out_bool (by
            have hmx : -Go.Core.maxI ≤ 0 ∧ (0 : Int) ≤ Go.Core.maxI := by decide
            rw [Bool.eq_iff_iff]
            unfold Go.Core.plainS
            simp [hn0, ht0, hu, hmx]
            try (rw [Int.tmod_eq_emod_of_nonneg (by omega)]; omega))
        · have hn0 : names ≠ [] := fun e => by rw [e] at h1; exact h1 rfl
          (first | refine wXE ?_ | exact wZE)
          exact out_bool (by unfold Go.Core.plainS; simp [hn0])
      · -- what the map holds: nothing
        rw [show plWords text true true true 7 = none by unfold plWords; rw [if_neg (by omega), if_neg (by omega), if_neg (by omega)]] at hj
        (first | refine wXE ?_ | exact wZE)
        refine ReadW.askMap none rfl Tryz.underlying119 Tryz.underlying3 rfl rfl rfl rfl (fun w hw => hw.2.2.1) hj ?_
        (first | refine wXE ?_ | exact wZE)
        rw [bs_list]
        cases ht : text == ([] : List UInt8) with
        | false =>
          have ht0 : text ≠ [] := fun e => by rw [e] at ht; cases ht
          (first | refine wXE ?_ | exact wZE)
          exact out_bool (by unfold Go.Core.plainS; simp [ht0])
        | true =>
        have ht0 : text = [] := eq_of_beq ht
        (first | refine wXE ?_ | exact wZE)
        refine brd_ne (fun hu => ?_) (fun hu => ?_)
        · (first | refine wXE ?_ | exact wZE)
          exact out_bool (by unfold Go.Core.plainS; simp [hu])
        (first | refine wXE ?_ | exact wZE)
        refine brd_dec (fun h => absurd h (by omega)) (fun _ => ?_)
        (first | refine wXE ?_ | exact wZE)
        refine brd_dec (fun h => absurd h (by omega)) (fun _ => ?_)
        (first | refine wXE ?_ | exact wZE)
        -- 7: the kind
        refine call1 (isLeaf_c 7 _) ?_
        (first | refine wXE ?_ | exact wZE)
        refine brd_eq (fun h1 => ?_) (fun h1 => ?_)
        · have hn0 : names = [] := List.eq_nil_of_length_eq_zero (by omega)
          (first | refine wXE ?_ | exact wZE)
          exact out_bool (by
            have hmx : -Go.Core.maxI ≤ 0 ∧ (0 : Int) ≤ Go.Core.maxI := by decide
            rw [Bool.eq_iff_iff]
            unfold Go.Core.plainS
            simp [hn0, ht0, hu, hmx]
            try (rw [Int.tmod_eq_emod_of_nonneg (by omega)]; omega))
        · have hn0 : names ≠ [] := fun e => by rw [e] at h1; exact h1 rfl
          (first | refine wXE ?_ | exact wZE)
          exact out_bool (by unfold Go.Core.plainS; simp [hn0])
      · -- 8: the kind, icB text: what the map holds
        rw [show plWords text true true true 8 = some (.bool (icB text)) by simp [plWords]] at hj
        (first | refine wXE ?_ | exact wZE)
        refine ReadW.askMap (some (j, .bool (icB text))) rfl Tryz.underlying119 Tryz.underlying3 rfl rfl rfl rfl (fun w hw => hw.2.2.1) hj ?_
        (first | refine wXE ?_ | exact wZE)
        cases hf : icB text with
        | false =>
          (first | refine wXE ?_ | exact wZE)
          exact out_bool (by unfold Go.Core.plainS; simp [hf])
        | true =>
        (first | refine wXE ?_ | exact wZE)
        refine brd_ne (fun hu => ?_) (fun hu => ?_)
        · (first | refine wXE ?_ | exact wZE)
          exact out_bool (by unfold Go.Core.plainS; simp [hu])
        (first | refine wXE ?_ | exact wZE)
        refine brd_dec (fun h => absurd h (by omega)) (fun _ => ?_)
        (first | refine wXE ?_ | exact wZE)
        refine brd_dec (fun h => absurd h (by omega)) (fun _ => ?_)
        (first | refine wXE ?_ | exact wZE)
        refine call1 (isLeaf_c 8 _) ?_
        (first | refine wXE ?_ | exact wZE)
        refine spec_of_exec hm Tryz.func87 (by kernel_rfl) rfl rfl ?_
        (first | refine wXB ?_ | exact wZB)
        refine BoxN.known [.slice na names.length nc] rfl fun vb => ?_
        (first | refine wXE ?_ | exact wZE)
        refine spec_of_exec hm Tryz.func86 (by kernel_rfl) rfl rfl ?_
        (first | refine wXE ?_ | exact wZE)
        refine spec_of_exec hm Tryz.func112 (by kernel_rfl) rfl rfl ?_
        (first | refine wXE ?_ | exact wZE)
        refine SpecH.args (args' := pvs [.slice none 0 0, .func (.func 114) #[] #[.pointer (some ⟨vb, 0, none⟩)]]) (by simp [pvs, opvs, opv, nth, plainEv]; try rfl) ?_
        refine AppendSeq_c vb nc na names (by omega) (fun w hw => ⟨?_, hw.1.1⟩) (fun h0 => ?_) (fun b2 c2 hc2 => ?_)
        · have := (hw.2.2.2.1).2.2 0 (by simp)
          exact this
        · have hnn : names = [] := List.eq_nil_of_length_eq_zero h0
          (first | refine wXE ?_ | exact wZE)
          refine SpecH.args (args' := pvs [.slice none 0 0]) (by simp [pvs, opvs, opv, nth, plainEv]; try rfl) ?_
          refine SortNil_c none 0 ?_
          (first | refine wXE ?_ | exact wZE)
          refine brd_eq (fun hln => ?_) (fun hln => ?_)
          · (first | refine wXE ?_ | exact wZE)
            refine callQ (CompactN_c none 0 _) ?_
            (first | refine wXE ?_ | exact wZE)
            refine brd_eq (fun _ => ?_) (fun h => absurd (show (0 : Int) = (names.length : Int) by omega) h)
            (first | refine wXE ?_ | exact wZE)
            refine callQ (HasS_c (fun s => !iiB s) 90 #[] (fun _ => True) na nc names (fun p hp H _ => plain1_c p (hnw p hp) H) hna (by omega) _ (fun w hw => ⟨hw.1.1, trivial⟩)) ?_
            (first | refine wXE ?_ | exact wZE)
            exact out_bool (by
              have hmx : -Go.Core.maxI ≤ 0 ∧ (0 : Int) ≤ Go.Core.maxI := by decide
              have hi0 : items.length = 0 := by omega
              unfold Go.Core.plainS
              simp [hnn, hu, hmx, hf, hi0])
          · (first | refine wXE ?_ | exact wZE)
            exact out_bool (by
              have : ¬ names.length = items.length := by omega
              unfold Go.Core.plainS; simp [this])
        · (first | refine wXE ?_ | exact wZE)
          refine SpecH.args (args' := pvs [.slice (some ⟨b2, 0, none⟩) names.length c2]) (by simp [pvs, opvs, opv, nth, plainEv]; try rfl) ?_
          refine Sort_c 4 names b2 c2 (by omega) rfl ?_
          ((conv => whnf); (repeat ((first | refine LdN.one (a := some ⟨cb, 0, none⟩) (q := 0) (xs := [_, _, _, _, _]) _ rfl (fun w hw => hw.2.1) rfl ?_ | refine LdN.one (a := some ⟨cb, 0, none⟩) (q := 1) (xs := [_, _, _, _, _]) _ rfl (fun w hw => hw.2.1) rfl ?_ | refine LdN.one (a := some ⟨cb, 0, none⟩) (q := 2) (xs := [_, _, _, _, _]) _ rfl (fun w hw => hw.2.1) rfl ?_ | refine LdN.one (a := some ⟨cb, 0, none⟩) (q := 3) (xs := [_, _, _, _, _]) _ rfl (fun w hw => hw.2.1) rfl ?_ | refine LdN.one (a := some ⟨cb, 0, none⟩) (q := 4) (xs := [_, _, _, _, _]) _ rfl (fun w hw => hw.2.1) rfl ?_ | refine RwN.own ?_ | refine VrN.norm (wrap_i64 (by omega)) ?_ | refine VrN.keep ?_ | refine Nd.mk (by decide +kernel) ?_ | refine Nd.mk (by omega) ?_ | (refine Nd.mk ?_ ?_; focus ((repeat' (first | exact trivial | exact wkE_refl _ | refine And.intro ?_ ?_)); done)) | refine RdN.intro _ rfl (by rfl) ?_); (conv => whnf))))
          refine DrawN.planR hm (fun w => SlAt (some ⟨cb, 0, none⟩) 5 [.int .i64 8, .int .i64 num, .string (bs text), .slice na names.length nc, .slice ia items.length ic] w) [0, 3] [(1, 1), (2, 1), (4, 1), (5, 1), (6, 1), (7, 1), (8, 1), (11, 1), (12, 1), (13, 1), (9, 0), (10, 1), (14, 1), (15, 1), (16, 1), (17, 1), (18, 1), (19, 0), (20, 1), (21, 1), (22, 1)] (by decide +kernel) (fun w hw => hw.2.1) ?_
          -- fun w hw => hw.2.1: why the kind holds
          ((conv => whnf); (repeat ((first | refine Nd.mk (fun w hw => hw.2.1) ?_ | refine VrN.norm (wrap_i64 (by omega)) ?_ | refine VrN.keep ?_ | refine Nd.mk (by decide +kernel) ?_ | refine Nd.mk (by omega) ?_ | refine RdN.intro _ rfl (by rfl) ?_); (conv => whnf))))
          -- []string: the type, 109: the operand, 3: the field, .slice na names.length nc: the value
          refine ReadC.one (T := 40) (x := .tmp 109) (a := some ⟨cb, 0, none⟩) (q := 3) (k := 5) (xs := [.int .i64 8, .int .i64 num, .string (bs text), .slice na names.length nc, .slice ia items.length ic]) (.slice na names.length nc) ?_ ?_ ?_ ?_ ?_ ?_
          · rfl
          · rfl
          · rfl
          · exact fun w hw => hw
          · rfl
          -- fun w hw => hw.2.1: why the kind holds
          ((conv => whnf); (repeat ((first | refine Nd.mk (fun w hw => hw.2.1) ?_ | refine VrN.norm (wrap_i64 (by omega)) ?_ | refine VrN.keep ?_ | refine Nd.mk (by decide +kernel) ?_ | refine Nd.mk (by omega) ?_ | refine RdN.intro _ rfl (by rfl) ?_); (conv => whnf))))
          -- []string: the type, 110: the operand, (p := na) (n := names.length) (c := nc): the slice
          refine BlindW.len (x := .tmp 110) (T := 40) (p := na) (n := names.length) (c := nc) rfl rfl rfl Tryz.underlying40 ?_ ?_
          · rfl
          -- fun w hw => hw.2.1: why the kind holds
          ((conv => whnf); (repeat ((first | refine Nd.mk (fun w hw => hw.2.1) ?_ | refine VrN.norm (wrap_i64 (by omega)) ?_ | refine VrN.keep ?_ | refine Nd.mk (by decide +kernel) ?_ | refine Nd.mk (by omega) ?_ | refine RdN.intro _ rfl (by rfl) ?_); (conv => whnf))))
          -- []int: the type, 112: the operand, 4: the field, .slice ia items.length ic: the value
          refine ReadC.one (T := 35) (x := .tmp 112) (a := some ⟨cb, 0, none⟩) (q := 4) (k := 5) (xs := [.int .i64 8, .int .i64 num, .string (bs text), .slice na names.length nc, .slice ia items.length ic]) (.slice ia items.length ic) ?_ ?_ ?_ ?_ ?_ ?_
          · rfl
          · rfl
          · rfl
          · exact fun w hw => hw
          · rfl
          -- fun w hw => hw.2.1: why the kind holds
          ((conv => whnf); (repeat ((first | refine Nd.mk (fun w hw => hw.2.1) ?_ | refine VrN.norm (wrap_i64 (by omega)) ?_ | refine VrN.keep ?_ | refine Nd.mk (by decide +kernel) ?_ | refine Nd.mk (by omega) ?_ | refine RdN.intro _ rfl (by rfl) ?_); (conv => whnf))))
          -- []int: the type, 113: the operand, (p := ia) (n := items.length) (c := ic): the slice
          refine BlindW.len (x := .tmp 113) (T := 35) (p := ia) (n := items.length) (c := ic) rfl rfl rfl Tryz.underlying35 ?_ ?_
          · rfl
          -- fun w hw => hw.2.1: why the kind holds
          ((conv => whnf); (repeat ((first | refine Nd.mk (fun w hw => hw.2.1) ?_ | refine VrN.norm (wrap_i64 (by omega)) ?_ | refine VrN.keep ?_ | refine Nd.mk (by decide +kernel) ?_ | refine Nd.mk (by omega) ?_ | refine RdN.intro _ rfl (by rfl) ?_); (conv => whnf))))
          refine brd_eq (fun hln => ?_) (fun hln => ?_)
          · -- fun w hw => hw.2.1: why the kind holds
            ((conv => whnf); (repeat ((first | refine Nd.mk (fun w hw => hw.2.1) ?_ | refine VrN.norm (wrap_i64 (by omega)) ?_ | refine VrN.keep ?_ | refine Nd.mk (by decide +kernel) ?_ | refine Nd.mk (by omega) ?_ | refine RdN.intro _ rfl (by rfl) ?_); (conv => whnf))))
            -- []string: the type, 120: the operand, 3: the field, .slice na names.length nc: the value
            refine ReadC.one (T := 40) (x := .tmp 120) (a := some ⟨cb, 0, none⟩) (q := 3) (k := 5) (xs := [.int .i64 8, .int .i64 num, .string (bs text), .slice na names.length nc, .slice ia items.length ic]) (.slice na names.length nc) ?_ ?_ ?_ ?_ ?_ ?_
            · rfl
            · rfl
            · rfl
            · exact fun w hw => hw
            · rfl
            -- fun w hw => hw.2.1: why the kind holds
            ((conv => whnf); (repeat ((first | refine Nd.mk (fun w hw => hw.2.1) ?_ | refine VrN.norm (wrap_i64 (by omega)) ?_ | refine VrN.keep ?_ | refine Nd.mk (by decide +kernel) ?_ | refine Nd.mk (by omega) ?_ | refine RdN.intro _ rfl (by rfl) ?_); (conv => whnf))))
            -- []string: the type, 121: the operand, (p := na) (n := names.length) (c := nc): the slice
            refine BlindW.len (x := .tmp 121) (T := 40) (p := na) (n := names.length) (c := nc) rfl rfl rfl Tryz.underlying40 ?_ ?_
            · rfl
            -- fun w hw => hw.2.1: why the kind holds
            ((conv => whnf); (repeat ((first | refine Nd.mk (fun w hw => hw.2.1) ?_ | refine VrN.norm (wrap_i64 (by omega)) ?_ | refine VrN.keep ?_ | refine Nd.mk (by decide +kernel) ?_ | refine Nd.mk (by omega) ?_ | refine RdN.intro _ rfl (by rfl) ?_); (conv => whnf))))
            refine Compact_n 4 (sortS names) names.length (sortS_len names) b2 c2 (by omega) hc2 rfl fun ys => ?_
            -- fun w hw => hw.2.1: why the kind holds
            ((conv => whnf); (repeat ((first | refine Nd.mk (fun w hw => hw.2.1) ?_ | refine VrN.norm (wrap_i64 (by omega)) ?_ | refine VrN.keep ?_ | refine Nd.mk (by decide +kernel) ?_ | refine Nd.mk (by omega) ?_ | refine RdN.intro _ rfl (by rfl) ?_); (conv => whnf))))
            -- []string: the type, 118: the operand, (p := some ⟨b2, 0, none⟩) (n := (Lib.compact (sortS names)).length) (c := c2): the slice
            refine BlindW.len (x := .tmp 118) (T := 40) (p := some ⟨b2, 0, none⟩) (n := (Lib.compact (sortS names)).length) (c := c2) rfl rfl rfl Tryz.underlying40 ?_ ?_
            · rfl
            -- fun w hw => hw.2.1: why the kind holds
            ((conv => whnf); (repeat ((first | refine Nd.mk (fun w hw => hw.2.1) ?_ | refine VrN.norm (wrap_i64 (by omega)) ?_ | refine VrN.keep ?_ | refine Nd.mk (by decide +kernel) ?_ | refine Nd.mk (by omega) ?_ | refine RdN.intro _ rfl (by rfl) ?_); (conv => whnf))))
            have hcs := compact_sort names
            refine brd_eq (fun hcp => ?_) (fun hcp => ?_)
            · -- fun w hw => hw.2.1: why the kind holds
              ((conv => whnf); (repeat ((first | refine Nd.mk (fun w hw => hw.2.1) ?_ | refine VrN.norm (wrap_i64 (by omega)) ?_ | refine VrN.keep ?_ | refine Nd.mk (by decide +kernel) ?_ | refine Nd.mk (by omega) ?_ | refine RdN.intro _ rfl (by rfl) ?_); (conv => whnf))))
              -- []string: the type, 126: the operand, 3: the field, .slice na names.length nc: the value
              refine ReadC.one (T := 40) (x := .tmp 126) (a := some ⟨cb, 0, none⟩) (q := 3) (k := 5) (xs := [.int .i64 8, .int .i64 num, .string (bs text), .slice na names.length nc, .slice ia items.length ic]) (.slice na names.length nc) ?_ ?_ ?_ ?_ ?_ ?_
              · rfl
              · rfl
              · rfl
              · exact fun w hw => hw
              · rfl
              -- fun w hw => hw.2.1: why the kind holds
              ((conv => whnf); (repeat ((first | refine Nd.mk (fun w hw => hw.2.1) ?_ | refine VrN.norm (wrap_i64 (by omega)) ?_ | refine VrN.keep ?_ | refine Nd.mk (by decide +kernel) ?_ | refine Nd.mk (by omega) ?_ | refine RdN.intro _ rfl (by rfl) ?_); (conv => whnf))))
              refine call1 (HasS_c (fun s => !iiB s) 90 #[] (fun _ => True) na nc names (fun p hp H _ => plain1_c p (hnw p hp) H) hna (by omega) _ (fun w hw => ⟨hw.1.1, trivial⟩)) ?_
              -- fun w hw => hw.2.1: why the kind holds
              ((conv => whnf); (repeat ((first | refine Nd.mk (fun w hw => hw.2.1) ?_ | refine VrN.norm (wrap_i64 (by omega)) ?_ | refine VrN.keep ?_ | refine Nd.mk (by decide +kernel) ?_ | refine Nd.mk (by omega) ?_ | refine RdN.intro _ rfl (by rfl) ?_); (conv => whnf))))
              exact out_bool (by
                have hmx : -Go.Core.maxI ≤ 0 ∧ (0 : Int) ≤ Go.Core.maxI := by decide
                have hl : names.length = items.length := by omega
                have hnd : names.Nodup := hcs.1 (by unfold sortS at hcp; omega)
                have hal : (!names.any fun s => !iiB s) = names.all iiB := by rw [List.all_eq_not_any_not]
                rw [hal]
                unfold Go.Core.plainS
                simp [hl, hnd, hu, hmx, hf])
            · -- fun w hw => hw.2.1: why the kind holds
              ((conv => whnf); (repeat ((first | refine Nd.mk (fun w hw => hw.2.1) ?_ | refine VrN.norm (wrap_i64 (by omega)) ?_ | refine VrN.keep ?_ | refine Nd.mk (by decide +kernel) ?_ | refine Nd.mk (by omega) ?_ | refine RdN.intro _ rfl (by rfl) ?_); (conv => whnf))))
              exact out_bool (by
                have hnd : ¬ names.Nodup := fun h => hcp (by have := hcs.2 h; unfold sortS; omega)
                unfold Go.Core.plainS
                simp [hnd])
          · -- fun w hw => hw.2.1: why the kind holds
            ((conv => whnf); (repeat ((first | refine Nd.mk (fun w hw => hw.2.1) ?_ | refine VrN.norm (wrap_i64 (by omega)) ?_ | refine VrN.keep ?_ | refine Nd.mk (by decide +kernel) ?_ | refine Nd.mk (by omega) ?_ | refine RdN.intro _ rfl (by rfl) ?_); (conv => whnf))))
            exact out_bool (by
              have : ¬ names.length = items.length := by omega
              unfold Go.Core.plainS; simp [this])
    | false =>
      refine .inr ⟨by clear hes; revert p0 p13 p5 p10 p14 p15; decide +kernel, plN p0 p13 p5 p10 p14 p15 true, by simp [plN], ?_⟩
      intro i hi
      have h17 : i < 17 := by
        obtain ⟨_, o, ho, _⟩ := mem_ready.1 hi
        exact (Array.getElem?_eq_some_iff.1 ho).1
      obtain rfl | rfl | rfl | rfl | rfl | rfl | rfl | rfl | rfl | rfl | rfl | rfl | rfl | rfl | rfl | rfl | rfl : i = 0 ∨ i = 1 ∨ i = 2 ∨ i = 3 ∨ i = 4 ∨ i = 5 ∨ i = 6 ∨ i = 7 ∨ i = 8 ∨ i = 9 ∨ i = 10 ∨ i = 11 ∨ i = 12 ∨ i = 13 ∨ i = 14 ∨ i = 15 ∨ i = 16 := by omega
      · obtain ⟨rfl, rfl, rfl, rfl, rfl⟩ : p0 = false ∧ p5 = false ∧ p10 = false ∧ p14 = false ∧ p15 = false := by
          clear hes
          revert p0 p13 p5 p10 p14 p15
          decide +kernel
        (conv => whnf)
        refine EffW.mkMap rfl fun b' => ?_
        (conv => whnf)
        exact ⟨true, p13, false, false, false, false, false, b', 0, #[], by cases p13 <;> rfl, by cases p13 <;> rfl, rfl, rfl, rfl, MapIs.nil.congr fun k => by simp [plWords]⟩
      · exfalso
        clear hes
        revert p0 p13 p5 p10 p14 p15
        decide +kernel
      · exfalso
        clear hes
        revert p0 p13 p5 p10 p14 p15
        decide +kernel
      · exfalso
        clear hes
        revert p0 p13 p5 p10 p14 p15
        decide +kernel
      · exfalso
        clear hes
        revert p0 p13 p5 p10 p14 p15
        decide +kernel
      · obtain ⟨rfl, rfl, rfl⟩ : p0 = true ∧ p5 = false ∧ p15 = false := by
          clear hes
          revert p0 p13 p5 p10 p14 p15
          decide +kernel
        (conv => whnf)
        refine EffW.putMap 2 rfl Tryz.underlying119 Tryz.underlying3 rfl rfl rfl rfl (hes.none (by simp [plWords])) ?_
        (conv => whnf)
        exact ⟨true, p13, true, p10, p14, false, false, b, cl + 1, _, by clear hes hi; revert p13 p10 p14; decide, by cases p13 <;> cases p10 <;> cases p14 <;> rfl, rfl, rfl, rfl, (hes.put (by simp [plWords]) _ cl).congr fun k => by
          unfold plWords
          by_cases hk : k = 4
          · subst hk; simp
          · simp [hk]⟩
      · exfalso
        clear hes
        revert p0 p13 p5 p10 p14 p15
        decide +kernel
      · exfalso
        clear hes
        revert p0 p13 p5 p10 p14 p15
        decide +kernel
      · exfalso
        clear hes
        revert p0 p13 p5 p10 p14 p15
        decide +kernel
      · exfalso
        clear hes
        revert p0 p13 p5 p10 p14 p15
        decide +kernel
      · obtain ⟨rfl, rfl, rfl⟩ : p0 = true ∧ p10 = false ∧ p15 = false := by
          clear hes
          revert p0 p13 p5 p10 p14 p15
          decide +kernel
        (conv => whnf)
        refine EffW.putMap 2 rfl Tryz.underlying119 Tryz.underlying3 rfl rfl rfl rfl (hes.none (by simp [plWords])) ?_
        (conv => whnf)
        exact ⟨true, p13, p5, true, p14, false, false, b, cl + 1, _, by clear hes hi; revert p13 p5 p14; decide, by cases p13 <;> cases p5 <;> cases p14 <;> rfl, rfl, rfl, rfl, (hes.put (by simp [plWords]) _ cl).congr fun k => by
          unfold plWords
          by_cases hk : k = 5
          · subst hk; simp
          · simp [hk]⟩
      · exfalso
        clear hes
        revert p0 p13 p5 p10 p14 p15
        decide +kernel
      · exfalso
        clear hes
        revert p0 p13 p5 p10 p14 p15
        decide +kernel
      · obtain ⟨rfl, rfl, rfl⟩ : p13 = false ∧ p14 = false ∧ p15 = false := by
          clear hes
          revert p0 p13 p5 p10 p14 p15
          decide +kernel
        (conv => whnf)
        refine call1 (IsConst_c text htl _) ?_
        (conv => whnf)
        exact ⟨p0, true, p5, p10, false, false, false, b, cl, es, by clear hes hi; revert p0 p5 p10; decide, by cases p0 <;> cases p5 <;> cases p10 <;> rfl, rfl, rfl, rfl, hes⟩
      · obtain ⟨rfl, rfl, rfl, rfl⟩ : p0 = true ∧ p14 = false ∧ p15 = false ∧ p13 = true := by
          clear hes
          revert p0 p13 p5 p10 p14 p15
          decide +kernel
        (conv => whnf)
        refine EffW.putMap 2 rfl Tryz.underlying119 Tryz.underlying3 rfl rfl rfl rfl (hes.none (by simp [plWords])) ?_
        (conv => whnf)
        exact ⟨true, true, p5, p10, true, false, false, b, cl + 1, _, by clear hes hi; revert p5 p10; decide, by cases p5 <;> cases p10 <;> rfl, rfl, rfl, rfl, (hes.put (by simp [plWords]) _ cl).congr fun k => by
          unfold plWords
          by_cases hk : k = 8
          · subst hk; simp
          · simp [hk]⟩
      · obtain ⟨rfl, rfl, rfl, rfl, rfl, rfl⟩ : p0 = true ∧ p13 = true ∧ p5 = true ∧ p10 = true ∧ p14 = true ∧ p15 = false := by
          clear hes
          revert p0 p13 p5 p10 p14 p15
          decide +kernel
        (conv => whnf)
        exact ⟨true, true, true, true, true, true, false, b, cl, es, rfl, rfl, rfl, rfl, rfl, hes⟩
      · obtain ⟨rfl, rfl, rfl, rfl, rfl, rfl⟩ : p0 = true ∧ p13 = true ∧ p5 = true ∧ p10 = true ∧ p14 = true ∧ p15 = true := by
          clear hes
          revert p0 p13 p5 p10 p14 p15
          decide +kernel
        (conv => whnf)
        exact ⟨true, true, true, true, true, true, true, b, cl, es, rfl, rfl, rfl, rfl, rfl, hes⟩
  · (first | refine wX ?_ | exact wZ)
    refine ReadC.one (T := 9) (x := .tmp 8) (a := some ⟨cb, 0, none⟩) (q := 2) (k := 5) (xs := [.int .i64 kind, .int .i64 num, .string (bs text), .slice na names.length nc, .slice ia items.length ic]) (.string (bs text)) ?_ ?_ ?_ ?_ ?_ ?_
    · rfl
    · rfl
    · rfl
    · exact fun w hw => hw
    · rfl
    (first | refine wX ?_ | exact wZ)
    refine BlindW.lenS (x := .tmp 9) (T := 9) (b := bs text) rfl rfl rfl Tryz.underlying9 ?_ ?_
    · rfl
    rw [bs_size]
    (first | refine wX ?_ | exact wZ)
    refine ReadC.one (T := 9) (x := .tmp 12) (a := some ⟨cb, 0, none⟩) (q := 2) (k := 5) (xs := [.int .i64 kind, .int .i64 num, .string (bs text), .slice na names.length nc, .slice ia items.length ic]) (.string (bs text)) ?_ ?_ ?_ ?_ ?_ ?_
    · rfl
    · rfl
    · rfl
    · exact fun w hw => hw
    · rfl
    (first | refine wX ?_ | exact wZ)
    refine BlindW.lenS (x := .tmp 13) (T := 9) (b := bs text) rfl rfl rfl Tryz.underlying9 ?_ ?_
    · rfl
    rw [bs_size]
    (first | refine wX ?_ | exact wZ)
    refine ReadC.one (T := 9) (x := .tmp 16) (a := some ⟨cb, 0, none⟩) (q := 2) (k := 5) (xs := [.int .i64 kind, .int .i64 num, .string (bs text), .slice na names.length nc, .slice ia items.length ic]) (.string (bs text)) ?_ ?_ ?_ ?_ ?_ ?_
    · rfl
    · rfl
    · rfl
    · exact fun w hw => hw
    · rfl
    (first | refine wX ?_ | exact wZ)
    exact ⟨false, false, false, false, false, false, false, 0, 0, #[], rfl, rfl, rfl, rfl, rfl, MapIs.nil.congr fun k => by simp [plWords]⟩
end Go.Proofs.YtahjbnfbilkbcaaGreatDoor

/-
  AX, forty-seventh text: what is known said in another way, between the rounds of a loop: own entries that nobody writes any more become facts.
-/
namespace Go.AX

/-- What is over: what does not stay as it is. -/
def restK : List Ent → List Ent → List Ent
  | [], _ => []
  | h :: H, [] => h :: restK H []
  | h :: H, .fact _ :: G => h :: restK H G
  | h :: H, .dead :: G => h :: restK H G
  | .fact F :: H, _ :: G => .fact F :: restK H G
  | _ :: H, _ :: G => .dead :: restK H G
theorem restK_len : ∀ H G : List Ent, (restK H G).length = H.length
  | [], _ => rfl
  | _ :: H, [] => by simp [restK, restK_len H []]
  | h :: H, g :: G => by cases g <;> cases h <;> simp [restK, restK_len H G]
theorem restK_get : ∀ (H G : List Ent) (i : Nat) (e : Ent), (restK H G)[i]? = some e → H[i]? = some e ∨ e = .dead
  | [], _, _, _, h => by cases h
  | h :: H, [], 0, e, he => .inl he
  | h :: H, [], i + 1, e, he => restK_get H [] i e he
  | h :: H, g :: G, 0, e, he => by cases g <;> cases h <;> first | exact .inl he | exact .inr (Option.some.inj he).symm
  | h :: H, g :: G, i + 1, e, he => restK_get H G i e (by cases g <;> cases h <;> exact he)
/-- Where an entry stays that may be written, nothing is over. -/
theorem restK_stay : ∀ (H G : List Ent) (i : Nat) (e f : Ent) (ρ : List Loc) (b : Nat), entB ρ i e b → f.isApp = true → G[i]? = some e → (restK H G)[i]? = some f → False
  | [], _, _, _, _, _, _, _, _, _, h => by cases h
  | h :: H, [], _, _, _, _, _, _, _, h1, _ => by cases h1
  | h :: H, g :: G, 0, e, f, ρ, b, he, hf, h1, h2 => by
    obtain rfl := Option.some.inj h1
    cases g <;> first | (cases he; done) | (cases h <;> (obtain rfl := Option.some.inj h2; cases hf))
  | h :: H, g :: G, i + 1, e, f, ρ, b, he, hf, h1, h2 => restK_stay H G i e f (ρ.drop 1) b (by
      revert he
      cases e <;> simp [entB]) hf h1 (by cases g <;> cases h <;> exact h2)
def SealE (R : World → Prop) (h g : Ent) : Prop := g = .dead ∨ g = h ∨ ∃ Γ, g = .fact Γ ∧ ∀ w, R w → Γ w
def SealR (R : World → Prop) : List Ent → List Ent → Prop
  | [], [] => True
  | h :: H, g :: G => SealE R h g ∧ SealR R H G
  | _, _ => False
theorem SealR.get {R : World → Prop} : ∀ {H G : List Ent}, SealR R H G → G.length = H.length ∧ ∀ (i : Nat) (g : Ent), G[i]? = some g → ∃ h, H[i]? = some h ∧ SealE R h g
  | [], [], _ => ⟨rfl, fun _ _ h => by cases h⟩
  | h :: H, g :: G, hs => by
    obtain ⟨h1, h2⟩ := SealR.get hs.2
    refine ⟨by simp [h1], fun i e he => ?_⟩
    cases i with
    | zero => obtain rfl := Option.some.inj he; exact ⟨h, rfl, hs.1⟩
    | succ i => exact h2 i e he
  | [], _ :: _, h => h.elim
  | _ :: _, [], h => h.elim
theorem turnS {H G : List Ent} (h : SealR (Facts (restK H G)) H G) : TurnS H G := by
  obtain ⟨hl, hg⟩ := h.get
  refine ⟨hl, fun ρ S w hs => ?_⟩
  have h1 := hs.dull (restK_len H G) (restK_get H G)
  have hno : ∀ (i : Nat) (e : Ent) (b : Nat), G[i]? = some e → entB ρ i e b → H[i]? = some e := fun i e b he hb => by
    obtain ⟨f, hf, h2⟩ := hg i e he
    rcases h2 with rfl | rfl | ⟨Γ, rfl, _⟩
    · cases hb
    · exact hf
    · cases hb
  have hmb : ∀ b, mb ρ G b → mb ρ H b := fun b ⟨i, e, he, hb⟩ => ⟨i, e, hno i e b he hb, hb⟩
  refine ⟨fun b => S b ∨ appB (restK H G) b, ⟨by rw [hs.len, hl], fun i e he => ?_, fun i j e f b he hf hb hc => hs.inj i j e f b (hno i e b he hb) (hno j f b hf hc) hb hc, fun b ⟨i, e, he, hb⟩ hS => ?_, fun b hb => ?_⟩, ⟨[], by simp⟩, rfl, rfl, rfl, Nat.le_refl _, fun _ _ _ => rfl, fun b hb => ?_, fun b hb => .inl (hmb b hb)⟩
  · obtain ⟨f, hf, h2⟩ := hg i e he
    rcases h2 with rfl | rfl | ⟨Γ, rfl, hΓ⟩
    · trivial
    · exact (hs.ent i _ hf).grow fun b hb => .inl hb
    · exact h1.imm.mono hΓ
  · have a1 := hno i e b he hb
    rcases hS with hS | hS
    · exact hs.out b ⟨i, _, a1, hb⟩ hS
    · obtain ⟨j, f, hf, hfa, hfb⟩ := appB_get hS
      rcases restK_get H G j f hf with hH | rfl
      · obtain rfl := hs.inj i j _ f b a1 hH hb (hfb ρ j)
        exact restK_stay H G i e f ρ b hb hfa he hf
      · cases hfa
  · rcases hb with hb | hb
    · exact hs.low b hb
    · obtain ⟨i, e, he, heb⟩ := appB_mb (ρ := ρ) hb
      exact h1.blk_lt he heb
  · rcases hb with hb | hb
    · exact .inl hb
    · obtain ⟨j, f, hf, hfa, hfb⟩ := appB_get hb
      rcases restK_get H G j f hf with hH | rfl
      · exact .inr (.inl ⟨j, f, hH, hfb _ _⟩)
      · cases hfa
theorem turn_refl (H : List Ent) : TurnS H H := ⟨rfl, fun ρ S w hs => ⟨S, hs, Ev.refl _ _ _ _⟩⟩
end Go.AX

/-
  Contracts: a graph for the specification, and back (law).
-/
namespace Go.Proofs.YtahjbnfbilkbcaaGreatDoor
open Go.AX Go.RowKit Go.Core
set_option maxRecDepth 20000

/-- A graph that is looked at. -/
def Small (l : List CellP) : Prop := l.length ≤ 2000 ∧ ∀ p ∈ l, p.c.names.length ≤ 2000 ∧ p.c.items.length ≤ 2000
theorem mem_le {α : Type} (f : α → Nat) : ∀ {l : List α} {x : α}, x ∈ l → f x ≤ (l.map f).sum
  | y :: l, x, h => by
    rw [List.map_cons, List.sum_cons]
    rcases List.mem_cons.1 h with rfl | h
    · omega
    · have := mem_le f h; omega
theorem small_of {l : List CellP} (h : largeB l = false) : Small l := by
  unfold largeB at h
  have h1 := of_decide_eq_false h
  refine ⟨by omega, fun p hp => ?_⟩
  have := mem_le (fun p : CellP => p.c.items.length + p.c.names.length) hp
  unfold sizeG at h1
  omega
/-- A graph that was handed back. -/
def GrR (l : List Cell) (v : Value) (G : World → Prop) : Prop := ∃ (oa : Option Addr) (oc : Nat) (m : List CellP), v = .slice oa m.length oc ∧ (oa = none → m = []) ∧ m.map (·.c) = l ∧ (∀ p ∈ m, CellOk p) ∧ ∀ w, G w → GrF oa m w
structure DSt where
  i : Nat
  oa : Option Addr
  oc : Nat
  m : List CellP
def DInv (l : List CellP) : DSt → Prop := fun ⟨i, oa, oc, m⟩ => i ≤ l.length ∧ m.map (·.c) = (l.take i).map (·.c) ∧ (∀ p ∈ m, CellOk p) ∧ (oa = none → m = []) ∧ m.length ≤ oc
theorem DInv.len {l : List CellP} {i oc : Nat} {oa : Option Addr} {m : List CellP} (h : DInv l ⟨i, oa, oc, m⟩) : m.length = i := by
  have h1 := congrArg List.length h.2.1
  simp only [List.length_map, List.length_take] at h1
  have := h.1
  omega
theorem grC_len (l : List CellP) : (grC l).length = l.length * 5 := by
  unfold grC
  induction l with
  | nil => rfl
  | cons p l ih => rw [List.flatMap_cons, List.length_append, ih, List.length_cons]; show 5 + _ = _; omega
theorem grC_snoc (l : List CellP) (p : CellP) : grC (l ++ [p]) = grC l ++ cellC p := by unfold grC; rw [List.flatMap_append]; simp
theorem gr_one (l : List CellP) : ∀ u ∈ grC l, oneV u = true := by
  intro u hu
  unfold grC at hu
  obtain ⟨p, _, hp⟩ := List.mem_flatMap.1 hu
  unfold cellC at hp
  rcases List.mem_cons.1 hp with rfl | hp
  · rfl
  rcases List.mem_cons.1 hp with rfl | hp
  · rfl
  rcases List.mem_cons.1 hp with rfl | hp
  · rfl
  rcases List.mem_cons.1 hp with rfl | hp
  · rfl
  rcases List.mem_cons.1 hp with rfl | hp
  · rfl
  cases hp
-- cabochon/cabochonlaw21.as: the function's name, core.Cell: the type of what is read, cabochonref21.Cell: of what is made, as_c: the theorem
set_option maxHeartbeats 4000000 in
theorem as_c (a : Option Addr) (ca : Nat) (l : List CellP) (ha : a = none → l = []) (hs : Small l) (hok : ∀ p ∈ l, CellOk p) : SpecF Tryz.prog 16 [.slice a l.length ca] (GrF a l) (GrR (l.map (·.c))) := by
  obtain ⟨hl, hsm⟩ := hs
  refine specF hm Tryz.func16 (by kernel_rfl) rfl rfl ?_
  (first | refine wX ?_ | exact wZ)
  refine LoopN.introS DSt (DInv l) (fun ⟨i, oa, oc, m⟩ => mkS 35 0 [(0, .c (.v (.slice a l.length ca))), (3, .c (.v (.slice oa m.length oc))), (4, .c (.v (.int .i64 (i : Int))))]) (fun ⟨i, oa, oc, m⟩ => [.fact (GrF a l), .app 73 5 (grC m) oa m.length oc, .fact (fun w => ∀ p ∈ m, CellF p w)]) (fun ⟨i, _, _, _⟩ => l.length - i) [.app 73 5 [] none 0 0, .dead] rfl (fun _ => rfl) (fun _ => rfl) (fun _ _ => ⟨trivial, trivial, trivial, trivial⟩) ?_ ?_
  · refine ⟨⟨0, none, 0, []⟩, ⟨Nat.zero_le _, rfl, (fun p h => by cases h), (fun _ => rfl), Nat.le_refl _⟩, ?_, [.fact (GrF a l), .app 73 5 [] none 0 0, .fact (fun w => ∀ p ∈ [], CellF p w)], turnS ?_, ?_⟩
    · (repeat' (first | exact trivial | refine And.intro (by with_reducible rfl) ?_ | (with_reducible exact wkC_refl _) | (with_reducible exact wkCs_refl _) | refine And.intro ?_ ?_))
      all_goals rfl
    · exact ⟨.inr (.inl rfl), .inr (.inl rfl), .inr (.inr ⟨_, rfl, fun w _ p hp => by cases hp⟩), trivial⟩
    · exact wkH_refl _
  rintro ⟨i, oa, oc, m⟩ hinv
  have hml := hinv.len
  obtain ⟨hi, hmc, hmo, hoa, hoc⟩ := hinv
  (first | refine wX ?_ | exact wZ)
  refine brd_dec (fun h1 => ?_) (fun h1 => ?_)
  · obtain ⟨p, hp⟩ : ∃ p, l[i]? = some p := ⟨_, List.getElem?_eq_getElem (by omega)⟩
    have hpm := List.mem_of_getElem? hp
    have hpo := hok p hpm
    obtain ⟨hnl, hil⟩ := hsm p hpm
    have hsa : a.isSome = true := by
      cases a with
      | none => rw [ha rfl] at hp; cases hp
      | some b => rfl
    (first | refine wX ?_ | exact wZ)
    refine Nd.mk ⟨hsa, by omega, by omega⟩ ?_
    (first | refine wX ?_ | exact wZ)
    refine LdN.agg (cellC p) rfl (fun w hw => hw.1.1) rfl (fun k hk => by rw [Int.toNat_natCast]; exact grC_get l i k hk hp) ?_
    (first | refine wXB ?_ | exact wZB)
    refine BoxN.known [.int .i64 0, .int .i64 0, .string { data := #[] }, .slice none 0 0, .slice none 0 0] rfl fun cb => ?_
    (first | refine wXB ?_ | exact wZB)
    refine EffW.appTo (i := 3) (q := 0) (ys := cellC p) (cellC p) 5 rfl rfl rfl rfl rfl rfl rfl (Nat.le_of_ble_eq_true rfl) rfl rfl ?_
    (first | refine wXB ?_ | exact wZB)
    refine DrawN.planK hm (fun w => SlAt (some ⟨cb, 0, none⟩) 5 (cellC p) w) [7, 11] [0, 1, 3, 5, 8, 12] [(9, 1), (2, 1), (4, 1), (6, 1), (13, 1), (7, 2), (10, 0), (11, 2), (14, 0), (15, 0), (16, 0), (17, 0), (18, 0)] (by decide +kernel) (fun w hw => hw.2.2.2.1) ?_
    -- fun w hw => hw.2.2.2.1: why the kind holds
    ((conv => whnf); (repeat ((first | refine Nd.mk (fun w hw => hw.2.2.2.1) ?_ | refine VrN.norm (wrap_i64 (by omega)) ?_ | refine VrN.keep ?_ | refine Nd.mk (by decide +kernel) ?_ | refine Nd.mk (by omega) ?_ | refine RdN.intro _ rfl (by rfl) ?_); (conv => whnf))))
    refine ReadC.one (a := some ⟨cb, 0, none⟩) (q := 3) (.slice p.na p.c.names.length p.nc) rfl rfl rfl (fun w hw => hw) rfl ?_
    -- fun w hw => hw.2.2.2.1: why the kind holds
    ((conv => whnf); (repeat ((first | refine Nd.mk (fun w hw => hw.2.2.2.1) ?_ | refine VrN.norm (wrap_i64 (by omega)) ?_ | refine VrN.keep ?_ | refine Nd.mk (by decide +kernel) ?_ | refine Nd.mk (by omega) ?_ | refine RdN.intro _ rfl (by rfl) ?_); (conv => whnf))))
    -- 0: the field of the cell, .int .i64 p.c.kind: the value
    refine ReadC.one (a := some ⟨cb, 0, none⟩) (q := 0) (.int .i64 p.c.kind) rfl rfl rfl (fun w hw => hw) rfl ?_
    -- fun w hw => hw.2.2.2.1: why the kind holds
    ((conv => whnf); (repeat ((first | refine Nd.mk (fun w hw => hw.2.2.2.1) ?_ | refine VrN.norm (wrap_i64 (by omega)) ?_ | refine VrN.keep ?_ | refine Nd.mk (by decide +kernel) ?_ | refine Nd.mk (by omega) ?_ | refine RdN.intro _ rfl (by rfl) ?_); (conv => whnf))))
    -- 1: the field of the cell, .int .i64 p.c.num: the value
    refine ReadC.one (a := some ⟨cb, 0, none⟩) (q := 1) (.int .i64 p.c.num) rfl rfl rfl (fun w hw => hw) rfl ?_
    -- fun w hw => hw.2.2.2.1: why the kind holds
    ((conv => whnf); (repeat ((first | refine Nd.mk (fun w hw => hw.2.2.2.1) ?_ | refine VrN.norm (wrap_i64 (by omega)) ?_ | refine VrN.keep ?_ | refine Nd.mk (by decide +kernel) ?_ | refine Nd.mk (by omega) ?_ | refine RdN.intro _ rfl (by rfl) ?_); (conv => whnf))))
    -- 2: the field of the cell, .string (bs p.c.text): the value
    refine ReadC.one (a := some ⟨cb, 0, none⟩) (q := 2) (.string (bs p.c.text)) rfl rfl rfl (fun w hw => hw) rfl ?_
    -- fun w hw => hw.2.2.2.1: why the kind holds
    ((conv => whnf); (repeat ((first | refine Nd.mk (fun w hw => hw.2.2.2.1) ?_ | refine VrN.norm (wrap_i64 (by omega)) ?_ | refine VrN.keep ?_ | refine Nd.mk (by decide +kernel) ?_ | refine Nd.mk (by omega) ?_ | refine RdN.intro _ rfl (by rfl) ?_); (conv => whnf))))
    -- 4: the field of the cell, .slice p.ia p.c.items.length p.ic: the value
    refine ReadC.one (a := some ⟨cb, 0, none⟩) (q := 4) (.slice p.ia p.c.items.length p.ic) rfl rfl rfl (fun w hw => hw) rfl ?_
    -- fun w hw => hw.2.2.2.1: why the kind holds
    ((conv => whnf); (repeat ((first | refine Nd.mk (fun w hw => hw.2.2.2.1) ?_ | refine VrN.norm (wrap_i64 (by omega)) ?_ | refine VrN.keep ?_ | refine Nd.mk (by decide +kernel) ?_ | refine Nd.mk (by omega) ?_ | refine RdN.intro _ rfl (by rfl) ?_); (conv => whnf))))
    intro nb
    -- fun w hw => hw.2.2.2.1: why the kind holds
    ((conv => whnf); (repeat ((first | refine Nd.mk (fun w hw => hw.2.2.2.1) ?_ | refine VrN.norm (wrap_i64 (by omega)) ?_ | refine VrN.keep ?_ | refine Nd.mk (by decide +kernel) ?_ | refine Nd.mk (by omega) ?_ | refine RdN.intro _ rfl (by rfl) ?_); (conv => whnf))))
    refine app_any 4 [] (strC p.c.names) rfl (Nat.le_refl _) (fun h => by cases hq : p.na with | none => rw [hpo.na hq] at h; cases h | some b => rfl) (by show (strC p.c.names).length = p.c.names.length * 1; simp [strC]) (fun u hu => by obtain ⟨x, _, rfl⟩ := List.mem_map.1 hu; rfl) (fun w hw j v hv => (hw.1.2 p hpm).1.cell hv) ⟨⟨by show (0 + p.c.names.length) * 16 ≤ _; omega, by omega⟩, Nat.one_ne_zero⟩ fun nb2 nc2 hnc2 => ?_
    rw [Nat.zero_add, List.nil_append]
    -- fun w hw => hw.2.2.2.1: why the kind holds
    ((conv => whnf); (repeat ((first | refine Nd.mk (fun w hw => hw.2.2.2.1) ?_ | refine VrN.norm (wrap_i64 (by omega)) ?_ | refine VrN.keep ?_ | refine Nd.mk (by decide +kernel) ?_ | refine Nd.mk (by omega) ?_ | refine RdN.intro _ rfl (by rfl) ?_); (conv => whnf))))
    intro ib
    -- fun w hw => hw.2.2.2.1: why the kind holds
    ((conv => whnf); (repeat ((first | refine Nd.mk (fun w hw => hw.2.2.2.1) ?_ | refine VrN.norm (wrap_i64 (by omega)) ?_ | refine VrN.keep ?_ | refine Nd.mk (by decide +kernel) ?_ | refine Nd.mk (by omega) ?_ | refine RdN.intro _ rfl (by rfl) ?_); (conv => whnf))))
    refine app_any 5 [] (iC p.c.items) rfl (Nat.le_refl _) (fun h => by cases hq : p.ia with | none => rw [hpo.ia hq] at h; cases h | some b => rfl) (by show (iC p.c.items).length = p.c.items.length * 1; simp [iC]) (fun u hu => by obtain ⟨x, _, rfl⟩ := List.mem_map.1 hu; rfl) (fun w hw j v hv => (hw.1.2 p hpm).2.cell hv) ⟨⟨by show (0 + p.c.items.length) * 8 ≤ _; omega, by omega⟩, Nat.one_ne_zero⟩ fun ib2 ic2 hic2 => ?_
    rw [Nat.zero_add, List.nil_append]
    -- fun w hw => hw.2.2.2.1: why the kind holds
    ((conv => whnf); (repeat ((first | refine Nd.mk (fun w hw => hw.2.2.2.1) ?_ | refine VrN.norm (wrap_i64 (by omega)) ?_ | refine VrN.keep ?_ | refine Nd.mk (by decide +kernel) ?_ | refine Nd.mk (by omega) ?_ | refine RdN.intro _ rfl (by rfl) ?_); (conv => whnf))))
    refine RwN.own ?_
    -- fun w hw => hw.2.2.2.1: why the kind holds
    ((conv => whnf); (repeat ((first | refine Nd.mk (fun w hw => hw.2.2.2.1) ?_ | refine VrN.norm (wrap_i64 (by omega)) ?_ | refine VrN.keep ?_ | refine Nd.mk (by decide +kernel) ?_ | refine Nd.mk (by omega) ?_ | refine RdN.intro _ rfl (by rfl) ?_); (conv => whnf))))
    refine Nd.mk ⟨Nat.le_refl 1, rfl, rfl⟩ ?_
    (conv => whnf)
    refine AppN.grow 1 (grC m) (cellC ⟨p.c, some ⟨nb2, 0, none⟩, nc2, some ⟨ib2, 0, none⟩, ic2⟩) rfl rfl ⟨Nat.le_refl 1, ⟨by show (m.length + 1) * 80 ≤ _; omega, by omega⟩, by decide⟩ fun ob2 oc2 hoc2 _ => ?_
    -- fun w hw => hw.2.2.2.1: why the kind holds
    ((conv => whnf); (repeat ((first | refine Nd.mk (fun w hw => hw.2.2.2.1) ?_ | refine VrN.norm (wrap_i64 (by omega)) ?_ | refine VrN.keep ?_ | refine Nd.mk (by decide +kernel) ?_ | refine Nd.mk (by omega) ?_ | refine RdN.intro _ rfl (by rfl) ?_); (conv => whnf))))
    have hm2 : m.length + 1 = (m ++ [(⟨p.c, some ⟨nb2, 0, none⟩, nc2, some ⟨ib2, 0, none⟩, ic2⟩ : CellP)]).length := by simp
    have hg2 := grC_snoc m ⟨p.c, some ⟨nb2, 0, none⟩, nc2, some ⟨ib2, 0, none⟩, ic2⟩
    refine ⟨⟨i + 1, some ⟨ob2, 0, none⟩, oc2, m ++ [⟨p.c, some ⟨nb2, 0, none⟩, nc2, some ⟨ib2, 0, none⟩, ic2⟩]⟩, ⟨by omega, ?_, ?_, (fun h => by cases h), by omega⟩, by show l.length - (i + 1) < l.length - i; omega, ?_, [.fact (GrF a l), .app 73 5 (grC m ++ cellC ⟨p.c, some ⟨nb2, 0, none⟩, nc2, some ⟨ib2, 0, none⟩, ic2⟩) (some ⟨ob2, 0, none⟩) (m.length + 1) oc2, .fact (fun w => ∀ q ∈ m ++ [⟨p.c, some ⟨nb2, 0, none⟩, nc2, some ⟨ib2, 0, none⟩, ic2⟩], CellF q w), .dead, .dead, .dead, .dead], turnS ?_, ?_⟩
    · rw [List.take_add_one, hp, List.map_append, List.map_append, hmc]
      rfl
    · intro q hq
      rcases List.mem_append.1 hq with hq | hq
      · exact hmo q hq
      · rw [List.mem_singleton.1 hq]
        exact ⟨(fun h => by cases h), (fun h => by cases h), hpo.nl, hpo.il, hpo.nw, hpo.tl, by show p.c.names.length ≤ nc2; omega, by show p.c.items.length ≤ ic2; omega⟩
    · (repeat' (first | exact trivial | refine And.intro (by with_reducible rfl) ?_ | (with_reducible exact wkC_refl _) | (with_reducible exact wkCs_refl _) | refine And.intro ?_ ?_))
      all_goals first | rfl | exact av_int (by omega) | (rw [hm2])
    · refine ⟨.inr (.inl rfl), .inr (.inl rfl), .inr (.inr ⟨_, rfl, fun w hw q hq => ?_⟩), .inl rfl, .inl rfl, .inl rfl, .inl rfl, trivial⟩
      rcases List.mem_append.1 hq with hq | hq
      · exact hw.2.1 q hq
      · rw [List.mem_singleton.1 hq]
        exact ⟨hw.2.2.2.1, hw.2.2.2.2.1⟩
    · show wkH _ [Ent.fact (GrF a l), .app 73 5 (grC (m ++ [_])) _ (m ++ [_]).length _, _]
      rw [← hm2, hg2]
      exact ⟨wkE_refl _, wkE_refl _, wkE_refl _, trivial⟩
  · have hil : i = l.length := by omega
    subst hil
    rw [List.take_length] at hmc
    (first | refine wX ?_ | exact wZ)
    refine fin_p (GrF oa m) ⟨oa, oc, m, rfl, hoa, hmc, hmo, fun w hw => hw⟩ fun w hw => ⟨hw.2.1, hw.2.2.1⟩
end Go.Proofs.YtahjbnfbilkbcaaGreatDoor

/-
  Contract: Check (program).
-/
namespace Go.Core
theorem any_range (n : Nat) (c : Cell) : (c.items.any fun i => decide (i < 0) || decide (i ≥ (n : Int))) = !rangeB n c := by
  unfold rangeB
  rw [List.all_eq_not_any_not, Bool.not_not]
  exact congrArg (fun f => c.items.any f) (funext fun i => by rw [Bool.eq_iff_iff]; simp)
end Go.Core
namespace Go.Proofs.YtahjbnfbilkbcaaGreatDoor
open Go.AX Go.RowKit Go.Core Go.Scan
set_option maxRecDepth 20000

theorem plain_c (p : CellP) (hp : CellOk p) (hs : p.c.names.length ≤ 2000 ∧ p.c.items.length ≤ 2000) : ∀ H, (∀ w, Facts H w → CellF p w) → SpecH Tryz.prog 45 (pvs [cellV p]) H (Ret (.bool (Go.Core.plainS p.c)) H) := by
  obtain ⟨⟨kind, num, text, names, items⟩, na, nc, ia, ic⟩ := p
  exact plain_c0 kind num text names items na nc ia ic hp.na hp.ia hs.1 hs.2 hp.nw hp.tl
theorem out_c (x : Int) (b : Nat) (a : Option Addr) (n c : Nat) : ∀ H, (∀ w, Facts H w → SlAt (some ⟨b, 0, none⟩) 1 [.slice a n c] w) → SpecH Tryz.prog 47 (pvs [.int .i64 x, .pointer (some ⟨b, 0, none⟩)]) H (Ret (.bool (decide (x < 0) || decide (x ≥ (n : Int)))) H) := by
  refine factC hm Tryz.func47 (by kernel_rfl) rfl rfl ?_
  (first | refine wX ?_ | exact wZ)
  refine brd_dec (fun h1 => ?_) (fun h1 => ?_)
  · (first | refine wX ?_ | exact wZ)
    exact out_bool (by simp [h1])
  · (first | refine wX ?_ | exact wZ)
    refine LdN.one (a := some ⟨b, 0, none⟩) (q := 0) (.slice a n c) rfl (fun w hw => hw.1) rfl ?_
    (first | refine wX ?_ | exact wZ)
    exact out_bool (by simp [h1])
def errI (b : Bool) : Value := .int .i64 (if b then 0 else 1)
set_option maxHeartbeats 4000000 in
theorem Check_c (a : Option Addr) (ca : Nat) (l : List CellP) (ha : a = none → l = []) (hs : Small l) (hok : ∀ p ∈ l, CellOk p) :
    ∀ H, (∀ w, Facts H w → GrF a l w) → ∃ b : Bool, (b = true ↔ ValidP (l.map (·.c))) ∧ SpecH Tryz.prog 18 (pvs [.slice a l.length ca]) H (Ret (errI b) H) := by
  intro H hH
  obtain ⟨b, hb⟩ : ∃ b : Bool, b = true ↔ ValidP (l.map (·.c)) := by
    by_cases h : ValidP (l.map (·.c))
    · exact ⟨true, fun _ => h, fun _ => rfl⟩
    · exact ⟨false, (fun h => by cases h), fun h2 => absurd h2 h⟩
  refine ⟨b, hb, ?_⟩
  obtain ⟨hl, hsm⟩ := hs
  have hml : (l.map (·.c)).length = l.length := by simp
  have hno : ¬ ValidP (l.map (·.c)) → (1 : Int) = if b then 0 else 1 := fun h => by
    cases b with
    | false => rfl
    | true => exact absurd (hb.1 rfl) h
  refine factC hm Tryz.func18 (by kernel_rfl) rfl rfl ?_ H hH
  (first | refine wXB ?_ | exact wZB)
  refine BoxN.known [.slice a l.length ca] rfl fun gb => ?_
  (first | refine wXB ?_ | exact wZB)
  -- the graph, out of its box
  refine LdN.one (a := some ⟨gb, 0, none⟩) (q := 0) (.slice a l.length ca) rfl (fun w hw => hw.2.1) rfl ?_
  (first | refine wXB ?_ | exact wZB)
  refine brd_dec (fun h0 => ?_) (fun h0 => ?_)
  · (first | refine wXB ?_ | exact wZB)
    exact out_int (hno fun h => by have := h.1; omega)
  (first | refine wXB ?_ | exact wZB)
  -- the graph, out of its box
  refine LdN.one (a := some ⟨gb, 0, none⟩) (q := 0) (.slice a l.length ca) rfl (fun w hw => hw.2.1) rfl ?_
  (first | refine wXB ?_ | exact wZB)
  refine loopS Nat (fun i => i ≤ l.length ∧ ∀ p ∈ l.take i, cellD l.length p.c = true) (fun i => mkS Tryz.f18.ntmps 0 [(1, .c (.v (.pointer (some ⟨gb, 0, none⟩)))), (10, .c (.v (.slice a l.length ca))), (11, .c (.v (.int .i64 (l.length : Int)))), (12, .c (.v (.int .i64 (i : Int))))]) (fun i => l.length - i) rfl (fun _ => rfl) 0 ⟨Nat.zero_le _, by simp⟩ ?_ ?_
  · (repeat' (first | exact trivial | refine And.intro (by with_reducible rfl) ?_ | (with_reducible exact wkC_refl _) | (with_reducible exact wkCs_refl _) | refine And.intro ?_ ?_))
    all_goals rfl
  intro i ⟨hi, hc⟩
  (first | refine wXB ?_ | exact wZB)
  refine brd_dec (fun h1 => ?_) (fun h1 => ?_)
  · obtain ⟨p, hp⟩ : ∃ p, l[i]? = some p := ⟨_, List.getElem?_eq_getElem (by omega)⟩
    have hpm := List.mem_of_getElem? hp
    have hpo := hok p hpm
    have hsa : a.isSome = true := by
      cases a with
      | none => rw [ha rfl] at hp; cases hp
      | some b => rfl
    have hbad : (Go.Core.plainS p.c && rangeB l.length p.c) = false → ¬ ValidP (l.map (·.c)) := fun h hv => by
      have := hv.2.1 p.c (List.mem_map.2 ⟨p, hpm, rfl⟩)
      rw [hml, ← cell_eq, h] at this
      cases this
    (first | refine wXB ?_ | exact wZB)
    refine Nd.mk ⟨hsa, by omega, by omega⟩ ?_
    (first | refine wXB ?_ | exact wZB)
    refine LdN.agg (cellC p) rfl (fun w hw => hw.1.1) rfl (fun k hk => by rw [Int.toNat_natCast]; exact grC_get l i k hk hp) ?_
    (first | refine wXB ?_ | exact wZB)
    refine BoxN.known [.int .i64 0, .int .i64 0, .string { data := #[] }, .slice none 0 0, .slice none 0 0] rfl fun cb => ?_
    (first | refine wXB ?_ | exact wZB)
    refine EffW.appTo (i := 2) (q := 0) (ys := cellC p) (cellC p) 5 rfl rfl rfl rfl rfl rfl rfl (Nat.le_of_ble_eq_true rfl) rfl rfl ?_
    (first | refine wXB ?_ | exact wZB)
    refine LdN.agg (a := some ⟨cb, 0, none⟩) (q := 0) (cellC p) rfl (fun w hw => hw.2.2.1) rfl (fun k hk => by rw [Nat.zero_add]) ?_
    (first | refine wXB ?_ | exact wZB)
    refine call1 (plain_c p hpo (hsm p hpm) _ (fun w hw => hw.1.2 p hpm)) ?_
    cases hpl : Go.Core.plainS p.c with
    | false =>
      (first | refine wXB ?_ | exact wZB)
      exact out_int (hno (hbad (by rw [hpl]; rfl)))
    | true =>
    (first | refine wXB ?_ | exact wZB)
    refine LdN.one (a := some ⟨cb, 0, none⟩) (q := 4) (.slice p.ia p.c.items.length p.ic) rfl (fun w hw => hw.2.2.1) rfl ?_
    (first | refine wXB ?_ | exact wZB)
    refine SpecH.args (args' := pvs [.slice p.ia p.c.items.length p.ic, .func (.func 47) #[] #[.pointer (some ⟨gb, 0, none⟩)]]) (by simp [pvs, opvs, opv, nth, plainEv]; try rfl) ?_
    refine call1 (HasI_c (fun x => decide (x < 0) || decide (x ≥ (l.length : Int))) 47 #[.pointer (some ⟨gb, 0, none⟩)] (SlAt (some ⟨gb, 0, none⟩) 1 [.slice a l.length ca]) p.ia p.ic p.c.items (fun x _ H hH => out_c x gb a l.length ca H hH) hpo.ia hpo.il _ (fun w hw => ⟨(hw.1.2 p hpm).2, hw.2.1⟩)) ?_
    rw [any_range]
    cases hrg : rangeB l.length p.c with
    | false =>
      (first | refine wXB ?_ | exact wZB)
      exact out_int (hno (hbad (by rw [hpl, hrg]; rfl)))
    | true =>
    (first | refine wXB ?_ | exact wZB)
    refine ⟨i + 1, ⟨by omega, all_step hc hp (by rw [← cell_eq, hpl, hrg]; rfl)⟩, by omega, ?_, by (repeat' (first | exact trivial | exact wkE_refl _ | refine And.intro ?_ ?_))⟩
    (repeat' (first | exact trivial | refine And.intro (by with_reducible rfl) ?_ | (with_reducible exact wkC_refl _) | (with_reducible exact wkCs_refl _) | refine And.intro ?_ ?_))
    all_goals first | rfl | exact av_int (by rw [wrap_i64 (by omega)]; omega)
  have hil : i = l.length := by omega
  subst hil
  rw [List.take_length] at hc
  clear h1
  (first | refine wXB ?_ | exact wZB)
  -- the graph, out of its box
  refine LdN.one (a := some ⟨gb, 0, none⟩) (q := 0) (.slice a l.length ca) rfl (fun w hw => hw.2.1) rfl ?_
  (first | refine wXB ?_ | exact wZB)
  refine loopS Nat (fun i => i ≤ l.length ∧ ∀ p ∈ l.take i, p.c.kind = 7 → ¬ Twice (l.map (·.c)) p.c.items) (fun i => mkS Tryz.f18.ntmps 0 [(1, .c (.v (.pointer (some ⟨gb, 0, none⟩)))), (26, .c (.v (.slice a l.length ca))), (27, .c (.v (.int .i64 (l.length : Int)))), (28, .c (.v (.int .i64 (i : Int))))]) (fun i => l.length - i) rfl (fun _ => rfl) 0 ⟨Nat.zero_le _, by simp⟩ ?_ ?_
  · (repeat' (first | exact trivial | refine And.intro (by with_reducible rfl) ?_ | (with_reducible exact wkC_refl _) | (with_reducible exact wkCs_refl _) | refine And.intro ?_ ?_))
    all_goals rfl
  intro i ⟨hi, ht⟩
  (first | refine wXB ?_ | exact wZB)
  refine brd_dec (fun h1 => ?_) (fun h1 => ?_)
  · obtain ⟨p, hp⟩ : ∃ p, l[i]? = some p := ⟨_, List.getElem?_eq_getElem (by omega)⟩
    have hpm := List.mem_of_getElem? hp
    have hpo := hok p hpm
    have hsa : a.isSome = true := by
      cases a with
      | none => rw [ha rfl] at hp; cases hp
      | some b => rfl
    (first | refine wXB ?_ | exact wZB)
    refine Nd.mk ⟨hsa, by omega, by omega⟩ ?_
    (first | refine wXB ?_ | exact wZB)
    refine LdN.agg (cellC p) rfl (fun w hw => hw.1.1) rfl (fun k hk => by rw [Int.toNat_natCast]; exact grC_get l i k hk hp) ?_
    (first | refine wXB ?_ | exact wZB)
    refine BoxN.known [.int .i64 0, .int .i64 0, .string { data := #[] }, .slice none 0 0, .slice none 0 0] rfl fun cb => ?_
    (first | refine wXB ?_ | exact wZB)
    refine EffW.appTo (i := 2) (q := 0) (ys := cellC p) (cellC p) 5 rfl rfl rfl rfl rfl rfl rfl (Nat.le_of_ble_eq_true rfl) rfl rfl ?_
    (first | refine wXB ?_ | exact wZB)
    refine LdN.one (a := some ⟨cb, 0, none⟩) (q := 0) (.int .i64 p.c.kind) rfl (fun w hw => hw.2.2.1) rfl ?_
    (first | refine wXB ?_ | exact wZB)
    refine brd_eq (fun h7 => ?_) (fun h7 => ?_)
    · (first | refine wXB ?_ | exact wZB)
      -- the graph, out of its box
      refine LdN.one (a := some ⟨gb, 0, none⟩) (q := 0) (.slice a l.length ca) rfl (fun w hw => hw.2.1) rfl ?_
      (first | refine wXB ?_ | exact wZB)
      refine LdN.agg (a := some ⟨cb, 0, none⟩) (q := 0) (cellC p) rfl (fun w hw => hw.2.2.1) rfl (fun k hk => by rw [Nat.zero_add]) ?_
      (first | refine wXB ?_ | exact wZB)
      obtain ⟨t, ht1, ht2⟩ := twice_c a ca l p ha (by omega) hpo (cellD_in (hc p hpm)) [.fact (GrF a l), .app 22 1 [.slice a l.length ca] (some ⟨gb, 0, none⟩) 1 1, .app 42 5 (cellC p) (some ⟨cb, 0, none⟩) 1 1] (fun w hw => ⟨hw.1, hw.1.2 p hpm⟩)
      refine call1 ht2 ?_
      cases ht3 : t with
      | true =>
        (first | refine wXB ?_ | exact wZB)
        exact out_int (hno fun h => h.2.2 p.c (List.mem_map.2 ⟨p, hpm, rfl⟩) h7 (ht1.1 ht3))
      | false =>
      (first | refine wXB ?_ | exact wZB)
      refine ⟨i + 1, ⟨by omega, all_step ht hp (fun _ h => by rw [ht1.2 h] at ht3; cases ht3)⟩, by omega, ?_, by (repeat' (first | exact trivial | exact wkE_refl _ | refine And.intro ?_ ?_))⟩
      (repeat' (first | exact trivial | refine And.intro (by with_reducible rfl) ?_ | (with_reducible exact wkC_refl _) | (with_reducible exact wkCs_refl _) | refine And.intro ?_ ?_))
      all_goals first | rfl | exact av_int (by rw [wrap_i64 (by omega)]; omega)
    · (first | refine wXB ?_ | exact wZB)
      refine ⟨i + 1, ⟨by omega, all_step ht hp (fun h => absurd h h7)⟩, by omega, ?_, by (repeat' (first | exact trivial | exact wkE_refl _ | refine And.intro ?_ ?_))⟩
      (repeat' (first | exact trivial | refine And.intro (by with_reducible rfl) ?_ | (with_reducible exact wkC_refl _) | (with_reducible exact wkCs_refl _) | refine And.intro ?_ ?_))
      all_goals first | rfl | exact av_int (by rw [wrap_i64 (by omega)]; omega)
  · have hil : i = l.length := by omega
    subst hil
    rw [List.take_length] at ht
    (first | refine wXB ?_ | exact wZB)
    have hbt : b = true := hb.2 ⟨by omega, fun c hcm => by
        obtain ⟨p, hp, rfl⟩ := List.mem_map.1 hcm
        rw [hml]
        exact hc p hp, fun c hcm => by
        obtain ⟨p, hp, rfl⟩ := List.mem_map.1 hcm
        exact ht p hp⟩
    exact out_int (by rw [hbt]; rfl)
end Go.Proofs.YtahjbnfbilkbcaaGreatDoor

/-
  Contract: asked (program).
-/
namespace Go.Core
/-- A graph is valid, and has these cells. -/
def AskP (g : List Cell) (cs : List Int) : Prop := ValidP g ∧ ∀ x ∈ cs, 0 ≤ x ∧ x < (g.length : Int)
end Go.Core
namespace Go.Proofs.YtahjbnfbilkbcaaGreatDoor
open Go.AX Go.RowKit Go.Core Go.Scan
set_option maxRecDepth 20000

theorem out2_c (x : Int) (b : Nat) (a : Option Addr) (n c : Nat) : ∀ H, (∀ w, Facts H w → SlAt (some ⟨b, 0, none⟩) 1 [.slice a n c] w) → SpecH Tryz.prog 93 (pvs [.int .i64 x, .pointer (some ⟨b, 0, none⟩)]) H (Ret (.bool (decide (x < 0) || decide (x ≥ (n : Int)))) H) := by
  refine factC hm Tryz.func93 (by kernel_rfl) rfl rfl ?_
  (first | refine wX ?_ | exact wZ)
  refine brd_dec (fun h1 => ?_) (fun h1 => ?_)
  · (first | refine wX ?_ | exact wZ)
    exact out_bool (by simp [h1])
  · (first | refine wX ?_ | exact wZ)
    refine LdN.one (a := some ⟨b, 0, none⟩) (q := 0) (.slice a n c) rfl (fun w hw => hw.1) rfl ?_
    (first | refine wX ?_ | exact wZ)
    exact out_bool (by simp [h1])
set_option maxHeartbeats 1000000 in
theorem asked_c (a : Option Addr) (ca : Nat) (l : List CellP) (ha : a = none → l = []) (hs : Small l) (hok : ∀ p ∈ l, CellOk p) (sa : Option Addr) (sc : Nat) (cs : List Int) (hsa : sa = none → cs = []) (hcl : cs.length ≤ 2000) :
    ∀ H, (∀ w, Facts H w → GrF a l w ∧ SlAt sa (cs.length * 1) (iC cs) w) → ∃ b : Bool, (b = true ↔ AskP (l.map (·.c)) cs) ∧ SpecH Tryz.prog 50 (pvs [.slice a l.length ca, .slice sa cs.length sc]) H (Ret (errI b) H) := by
  intro H hH
  obtain ⟨b, hb⟩ : ∃ b : Bool, b = true ↔ AskP (l.map (·.c)) cs := by
    by_cases h : AskP (l.map (·.c)) cs
    · exact ⟨true, fun _ => h, fun _ => rfl⟩
    · exact ⟨false, (fun h => by cases h), fun h2 => absurd h2 h⟩
  refine ⟨b, hb, ?_⟩
  refine factC hm Tryz.func50 (by kernel_rfl) rfl rfl ?_ H hH
  (first | refine wXB ?_ | exact wZB)
  refine BoxN.known [.slice a l.length ca] rfl fun gb => ?_
  (first | refine wXB ?_ | exact wZB)
  refine SpecH.args (args' := pvs [.slice sa cs.length sc, .func (.func 93) #[] #[.pointer (some ⟨gb, 0, none⟩)]]) (by simp [pvs, opvs, opv, nth, plainEv]; try rfl) ?_
  refine call1 (HasI_c (fun x => decide (x < 0) || decide (x ≥ (l.length : Int))) 93 #[.pointer (some ⟨gb, 0, none⟩)] (SlAt (some ⟨gb, 0, none⟩) 1 [.slice a l.length ca]) sa sc cs (fun x _ H hH => out2_c x gb a l.length ca H hH) hsa (by omega) _ (fun w hw => ⟨hw.1.2, hw.2.1⟩)) ?_
  cases hany : cs.any fun x => decide (x < 0) || decide (x ≥ (l.length : Int)) with
  | true =>
    (first | refine wXB ?_ | exact wZB)
    obtain ⟨x, hx, hx2⟩ := List.any_eq_true.1 hany
    refine out_int ?_
    cases b with
    | false => rfl
    | true =>
      have h1 := (hb.1 rfl).2 x hx
      simp at hx2 h1
      omega
  | false =>
    (first | refine wXB ?_ | exact wZB)
    refine LdN.one (a := some ⟨gb, 0, none⟩) (q := 0) (.slice a l.length ca) rfl (fun w hw => hw.2.1) rfl ?_
    (first | refine wXB ?_ | exact wZB)
    obtain ⟨t, ht1, ht2⟩ := Check_c a ca l ha hs hok [.fact (fun w => GrF a l w ∧ SlAt sa (cs.length * 1) (iC cs) w), .app 22 1 [.slice a l.length ca] (some ⟨gb, 0, none⟩) 1 1] (fun w hw => hw.1.1)
    have hbt : b = t := by
      rw [Bool.eq_iff_iff, hb, ht1]
      refine ⟨fun h => h.1, fun h => ⟨h, fun x hx => ?_⟩⟩
      have := List.any_eq_false.1 hany x hx
      simp at this ⊢
      omega
    refine call1 ht2 ?_
    rw [hbt]
    (first | refine wXB ?_ | exact wZB)
    rfl
end Go.Proofs.YtahjbnfbilkbcaaGreatDoor

/-
  Contracts: the strings.Builder within a writer of one's own.
-/
namespace Go.Proofs.YtahjbnfbilkbcaaGreatDoor
open Go.AX Go.RowKit Go.Core
set_option maxRecDepth 20000

/-- What the Builder's first cell holds: nothing, or its own address, within the writer. -/
def bC1 (u : Bool) : CV := match u with | true => .lp 0 1 | false => .v (.pointer none)
def wH (gv : Value) (F : World → Prop) (u : Bool) (out : List UInt8) (i : BSt) (way : List Int) (j : BSt) : List Ent :=
  [.blk 88 [.v gv, bC1 u, .v (.slice (at0 i.ob) out.length i.cap), .v (.slice (at0 j.ob) way.length j.cap)], .app 5 1 (u8s out) (at0 i.ob) out.length i.cap, .app 3 1 (iC way) (at0 j.ob) way.length j.cap, .fact F]
theorem wH_ok (gv : Value) (F : World → Prop) (u : Bool) (out : List UInt8) (i : BSt) (way : List Int) (j : BSt) : okH (wH gv F u out i way j).length (wH gv F u out i way j) := by cases u <;> exact okHB_eq rfl
variable (gv : Value) (F : World → Prop) (way : List Int) (j : BSt)

theorem copyCheck_w (u : Bool) (out : List UInt8) (i : BSt) : SpecH Tryz.prog 116 [.c (.lp 0 1)] (wH gv F u out i way j) (RetG (ι := Unit) (fun _ => True) (fun _ => .tuple #[]) fun _ => wH gv F true out i way j) := by
  refine ownC hm Tryz.func116 (by kernel_rfl) rfl rfl (fun _ _ => wH_ok _ _ _ _ _ _ _) (fun _ _ => Nat.le_refl _) ?_
  cases u with
  | false =>
    (first | refine wX ?_ | exact wZ)
    refine ReadW.toUnsafe 86 rfl (by kernel_rfl) (by kernel_rfl) (by kernel_rfl) rfl rfl (Nat.succ_lt_succ (Nat.zero_lt_succ _)) ?_
    (first | refine wX ?_ | exact wZ)
    refine EffW.ext (e := Extern.AbiNoEscape.same) rfl Tryz.func130 (by kernel_rfl) (by kernel_rfl) (by kernel_rfl) (by kernel_rfl) (.c (.lp 0 1)) ?_ ?_
    · (first | refine wX ?_ | exact wZ)
      refine ReadW.fromUnsafe 86 rfl (by kernel_rfl) (by kernel_rfl) (by kernel_rfl) rfl rfl (by show liesAt _ _ _ (4 / _) _ _ _ = true; kernel_rfl) ?_
      (first | refine wX ?_ | exact wZ)
      exact ⟨(), trivial, rfl, wkH_refl _⟩
    · intro ρ vs hr
      match vs, hr with
      | [v], hr => exact ⟨v, hr.1, fun w => rfl⟩
      | [], hr => exact hr.elim
      | _ :: _ :: _, hr => exact hr.2.elim
  | true =>
    (first | refine wX ?_ | exact wZ)
    refine ReadW.lp_nil rfl (by kernel_rfl) rfl rfl false (.inl ⟨rfl, rfl⟩) ?_
    (first | refine wX ?_ | exact wZ)
    refine ReadW.lp_same rfl (by kernel_rfl) rfl rfl false (.inr ⟨rfl, rfl⟩) ?_
    (first | refine wX ?_ | exact wZ)
    exact ⟨(), trivial, rfl, wkH_refl _⟩
theorem WriteString_w (u : Bool) (l x : List UInt8) (i0 : BSt) (ok : i0.ok l.length) (room : l.length + x.length ≤ 140737488355328) : SpecH Tryz.prog 95 [.c (.lp 0 1), .c (.v (.string (bs x)))] (wH gv F u l i0 way j)
    (RetG (ι := BSt) (fun i => i.ok (l ++ x).length) (fun _ => .tuple #[.int .i64 x.length, .nilIface]) fun i => wH gv F true (l ++ x) i way j) := by
  refine ownC hm Tryz.func95 (by kernel_rfl) rfl rfl (fun _ _ => wH_ok _ _ _ _ _ _ _) (fun _ _ => Nat.le_refl _) ?_
  cases u with
  | false =>
    (first | refine wX ?_ | exact wZ)
    refine callG (copyCheck_w gv F way j false l i0) [0, 1, 2, 3] rfl ⟨rfl, rfl, rfl, rfl, trivial⟩ rfl fun _ _ => ?_
    (first | refine wX ?_ | exact wZ)
    refine EffW.appStr 1 rfl rfl rfl (by kernel_rfl) (by kernel_rfl) (by kernel_rfl) rfl rfl rfl (by rw [bs_size]; exact room) fun ob' cap' h1 h2 h3 => ?_
    rw [bs_size, bs_list] at *
    (first | refine wX ?_ | exact wZ)
    refine ⟨⟨ob', cap'⟩, ⟨by simpa using h1, by simpa using h2, fun h => ?_⟩, by rw [bs_size], ?_⟩
    · obtain ⟨h4, h5⟩ := h3 h
      have := ok.2.2 h4
      rw [this] at h5
      cases ob' with
      | none => rfl
      | some _ => cases h5
    · exact wkH_of_eq (by simp [wH, u8s, bC1, rnC, rnCs, rnI, rnE])
  | true =>
    (first | refine wX ?_ | exact wZ)
    refine callG (copyCheck_w gv F way j true l i0) [0, 1, 2, 3] rfl ⟨rfl, rfl, rfl, rfl, trivial⟩ rfl fun _ _ => ?_
    (first | refine wX ?_ | exact wZ)
    refine EffW.appStr 1 rfl rfl rfl (by kernel_rfl) (by kernel_rfl) (by kernel_rfl) rfl rfl rfl (by rw [bs_size]; exact room) fun ob' cap' h1 h2 h3 => ?_
    rw [bs_size, bs_list] at *
    (first | refine wX ?_ | exact wZ)
    refine ⟨⟨ob', cap'⟩, ⟨by simpa using h1, by simpa using h2, fun h => ?_⟩, by rw [bs_size], ?_⟩
    · obtain ⟨h4, h5⟩ := h3 h
      have := ok.2.2 h4
      rw [this] at h5
      cases ob' with
      | none => rfl
      | some _ => cases h5
    · exact wkH_of_eq (by simp [wH, u8s, bC1, rnC, rnCs, rnI, rnE])
theorem Len_w (u : Bool) (l : List UInt8) (i0 : BSt) : SpecH Tryz.prog 94 [.c (.lp 0 1)] (wH gv F u l i0 way j) (RetG (ι := Unit) (fun _ => True) (fun _ => .int .i64 l.length) fun _ => wH gv F u l i0 way j) := by
  refine ownC hm Tryz.func94 (by kernel_rfl) rfl rfl (fun _ _ => wH_ok _ _ _ _ _ _ _) (fun _ _ => Nat.le_refl _) ?_
  (first | refine wX ?_ | exact wZ)
  exact ⟨(), trivial, rfl, wkH_refl _⟩
theorem String_w (u : Bool) (l : List UInt8) (i0 : BSt) (ok : i0.ok l.length) : SpecH Tryz.prog 52 [.c (.lp 0 1)] (wH gv F u l i0 way j)
    (RetG (ι := Unit) (fun _ => True) (fun _ => .string (bs l)) fun _ => [.dead, .dead, .dead, .fact F]) := by
  refine ownC hm Tryz.func52 (by kernel_rfl) rfl rfl (fun _ _ => ⟨trivial, trivial, trivial, trivial, trivial⟩) (fun _ _ => Nat.le_refl _) ?_
  (first | refine wX ?_ | exact wZ)
  refine DrawN.plan [0, 5] [(1, 1), (2, 1), (3, 1), (4, 1), (6, 1), (7, 1), (8, 1), (9, 1)] [(10, 0), (11, 0)] (by decide +kernel) ?_
  (first | refine wX ?_ | exact wZ)
  refine ReadW.sliceData rfl rfl rfl (fun h h2 => h (ok.2.2 h2)) ?_
  (first | refine wX ?_ | exact wZ)
  refine EffW.usStr 1 l rfl rfl rfl rfl (by kernel_rfl) (by kernel_rfl) rfl rfl rfl ?_
  (first | refine wX ?_ | exact wZ)
  exact ⟨(), trivial, rfl, trivial, trivial, trivial, fun _ h => h, trivial⟩
end Go.Proofs.YtahjbnfbilkbcaaGreatDoor

/-
  Plain: how long texts of cells become.
-/
namespace Go.Core

/-- What bounds a graph's texts. -/
structure Short (leafT : Cell → List UInt8) (g : List Cell) : Prop where
  leaf : ∀ a, isLeaf (at_ g a) = true → (leafT (at_ g a)).length ≤ 10000
  text : ∀ a, (at_ g a).kind = 8 → (at_ g a).text.length ≤ 2000
  names : ∀ a, ∀ s ∈ (at_ g a).names, s.length ≤ 40
  items : ∀ a, (at_ g a).items.length ≤ 2000
section
variable {M : Nat} {leafT : Cell → List UInt8} {g : List Cell}
theorem name_le (h : Short leafT g) (a : Int) (i : Nat) : ((at_ g a).names.getD i []).length ≤ 40 := by
  rw [List.getD_eq_getElem?_getD]
  cases hi : (at_ g a).names[i]? with
  | none => simp
  | some s => exact h.names a s (List.mem_of_getElem? hi)
theorem front_le (h : Short leafT g) (a : Int) : (frontT (at_ g a)).length ≤ 2002 := by
  unfold frontT
  split
  · simp
  split
  · have := h.text a (by assumption); simp; omega
  · simp
theorem back_le (c : Cell) : (backT c).length = 1 := by unfold backT; split <;> (try split) <;> rfl
theorem mark_le (c : Cell) : (markT c).length ≤ 4 := by unfold markT; split <;> simp
theorem pre_le (h : Short leafT g) (a : Int) (i : Nat) : (preT (at_ g a) i).length ≤ 50 := by
  have := name_le h a i
  unfold preT
  split
  · split <;> simp only [List.length_append, List.length_cons, List.length_nil] <;> omega
  split
  · simp
  split <;> simp
theorem foldT_len {f : List UInt8 → Int → List UInt8} {pre : Nat → List UInt8} {p X : Nat} (hp : ∀ i, (pre i).length ≤ p) (hX : M ≤ X) (h1 : ∀ o k, M < o.length → f o k = o) (h2 : ∀ o k, o.length ≤ M → (f o k).length ≤ X) :
    ∀ (l : List Int) (i : Nat) (out : List UInt8) (B : Nat), X ≤ B → out.length ≤ B → (foldT f pre i l out).length ≤ B + l.length * p
  | [], _, out, B, _, hb => by unfold foldT; simpa using hb
  | k :: l, i, out, B, hB, hb => by
    have hpi := hp i
    unfold foldT
    have h3 : (f (out ++ pre i) k).length ≤ B + p := by
      rcases Nat.lt_or_ge M (out ++ pre i).length with h | h
      · rw [h1 _ _ h, List.length_append]; omega
      · have := h2 _ k h; omega
    have := foldT_len hp hX h1 h2 l (i + 1) _ (B + p) (by omega) h3
    rw [List.length_cons, Nat.add_mul]
    omega
theorem write_same (n : Nat) (out : List UInt8) (way : List Int) (a : Int) (h : M < out.length) : writeS M leafT g n out way a = out := by
  cases n with
  | zero => rfl
  | succ n => unfold writeS; rw [if_pos h]
theorem write_len (h : Short leafT g) : ∀ (n : Nat) (out : List UInt8) (way : List Int) (a : Int), (writeS M leafT g n out way a).length ≤ max out.length M + n * 200000
  | 0, out, way, a => by unfold writeS; omega
  | n + 1, out, way, a => by
    have hf := front_le h a
    have hb := back_le (at_ g a)
    have hm := mark_le (at_ g a)
    have hi := h.items a
    unfold writeS
    split
    · omega
    split
    · rename_i hl
      have := h.leaf a hl
      rw [List.length_append]; omega
    split
    · simp only [List.length_append]; omega
    · rw [List.length_append]
      have := foldT_len (M := M) (f := fun o k => writeS M leafT g n o (way ++ [a]) k) (pre := preT (at_ g a)) (p := 50) (X := M + n * 200000) (pre_le h a) (by omega) (fun o k ho => write_same n o _ k ho) (fun o k ho => by have := write_len h n o (way ++ [a]) k; omega) (at_ g a).items 0 (out ++ frontT (at_ g a)) (max (out.length + 2002) M + n * 200000) (by omega) (by rw [List.length_append]; omega)
      omega
end
end Go.Core
