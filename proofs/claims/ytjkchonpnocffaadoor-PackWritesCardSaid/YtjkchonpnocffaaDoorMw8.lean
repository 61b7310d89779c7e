/-
  PackWritesCardSaid is proved: of every form and items PackWrites returns true and leaves its arguments as they were; the listed tables are tied to the program's text.
-/
import Derived.Test.YtjkchonpnocffaaDoorCards
import Derived.Test.YtjkchonpnocffaaDoorTie
import Derived.Test.YtjkchonpnocffaaDoorMw7
/-
  Plain Lean: what is packed has its size.
-/
namespace Go.Pack
set_option maxRecDepth 4000
theorem numS_len {d : Dir} {n : Int} {r : B} (h1 : d.letter ≠ 119) (h2 : d.letter ≠ 85) (h : numS d n = .ok r) : r.length = sz d.letter := by
  unfold numS at h
  rw [if_neg (by simpa using h1), if_neg (by simpa using h2)] at h
  split at h
  · cases h
    split
    · rw [List.length_reverse, le_len]
    · rw [le_len]
  · cases h
theorem textS_len {d : Dir} {s r : B} (hc : d.count ≠ -1) (h : textS d s = .ok r) : r.length = if d.letter == 72 then (cntS d 0 + 1) / 2 else cntS d 0 := by
  have hcc : ∀ n, cntS d n = cntS d 0 := fun n => by unfold cntS; rw [if_neg hc, if_neg hc]
  unfold textS at h
  split at h
  · rename_i h72
    rw [if_pos h72, hexS_len h, hcc]
  · rename_i h72
    rw [if_neg h72]
    try rw [if_neg hc] at h
    simp only at h
    cases h
    split
    · rw [List.length_set, List.length_append, List.length_take, List.length_replicate]
      omega
    · rw [List.length_append, List.length_take, List.length_replicate]
      omega
/-- How much longer one item makes it. -/
def oneLen (d : Dir) : Nat := if d.letter == 72 then (cntS d 0 + 1) / 2 else if isStr d.letter || d.letter == 120 then cntS d 0 else sz d.letter
theorem fin_len {o l : B} {v : Nat} {r : B × Nat} (h : (if o.length + l.length > 100000 then Except.error 5 else .ok (o ++ l, v) : Except Int (B × Nat)) = .ok r) : r.1.length = o.length + l.length := by
  split at h
  · cases h
  · cases h
    rw [List.length_append]
theorem oneS_len {d : Dir} {items : List Item} {out : B} {used : Nat} {r : B × Nat} (hok : CntOk d.letter d.count) (h64 : d.letter ≠ 64) (hc : d.count ≠ -1) (h119 : d.letter ≠ 119) (h85 : d.letter ≠ 85) (h : oneS d items out used = .ok r) : r.1.length = out.length + oneLen d := by
  unfold oneS at h
  simp only at h
  split at h
  · rename_i h120
    rw [fin_len h, List.length_replicate]
    have h72 : ¬ (d.letter == 72) = true := by rw [show d.letter = 120 by simpa using h120]; decide
    unfold oneLen
    rw [if_neg h72, if_pos (by rw [h120]; simp)]
    unfold cntS
    rw [if_neg hc]
    have hl : d.letter = 120 := by simpa using h120
    unfold CntOk at hok
    rw [hl] at hok
    split
    · omega
    · rcases hok with h | h | h
      · exact absurd h.1 hc
      · omega
      · have := h.2.2 (by decide)
        omega
  · rename_i h120
    rw [if_neg (show ¬ (d.letter == 64) = true by simpa using h64)] at h
    split at h
    · cases h
    · split at h
      · cases h
      · split at h
        · cases h
        · rename_i l hl
          rw [fin_len h]
          unfold oneLen
          cases hs : isStr d.letter with
          | true =>
            rw [hs, if_pos rfl] at hl
            rw [textS_len hc hl]
            split <;> simp
          | false =>
            rw [hs, if_neg (by decide)] at hl
            rw [numS_len h119 h85 hl, if_neg (fun h => by rw [show d.letter = 72 by simpa using h] at hs; cases hs), if_neg (by simpa using h120)]
theorem timesS_len {d : Dir} {items : List Item} (hok : CntOk d.letter d.count) (h64 : d.letter ≠ 64) (hc : d.count ≠ -1) (h119 : d.letter ≠ 119) (h85 : d.letter ≠ 85) : ∀ (k : Nat) {out : B} {used : Nat} {r : B × Nat}, timesS d items k out used = .ok r → r.1.length = out.length + k * oneLen d
  | 0, out, used, r, h => by
    cases h
    simp
  | k + 1, out, used, r, h => by
    unfold timesS at h
    cases h1 : oneS d items out used with
    | error e => rw [h1] at h; cases h
    | ok x =>
      rw [h1] at h
      have h2 := oneS_len hok h64 hc h119 h85 h1
      have h3 := timesS_len hok h64 hc h119 h85 k h
      rw [h3, h2, Nat.succ_mul]
      omega
theorem timesS_step {d : Dir} {items : List Item} {out : B} {used left m : Nat} {r : B × Nat} (hok : CntOk d.letter d.count) (h : timesS d items (times d left) out used = .ok r) (hm : szStep d out.length = some m) : r.1.length = m := by
  unfold szStep at hm
  split at hm
  · rename_i h64
    cases hm
    have hl : d.letter = 64 := by simpa using h64
    have ht : times d left = 1 := by unfold times isPl; rw [h64]; simp
    rw [ht] at h
    unfold timesS at h
    cases h1 : oneS d items out used with
    | error e => rw [h1] at h; cases h
    | ok x =>
      rw [h1] at h
      cases h
      unfold oneS at h1
      simp only at h1
      rw [hl, if_neg (by decide), if_pos (by decide)] at h1
      rw [fin_len h1, List.length_replicate, List.length_take]
      omega
  split at hm
  · cases hm
  · rename_i h64 h9
    simp only [Bool.or_eq_true, decide_eq_true_eq, beq_iff_eq, not_or] at h9
    have h64' : d.letter ≠ 64 := by simpa using h64
    have h3 := timesS_len hok h64' h9.1.1 h9.1.2 h9.2 _ h
    have hcc : ∀ n, cntS d n = cntS d 0 := fun n => by unfold cntS; rw [if_neg h9.1.1, if_neg h9.1.1]
    rw [h3]
    unfold oneLen
    split at hm
    · rename_i h72
      cases hm
      have ht : times d left = 1 := by unfold times isStr; rw [h72]; simp
      rw [ht, if_pos h72, Nat.one_mul]
    split at hm
    · rename_i h72 hsx
      cases hm
      have ht : times d left = 1 := by
        unfold times isPl
        rw [Bool.or_eq_true] at hsx
        rcases hsx with h | h <;> rw [h] <;> simp
      rw [ht, if_neg h72, if_pos hsx, Nat.one_mul]
    · rename_i h72 hsx
      cases hm
      rw [Bool.or_eq_true, not_or] at hsx
      have ht : times d left = cntS d left := by
        unfold times isPl
        rw [if_neg]
        intro h
        rw [Bool.or_eq_true, Bool.or_eq_true] at h
        rcases h with h | h | h
        · exact hsx.1 h
        · exact hsx.2 h
        · exact h64 h
      rw [ht, hcc, if_neg h72, if_neg (by rw [Bool.or_eq_true, not_or]; exact hsx)]
theorem runS_len {items : List Item} : ∀ (l : List Dir) {out : B} {used n : Nat} {r : B × Nat}, (∀ d ∈ l, CntOk d.letter d.count) → runS items l out used = .ok r → sizeS l out.length = some n → r.1.length = n
  | [], out, used, n, r, _, h, hn => by
    cases h
    cases hn
    rfl
  | d :: l, out, used, n, r, hok, h, hn => by
    unfold runS at h
    rw [sizeS_cons] at hn
    cases h1 : timesS d items (times d (items.length - used)) out used with
    | error e => rw [h1] at h; cases h
    | ok x =>
      obtain ⟨o, u⟩ := x
      rw [h1] at h
      cases hm : szStep d out.length with
      | none => rw [hm] at hn; cases hn
      | some m =>
        rw [hm] at hn
        have h2 := timesS_step (hok d (List.mem_cons_self ..)) h1 hm
        have h3 : o.length = m := h2
        exact runS_len l (fun x hx => hok x (List.mem_cons_of_mem _ hx)) h (by rw [h3]; exact hn)
theorem packS_len {form : B} {items : List Item} {r : B × Nat} {ds : List Dir} {n : Nat} (hf : forms form = some ds) (h : packS form items = .ok r) (hn : sizeS ds 0 = some n) : r.1.length = n := by
  unfold packS at h
  rw [hf] at h
  exact runS_len ds (fun d hd => ((forms_ok hf).2 d hd).2) h hn
end Go.Pack

/-
  Contracts: large, packs, PackWrites (law).
-/
namespace Go.Proofs.YtjkchonpnocffaaDoor
open Go.AX Go.RowKit Go.Pack
set_option maxRecDepth 20000

/-- Sums of lengths, cut. -/
def cutSum (l : List Pack.Item) : Nat := (l.map fun x => min x.text.length 200000).sum
theorem cutSum_take (l : List Pack.Item) (i : Nat) {x : Pack.Item} (h : l[i]? = some x) : cutSum (l.take (i + 1)) = cutSum (l.take i) + min x.text.length 200000 := by
  unfold cutSum
  rw [List.take_add_one, h]
  simp
theorem cutSum_le : ∀ l : List Pack.Item, cutSum l ≤ 200000 * l.length
  | [] => Nat.le_refl _
  | x :: l => by
    have := cutSum_le l
    unfold cutSum at this ⊢
    rw [List.map_cons, List.sum_cons, List.length_cons]
    omega
/-- What is too large to be looked at. -/
def largeB (form : List UInt8) (l : List Pack.Item) : Bool := decide (form.length > 2000) || decide (l.length > 2000) || decide (cutSum l > 200000)
theorem large_c (form : List UInt8) (ia : Option Addr) (l : List Pack.Item) (cap : Nat) (hf : form.length ≤ 200000000000000) (hl : l.length ≤ 200000000000000) (ha : l ≠ [] → ia.isSome = true) (hb : ∀ x ∈ l, x.text.length ≤ 200000000000000) :
    ∀ H, (∀ w, Facts H w → ItemsF ia l w) → SpecH Tryd.prog 21 (pvs [.string (bs form), .slice ia l.length cap]) H (Ret (.bool (largeB form l)) H) := by
  refine factC hm Tryd.func21 (by kernel_rfl) rfl rfl ?_
  have hz := bs_size form
  unfold largeB
  (first | refine wX ?_ | exact wZ)
  rw [hz]
  refine brd_dec (fun h1 => ?_) (fun h1 => ?_)
  · rw [decide_eq_true (show form.length > 2000 by omega)]
    (first | refine wX ?_ | exact wZ)
    simp
  · rw [decide_eq_false (show ¬ form.length > 2000 by omega)]
    (first | refine wX ?_ | exact wZ)
    refine brd_dec (fun h2 => ?_) (fun h2 => ?_)
    · rw [decide_eq_true (show l.length > 2000 by omega)]
      (first | refine wX ?_ | exact wZ)
      simp
    · rw [decide_eq_false (show ¬ l.length > 2000 by omega)]
      (first | refine wX ?_ | exact wZ)
      refine loopS Nat (fun i => i ≤ l.length) (fun i => mkS Tryd.f21.ntmps 0 [(1, .c (.v (.slice ia l.length cap))), (5, .c (.v (.int .i64 (cutSum (l.take i) : Int)))), (6, .c (.v (.int .i64 (i : Int))))]) (fun i => l.length - i) rfl (fun _ => rfl) 0 (Nat.zero_le _) ?_ ?_
      · (repeat' (first | exact trivial | refine And.intro (by with_reducible rfl) ?_ | (with_reducible exact wkC_refl _) | (with_reducible exact wkCs_refl _) | refine And.intro ?_ ?_))
        all_goals rfl
      intro i hi
      (first | refine wX ?_ | exact wZ)
      refine brd_dec (fun h3 => ?_) (fun h3 => ?_)
      · obtain ⟨x, hx⟩ : ∃ x, l[i]? = some x := ⟨_, List.getElem?_eq_getElem (by omega)⟩
        have hxz := bs_size x.text
        have hxb := hb x (List.mem_of_getElem? hx)
        have hct := cutSum_take l i hx
        have hcl := cutSum_le (l.take i)
        have hll : (l.take i).length ≤ 2000 := by rw [List.length_take]; omega
        have hmn : minI (x.text.length : Int) 200000 = ((min x.text.length 200000 : Nat) : Int) := by unfold minI; split <;> omega
        (first | refine wX ?_ | exact wZ)
        refine Nd.mk ⟨ha (fun h => by rw [h] at hx; cases hx), by omega, by omega⟩ ?_
        (first | refine wX ?_ | exact wZ)
        refine LdN.fld (.string (bs x.text)) rfl (fun w hw => hw.1) (by rw [Int.toNat_natCast]; exact itemsC_get l i 2 (by decide) hx) ?_
        (first | refine wX ?_ | exact wZ)
        rw [hxz, hmn]
        (first | refine wX ?_ | exact wZ)
        refine ⟨i + 1, by omega, by omega, ?_, by (repeat' (first | exact trivial | exact wkE_refl _ | refine And.intro ?_ ?_))⟩
        (repeat' (first | exact trivial | refine And.intro (by with_reducible rfl) ?_ | (with_reducible exact wkC_refl _) | (with_reducible exact wkCs_refl _) | refine And.intro ?_ ?_))
        all_goals first | rfl | exact av_int (by rw [wrap_i64 (by omega)]; omega) | exact av_int (by omega)
      · have hie : i = l.length := by omega
        subst hie
        rw [List.take_length]
        (first | refine wX ?_ | exact wZ)
        simp
        try omega
theorem packs_key (form : List UInt8) (items : List Pack.Item) : ∃ (p : List UInt8) (e x i u : Int), packV (packS form items) = .tuple #[.string (bs p), .int .i64 e] ∧ usedV (packS form items) = .tuple #[.int .i64 u, .int .i64 e] ∧ sizeV (forms form) = .tuple #[.int .i64 x, .int .i64 i] ∧ (e = 0 → i = 0 → x = (p.length : Int)) := by
  have hs : ∃ x i : Int, sizeV (forms form) = .tuple #[.int .i64 x, .int .i64 i] ∧ (i = 0 → ∃ ds n, forms form = some ds ∧ sizeS ds 0 = some n ∧ x = (n : Int)) := by
    cases hf : forms form with
    | none => exact ⟨0, 4, rfl, fun h => by cases h⟩
    | some ds =>
      cases hz : sizeS ds 0 with
      | none => exact ⟨0, 1, by show (match sizeS ds 0 with | none => _ | some n => _) = _; rw [hz], fun h => by cases h⟩
      | some n => exact ⟨n, 0, by show (match sizeS ds 0 with | none => _ | some n => _) = _; rw [hz], fun _ => ⟨ds, n, rfl, hz, rfl⟩⟩
  obtain ⟨x, i, hs, hsi⟩ := hs
  cases hp : packS form items with
  | error e => exact ⟨[], e, x, i, 0, rfl, rfl, hs, fun h => absurd h (packS_err hp)⟩
  | ok r =>
    obtain ⟨l, u⟩ := r
    refine ⟨l, 0, x, i, u, rfl, rfl, hs, fun _ hi => ?_⟩
    obtain ⟨ds, n, h1, h2, h3⟩ := hsi hi
    have h4 : l.length = n := packS_len h1 hp h2
    rw [h3, h4]
theorem packs_c (form : List UInt8) (ia : Option Addr) (items : List Pack.Item) (icap : Nat) (hs : form.length ≤ 100000)
    (hia : items ≠ [] → ia.isSome = true) (hl : items.length ≤ 100000) (hi : ∀ x ∈ items, x.text.length ≤ 140737488351232 ∧ -9223372036854775808 ≤ x.int ∧ x.int < 9223372036854775808) :
    ∀ H, (∀ w, Facts H w → ItemsF ia items w) → SpecH Tryd.prog 22 (pvs [.string (bs form), .slice ia items.length icap]) H (Ret (.bool true) H) := by
  refine factC hm Tryd.func22 (by kernel_rfl) rfl rfl ?_
  obtain ⟨p, e, x, i, u, h1, h2, h3, h4⟩ := packs_key form items
  have hz := bs_size p
  (first | refine wX ?_ | exact wZ)
  refine call1 (Pack_c form ia items icap hs hia hl hi _ (fun w hw => hw.1)) ?_
  rw [h1]
  (first | refine wX ?_ | exact wZ)
  refine SpecF.call (as_c ia items icap (by omega) hia) (fun w hw => hw.1) fun v G hR => ?_
  obtain ⟨oa, ca, rfl, hoa, hG⟩ := hR
  have hia2 : items ≠ [] → (at0 oa).isSome = true := fun h => by
    cases oa with
    | none => exact absurd (hoa rfl) h
    | some g => rfl
  (first | refine wX ?_ | exact wZ)
  refine call1 (RPack_r form (at0 oa) items ca hs hia2 hl hi _ (fun w hw => hG w hw.2.1)) ?_
  rw [h1]
  (first | refine wX ?_ | exact wZ)
  refine call1 (Used_c form ia items icap hs hia hl hi _ (fun w hw => hw.1)) ?_
  rw [h2]
  (first | refine wX ?_ | exact wZ)
  refine SpecF.call (as_c ia items icap (by omega) hia) (fun w hw => hw.1) fun v2 G2 hR2 => ?_
  obtain ⟨ob, cb, rfl, hob, hG2⟩ := hR2
  have hib2 : items ≠ [] → (at0 ob).isSome = true := fun h => by
    cases ob with
    | none => exact absurd (hob rfl) h
    | some g => rfl
  (first | refine wX ?_ | exact wZ)
  refine call1 (RUsed_r form (at0 ob) items cb hs hib2 hl hi _ (fun w hw => hG2 w hw.2.2.1)) ?_
  rw [h2]
  (first | refine wX ?_ | exact wZ)
  refine call1 (Size_c form hs _) ?_
  rw [h3]
  (first | refine wX ?_ | exact wZ)
  refine call1 (RSize_r form hs _) ?_
  rw [h3]
  (first | refine wX ?_ | exact wZ)
  refine brdF (by simp) ?_
  (first | refine wX ?_ | exact wZ)
  refine brd_ne (fun h => absurd rfl h) (fun _ => ?_)
  (first | refine wX ?_ | exact wZ)
  refine brd_ne (fun h => absurd rfl h) (fun _ => ?_)
  (first | refine wX ?_ | exact wZ)
  refine brd_ne (fun h => absurd rfl h) (fun _ => ?_)
  (first | refine wX ?_ | exact wZ)
  refine brd_ne (fun h => absurd rfl h) (fun _ => ?_)
  (first | refine wX ?_ | exact wZ)
  refine brd_ne (fun h => absurd rfl h) (fun _ => ?_)
  (first | refine wX ?_ | exact wZ)
  refine call1 (Check_c form hs _) ?_
  (first | refine wX ?_ | exact wZ)
  refine call1 (RCheck_r form hs _) ?_
  (first | refine wX ?_ | exact wZ)
  refine brd_ne (fun h => absurd rfl h) (fun _ => ?_)
  (first | refine wX ?_ | exact wZ)
  refine brd_ne (fun he => ?_) (fun he => ?_)
  · (first | refine wX ?_ | exact wZ)
  · (first | refine wX ?_ | exact wZ)
    refine brd_ne (fun hi0 => ?_) (fun hi0 => ?_)
    · (first | refine wX ?_ | exact wZ)
    · have h5 := h4 he hi0
      (first | refine wX ?_ | exact wZ)
      rw [hz, h5]
      simp
theorem PackWrites_c (form : List UInt8) (ia : Option Addr) (items : List Pack.Item) (icap : Nat) (hs : form.length ≤ 200000000000000)
    (hia : items ≠ [] → ia.isSome = true) (hl : items.length ≤ 200000000000000) (hi : ∀ x ∈ items, x.text.length ≤ 140737488351232 ∧ -9223372036854775808 ≤ x.int ∧ x.int < 9223372036854775808) :
    ∀ H, (∀ w, Facts H w → UtfF w ∧ ItemsF ia items w) → SpecH Tryd.prog 7 (pvs [.string (bs form), .slice ia items.length icap]) H (Ret (.bool true) H) := by
  refine factC hm Tryd.func7 (by kernel_rfl) rfl rfl ?_
  (first | refine wX ?_ | exact wZ)
  refine call1 (large_c form ia items icap hs hl hia (fun x hx => Nat.le_trans (hi x hx).1 (by decide)) _ (fun w hw => hw.1.2)) ?_
  cases hL : largeB form items with
  | true =>
    (first | refine wX ?_ | exact wZ)
    refine call1 (sane_c _ (fun w hw => hw.1.1)) ?_
    (first | refine wX ?_ | exact wZ)
  | false =>
    unfold largeB at hL
    simp only [Bool.or_eq_false_iff, decide_eq_false_iff_not] at hL
    (first | refine wX ?_ | exact wZ)
    refine call1 (packs_c form ia items icap (by omega) hia (by omega) hi _ (fun w hw => hw.1.2)) ?_
    (first | refine wX ?_ | exact wZ)
    refine call1 (sane_c _ (fun w hw => hw.1.1)) ?_
    (first | refine wX ?_ | exact wZ)
end Go.Proofs.YtjkchonpnocffaaDoor

/-
  AX, twenty-seventh text: arguments that are slices of structs.
-/
namespace Go.AX
open Go.ChangeShapes Go.WideShapes Go.ChangeAt Go.RowKit

theorem choose_list {α : Type} {R : Nat → α → Prop} : ∀ n, (∀ i, i < n → ∃ x, R i x) → ∃ l : List α, l.length = n ∧ ∀ i x, l[i]? = some x → R i x
  | 0, _ => ⟨[], rfl, fun i x h => by simp at h⟩
  | n + 1, h => by
    obtain ⟨l, hl, hR⟩ := choose_list n fun i hi => h i (by omega)
    obtain ⟨x, hx⟩ := h n (by omega)
    refine ⟨l ++ [x], by simp [hl], fun i y hy => ?_⟩
    by_cases hi : i < l.length
    · rw [List.getElem?_append_left hi] at hy
      exact hR i y hy
    · have hlt := (List.getElem?_eq_some_iff.1 hy).1
      simp only [List.length_append, List.length_cons, List.length_nil] at hlt
      have e : i = l.length := by omega
      subst e
      simp at hy
      subst hy
      rw [hl]; exact hx
section
variable {H : Type} {enc : TypeId × Value → H} {P : Program} {w : World}
theorem weights_all {e : TypeId} : ∀ {l : List (DataW H)} {d : DataW H}, d ∈ l → ∀ k ∈ d.weights P e, k ∈ DataW.weightsAll P e l
  | [], _, h, _, _ => by cases h
  | a :: l, d, h, k, hk => by
    rw [DataW.weightsAll, List.mem_append]
    rcases List.mem_cons.1 h with rfl | h
    · exact .inl hk
    · exact .inr (weights_all h k hk)
/-- A slice of structs: g lays one out, Q is what the reading says of it. -/
theorem known_rows {α : Type} {Q : α → Prop} {m : Nat} (g : α → List Value) (hg : ∀ x, (g x).length = m) {t e : TypeId} {v : Value} {d : DataW H} {ps : List MemPlace} {ts : List TypeId} {ds : List (DataW H)} {j : Nat} (ht : P.underlying t = some (.slice e)) (hc : P.cellsOf e = m) (hb : 1 ≤ P.bytesOf e)
    (hread : ∀ n cs (y : DataW H × List MemPlace), DataW.trod enc P w 0 (fun _ => true) true n e cs = some y → (∀ k ∈ y.1.weights P e, k ≤ reachBytes) → ∃ x, Q x ∧ cs = g x)
    (hsz : (DataW.weightsEach P ts ds).all (· ≤ reachBytes) = true) (hj : ts[j]? = some t) (hd : ds[j]? = some d)
    {r : Reach} {b : Nat} (hv : Value.okWide P w r b t v) (h : DataW.Trod enc P w 0 (fun _ => true) true t v d ps) : ∃ (a : Option Addr) (l : List α) (cap : Nat), v = .slice a l.length cap ∧ l.length ≤ 200000000000000 ∧ Imm (fun b => b < w.heap.size) w (SlAt a (l.length * m) (l.flatMap g)) ∧ (a = none → l = []) ∧ ∀ x ∈ l, Q x := by
  obtain ⟨a, n, c, rfl⟩ := okWide_slice ht hv
  obtain ⟨fuel, hf⟩ := h
  rcases DataW.trod_slice ht hf with ⟨h1, h2⟩ | ⟨a, len, cap, elems, rest, n, _, h1, h2, _, _, _, hlen, hel, _⟩
  · refine ⟨none, [], 0, by simpa [Value.cells] using h1, by simp, ?_, fun _ => rfl, by simp⟩
    rw [List.length_nil, Nat.zero_mul]
    exact SlAt.nil.imm
  · simp only [Prod.mk.injEq] at h2
    rw [h2.1] at hd
    have hs := sized_slice hsz hj hd ht
    have hr : reachBytes < 200000000000000 := by decide
    have hb' : len ≤ reachBytes := by
      rw [List.length_map, hlen] at hs
      exact Nat.le_trans (Nat.le_trans (Nat.le_add_right _ _) (Nat.le_mul_of_pos_right _ hb)) hs
    have hall : ∀ k ∈ (DataW.slice (elems.map (·.1)) (rest.map (·.1))).weights P t, k ≤ reachBytes := fun k hk => by
      have := List.all_eq_true.1 hsz _ (DataW.weights_mem_each hj hd k hk)
      simpa using this
    have hx : ∀ i, i < len → ∃ x, Q x ∧ ∀ q, q < m → w.cell? (a.add (i * m + q)) = (g x)[q]? := fun i hi => by
      have hi2 := hel i hi
      rw [hc, List.getElem?_eq_getElem (by omega)] at hi2
      obtain ⟨cs, hcs, hy⟩ := Option.bind_eq_some_iff.1 hi2
      obtain ⟨x, hQ, rfl⟩ := hread n cs _ hy fun k hk => by
        refine hall k ?_
        simp only [DataW.weights, ht, List.mem_cons, List.mem_append]
        exact .inr (.inl (weights_all (List.mem_map.2 ⟨_, List.getElem_mem _, rfl⟩) k hk))
      refine ⟨x, hQ, fun q hq => ?_⟩
      obtain ⟨_, _, hcell⟩ := World.cells?_some hcs
      have := hcell q hq
      rwa [Addr.add_add] at this
    obtain ⟨l, hl, hR⟩ := choose_list len hx
    refine ⟨some a, l, cap, by rw [hl]; simpa [Value.cells] using h1, by omega, ?_, (fun h => by cases h), fun x hx => ?_⟩
    · refine SlAt.imm ⟨flat_len hg l, fun _ => rfl, fun q hq => ?_⟩
      have hm : 0 < m := Nat.pos_of_ne_zero fun e => by rw [e] at hq; simp at hq
      have hq2 : q = q / m * m + q % m := by rw [Nat.mul_comm]; exact (Nat.div_add_mod q m).symm
      have hqi : q / m < l.length := Nat.div_lt_of_lt_mul (by rw [Nat.mul_comm]; exact hq)
      have hqm := Nat.mod_lt q hm
      show w.cell? (a.add q) = _
      rw [hq2, flat_get hg l _ _ hqm, List.getElem?_eq_getElem hqi]
      exact (hR _ _ (List.getElem?_eq_getElem hqi)).2 _ hqm
    · obtain ⟨i, hi⟩ := List.getElem?_of_mem hx
      exact (hR i x hi).1
end
end Go.AX

/-
  An item as it is read (argument).
-/
namespace Go.Proofs.YtjkchonpnocffaaDoor
open Go.ChangeShapes Go.WideShapes Go.ChangeAt Go.RowKit Go.AX Go.Pack
set_option maxRecDepth 20000
theorem item_read {H : Type} {enc : TypeId × Value → H} {w : World} : ∀ n cs (y : DataW H × List MemPlace), DataW.trod enc Tryd.prog w 0 (fun _ => true) true n 49 cs = some y → (∀ k ∈ y.1.weights Tryd.prog 49, k ≤ reachBytes) → ∃ x : Pack.Item, (x.text.length ≤ 140737488351232 ∧ -9223372036854775808 ≤ x.int ∧ x.int < 9223372036854775808) ∧ cs = itemC x := by
  intro n cs y h hk
  have cB : Tryd.prog.cellsOf 4 = 1 := by kernel_rfl
  have cI : Tryd.prog.cellsOf 3 = 1 := by kernel_rfl
  have cS : Tryd.prog.cellsOf 9 = 1 := by kernel_rfl
  have cP : Tryd.prog.cellsOf 49 = 3 := by kernel_rfl
  obtain ⟨xs, n', _, hx, hlen, hxl, hf⟩ := DataW.trod_struct Tryd.underlying49 h
  have h0 := hf 0 _ rfl
  have h1 := hf 1 _ rfl
  have h2 := hf 2 _ rfl
  match xs, hxl with
  | [y0, y1, y2], _ =>
    obtain ⟨b, e0, _⟩ := DataW.trod_bool Tryd.underlying4 h0
    obtain ⟨k, e1, _, hk1⟩ := DataW.trod_int Tryd.underlying3 h1
    obtain ⟨s, e2, hy2, _⟩ := DataW.trod_string Tryd.underlying9 h2
    rw [cP] at hlen
    match cs, hlen with
    | [c0, c1, c2], _ =>
      have f0 : List.take (Tryd.prog.cellsOf 4) (List.drop 0 [c0, c1, c2]) = [.bool b] := e0
      have f1 : List.take (Tryd.prog.cellsOf 3) (List.drop 1 [c0, c1, c2]) = [.int .i64 k] := e1
      have f2 : List.take (Tryd.prog.cellsOf 9) (List.drop 2 [c0, c1, c2]) = [.string s] := e2
      clear e0 e1 e2
      rw [cB] at f0
      rw [cI] at f1
      rw [cS] at f2
      simp at f0 f1 f2
      subst f0 f1 f2
      have hr : reachBytes ≤ 140737488351232 := by decide
      have hb : s.data.toList.length ≤ reachBytes := hk _ (by
        rw [hx, hy2]
        simp [DataW.weights, DataW.weightsEach, Tryd.underlying49])
      refine ⟨⟨b, k, s.data.toList⟩, ⟨by show s.data.toList.length ≤ _; omega, ?_⟩, rfl⟩
      have hw : (decide (IntKind.i64.min ≤ k) && decide (k ≤ IntKind.i64.max)) = true := hk1
      rw [Bool.and_eq_true, decide_eq_true_eq, decide_eq_true_eq] at hw
      have m1 : IntKind.i64.min = -9223372036854775808 := by decide
      have m2 : IntKind.i64.max = 9223372036854775807 := by decide
      rw [m1, m2] at hw
      exact ⟨hw.1, by have := hw.2; show k < _; omega⟩
end Go.Proofs.YtjkchonpnocffaaDoor

/-
  PackWritesCardSaid is proved: of every form and items PackWrites returns true and leaves its arguments as they were; the listed tables are tied to the program's text.
-/
namespace Go.Proofs.YtjkchonpnocffaaDoor
open Go.ChangeShapes Go.WideShapes Go.ChangeAt Go.RowKit Go.AX
set_option maxRecDepth 100000

namespace PackWrites
theorem own : ownKnob Tryd.prog.godebug = none := own0
theorem walk {H : Type} {enc : TypeId × Value → H} (W : World) (base : Nat) (args : Array Value) (ds : List (DataW H)) (p : List MemPlace) (k : Known enc Tryd.prog Tryd.f7 W base args ds p) (_hL : laidMetH Tryd.prog laid3 W) : Walk Tryd.prog 7 args W := by
  obtain ⟨u, v, rfl⟩ := arr2 (trodAll_len k.trod).2
  obtain ⟨s, rfl, hs⟩ := k.low.string 0 rfl rfl (by kernel_rfl)
  obtain ⟨d, q, hd, h⟩ := trodAll_get k.trod 1 _ v rfl rfl
  obtain ⟨a, l, cap, rfl, hl, hsl, ha, hQ⟩ := known_rows (e := 49) (m := 3) itemC (fun _ => rfl) Tryd.underlying23 (by kernel_rfl) (by decide +kernel) item_read k.weights rfl hd (k.val 1 _ v rfl rfl) h
  have hia : l ≠ [] → a.isSome = true := fun hn => by
    cases a with
    | none => exact absurd (ha rfl) hn
    | some _ => rfl
  exact walkH [.fact fun w => UtfF w ∧ ItemsF a l w] (fun _ he => ⟨_, List.mem_singleton.1 he, (utf_imm (utf_of k.shaped _hL)).and hsl⟩) (PackWrites_c s.data.toList a l cap hs hia hl hQ _ fun w hw => hw.1)

theorem lifted (os : Os) (started : os.Started) (H : Type) (enc : TypeId × Value → H) :
    ReturnsInHanded {} Tryd.checked os 7 .any (fun w args => (Rows.packWritesSpec.pre enc Tryd.prog Tryd.f7 [] false w args ∧ laidMetH Tryd.prog laid3 w) ∧ sizedMet enc Tryd.prog Tryd.f7 (OpenSpec.ofChange Rows.packWritesSpec) false w args) (Rows.packWritesSpec.post enc Tryd.prog Tryd.f7 false true false false) := by
  refine liftS (C := Tryd.checked) own started (by kernel_rfl) Tryd.func7
    (ChangeSpec.witness_shaped (enc := enc) (C := Tryd.checked) (os := os) (X := fun w _ => laidMetH Tryd.prog laid3 w) false (World.laidAll Tryd.prog os laid3) #[.string ⟨#[]⟩, .slice none 0 0] 8 (World.laidAll_os _ _ _) (World.shaped_of_ZipB (by kernel_rfl) (by kernel_rfl)) (by kernel_rfl) (by kernel_rfl) (by kernel_rfl) (door_met os _))
    laidOut rfl (t := _) rfl (by kernel_rfl) (by kernel_rfl) ?_ walk
  intro ds hd
  match ds, hd with
  | [d0, d1], _ => rfl

theorem over : Rows.packWritesRow.holds Tryd.pinned (OpenSpec.ofChange Rows.packWritesSpec) :=
  OpenClaim.holds_of_wide 7 Tryd.f7 rfl rfl rfl rfl rfl rfl rfl ⟨rfl, rfl, rfl, rfl, rfl⟩ rfl rfl rfl rfl rfl (by kernel_rfl) Tryd.func7 (by kernel_rfl)
    (of_decide_eq_true (by kernel_rfl)) (by unfold Func.isWrapper; first | (rw [if_pos (by decide +kernel)]; kernel_rfl) | (rw [if_neg (by decide +kernel)]; exact ⟨rfl, rfl⟩))
    (fun os started H enc _ => lifted os started H enc)

theorem proved : Rows.PackWritesCardSaid :=
  Claim7.holds_tied_plain_at .later [] [.data, .pinned] true (true, "ee40ad3c004e27ba634c39df1e0133c8cbf9a6c49400ae1940cd1f890c212da8") false
    over (fun _ h => by cases h) (by kernel_rfl) (fun _ h => by cases h) packWrites_row_tie rfl ⟨rfl, rfl⟩ (by kernel_rfl) rfl
    (fun f fn hf hfn => by
      obtain rfl : f = 7 := Option.some.inj ((show Tryd.prog.funcNamed "cabochon/cabochonlaw03.PackWrites" = some 7 by kernel_rfl).symm.trans hf) |>.symm
      obtain rfl : fn = Tryd.f7 := (Option.some.inj (Tryd.func7.symm.trans hfn)).symm
      exact ⟨by kernel_rfl, fun j t ht => by
        have hm : t ∈ Tryd.f7.params.toList := by simpa using Array.mem_of_getElem? ht
        have hall : (Tryd.f7.params.toList.all fun u => !Tryd.prog.wantsStandIn u) = true := by kernel_rfl
        exact (show Tryd.prog.wantsStandIn t = false by simpa using List.all_eq_true.1 hall t hm)⟩)
    (by kernel_rfl)
#print axioms proved
end PackWrites
end Go.Proofs.YtjkchonpnocffaaDoor
