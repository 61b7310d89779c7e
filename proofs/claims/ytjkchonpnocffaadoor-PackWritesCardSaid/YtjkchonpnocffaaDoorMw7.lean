/-
  Lemmas (C28 Ax32 Ax33 C29 D5 D6 P16 D7 D8 D9 D10 D11 D12 D13 E1 E2 E3 E4 E5).
-/
import Derived.Lib.AppendZerosOnto
import Derived.Test.YtjkchonpnocffaaDoorMw6
/-
  Contracts: hex digits and texts are read (program).
-/
namespace Go.Proofs.YtjkchonpnocffaaDoor
open Go.AX Go.RowKit Go.Pack
set_option maxRecDepth 20000

theorem hexu_c (ub : Nat) (s : List UInt8) (a : Nat) (out : Option Nat) (len cap : Nat) (n : Int) (m : Nat) (hn : n = -1 ∧ m = 2 * (s.length - a) ∨ n = (m : Int) ∧ m ≤ 1000) (ha : a ≤ s.length) (hs : s.length ≤ 1000000) :
    SpecH Tryd.prog 53 [.c (.v (.pointer (some ⟨ub, 0, none⟩))), .c (.v (.int .i64 n))] [unE ub s a out len cap]
      (RetG (ι := Unit) (fun _ => True) (fun _ => .string (bs ((hex ((s.drop a).take ((m + 1) / 2))).take m))) fun _ => [unE ub s (a + ((s.drop a).take ((m + 1) / 2)).length) out len cap]) := by
  refine ownC hm Tryd.func53 (by kernel_rfl) rfl rfl (fun _ _ => okHB_eq rfl) (fun _ _ => Nat.le_refl _) ?_
  obtain ⟨b, hb⟩ : ∃ b, (s.drop a).take ((m + 1) / 2) = b := ⟨_, rfl⟩
  have hbl : b.length = min ((m + 1) / 2) (s.length - a) := by rw [← hb, List.length_take, List.length_drop]
  have hbt : (s.drop a).take b.length = b := by rw [hbl, ← hb, ← List.length_drop, ← List.take_eq_take_min]
  rw [hb]
  (first | refine wX ?_ | exact wZ)
  refine brd_eq (fun h1 => ?_) (fun h1 => ?_)
  · have hm2 : m = 2 * (s.length - a) := by omega
    (first | refine wX ?_ | exact wZ)
    refine call1 (left_c ub s a out len cap ha hs _ (fun w hw => hw.1)) ?_
    have hnm : (2 : Int) * ((s.length - a : Nat) : Int) = (m : Int) := by omega
    -- (2 * ((s.length - a : Nat) : Int)): the digits as the number is spelled
    (first | refine wX ?_ | exact wZ)
    refine call1 (left_c ub s a out len cap ha hs _ (fun w hw => hw.1)) ?_
    (first | refine wX ?_ | exact wZ)
    have hmin : minI (IntKind.i64.wrap (Int.tdiv (IntKind.i64.wrap ((2 * ((s.length - a : Nat) : Int)) + 1)) 2)) ((s.length - a : Nat) : Int) = ((b.length : Nat) : Int) := by
      rw [wrap_i64 (x := (2 * ((s.length - a : Nat) : Int)) + 1) (by omega), show Int.tdiv ((2 * ((s.length - a : Nat) : Int)) + 1) 2 = (((m + 1) / 2 : Nat) : Int) by rw [hnm]; exact (Int.ofNat_tdiv (m + 1) 2).symm, wrap_i64 (by omega), hbl]
      unfold minI
      split <;> omega
    rw [hmin]
    refine callG (cut_c ub s a b.length out len cap (by omega) hs) [0] rfl ⟨rfl, trivial⟩ rfl fun _ _ => ?_
    rw [hbt]
    (first | refine wX ?_ | exact wZ)
    refine call1 (Hex_c b (by omega) _) ?_
    (first | refine wX ?_ | exact wZ)
    refine ReadW.sl_h (min m (hex b).length) rfl Tryd.underlying9 rfl rfl ⟨by rw [bs_size]; unfold minI; split <;> omega, Nat.min_le_right _ _⟩ ?_
    rw [← List.take_eq_take_min]
    (first | refine wX ?_ | exact wZ)
    exact ⟨(), trivial, rfl, wkE_refl _, wkH_nil _⟩
  · have hnm : n = (m : Int) := by omega
    -- n: the digits as the number is spelled
    (first | refine wX ?_ | exact wZ)
    refine call1 (left_c ub s a out len cap ha hs _ (fun w hw => hw.1)) ?_
    (first | refine wX ?_ | exact wZ)
    have hmin : minI (IntKind.i64.wrap (Int.tdiv (IntKind.i64.wrap (n + 1)) 2)) ((s.length - a : Nat) : Int) = ((b.length : Nat) : Int) := by
      rw [wrap_i64 (x := n + 1) (by omega), show Int.tdiv (n + 1) 2 = (((m + 1) / 2 : Nat) : Int) by rw [hnm]; exact (Int.ofNat_tdiv (m + 1) 2).symm, wrap_i64 (by omega), hbl]
      unfold minI
      split <;> omega
    rw [hmin]
    refine callG (cut_c ub s a b.length out len cap (by omega) hs) [0] rfl ⟨rfl, trivial⟩ rfl fun _ _ => ?_
    rw [hbt]
    (first | refine wX ?_ | exact wZ)
    refine call1 (Hex_c b (by omega) _) ?_
    (first | refine wX ?_ | exact wZ)
    refine ReadW.sl_h (min m (hex b).length) rfl Tryd.underlying9 rfl rfl ⟨by rw [bs_size]; unfold minI; split <;> omega, Nat.min_le_right _ _⟩ ?_
    rw [← List.take_eq_take_min]
    (first | refine wX ?_ | exact wZ)
    exact ⟨(), trivial, rfl, wkE_refl _, wkH_nil _⟩
theorem tw_lt {l : List UInt8} (h : l.contains 0 = true) : (l.takeWhile (· != 0)).length + 1 ≤ l.length := by
  induction l with
  | nil => cases h
  | cons a r ih =>
    by_cases ha : a = 0
    · subst ha; simp
    · rw [List.takeWhile_cons_of_pos (by simpa using ha)]
      have hc : r.contains 0 = true := by
        rw [List.contains_cons, show ((0 : UInt8) == a) = false from beq_eq_false_iff_ne.2 (Ne.symm ha), Bool.false_or] at h
        exact h
      have := ih hc
      simp only [List.length_cons]
      omega
theorem textu_c (d : Dir) (ub : Nat) (s : List UInt8) (a : Nat) (out : Option Nat) (len cap : Nat) (hc : CntOk d.letter d.count) (ha : a ≤ s.length) (hs : s.length ≤ 1000000) :
    SpecH Tryd.prog 26 [.c (.v (.pointer (some ⟨ub, 0, none⟩))), .c (.v (dirV d))] [.fact UtfF, unE ub s a out len cap]
      (RetG (ι := Unit) (fun _ => True) (fun _ => .string (bs (cutS d (s.drop a)).1)) fun _ => [.fact UtfF, unE ub s (a + (cutS d (s.drop a)).2) out len cap]) := by
  refine ownC hm Tryd.func26 (by kernel_rfl) rfl rfl (fun _ _ => okHB_eq rfl) (fun _ _ => Nat.le_refl _) ?_
  have h72 : ((d.letter.toNat : Int) == 72) = (d.letter == 72) := u8_eq (n := 72) (by decide)
  have h90 : ((d.letter.toNat : Int) == 90) = (d.letter == 90) := u8_eq (n := 90) (by decide)
  have h65 : ((d.letter.toNat : Int) == 65) = (d.letter == 65) := u8_eq (n := 65) (by decide)
  have hzs := bs_size s
  (first | refine wX ?_ | exact wZ)
  refine brd_eq (fun hk => ?_) (fun hk => ?_)
  · have hc2 : ∀ n, cntS d n = 1 := fun n => by unfold cntS; rw [if_pos hk]
    (first | refine wX ?_ | exact wZ)
    rw [h72]
    cases e72 : d.letter == 72 with
    | true =>
      -- 1: the digits; 1: as the number is spelled; (.inr ⟨rfl, by decide⟩): that it is so
      (first | refine wX ?_ | exact wZ)
      refine callG (hexu_c ub s a out len cap (1) (1) (.inr ⟨rfl, by decide⟩) ha hs) [1] rfl ⟨rfl, trivial⟩ rfl fun _ _ => ?_
      have hcut : cutS d (s.drop a) = ((hex ((s.drop a).take ((1 + 1) / 2))).take (1), ((s.drop a).take ((1 + 1) / 2)).length) := by
        unfold cutS
        rw [if_pos e72, List.length_drop, hc2]
      (first | refine wX ?_ | exact wZ)
      exact ⟨(), trivial, by rw [hcut], by rw [hcut]; exact ⟨wkE_refl _, wkE_refl _, wkH_nil _⟩⟩
    | false =>
      have hcn := hc2 (s.drop a).length
      (first | refine wX ?_ | exact wZ)
      -- 1: the count; 1: as it is spelled; (fun h => absurd h.1 (by omega)): of cutS
      obtain ⟨b, hb⟩ : ∃ b, (s.drop a).take (1) = b := ⟨_, rfl⟩
      have hbl : b.length = min (1) (s.length - a) := by rw [← hb, List.length_take, List.length_drop]
      have hbt : (s.drop a).take b.length = b := by rw [hbl, ← hb, ← List.length_drop, ← List.take_eq_take_min]
      have hcut : cutS d (s.drop a) = (if d.letter == 65 then trimA b else if d.letter == 90 then b.takeWhile (· != 0) else b, b.length) := by
        unfold cutS
        rw [if_neg (by rw [e72]; decide), if_neg (fun h => absurd h.1 (by omega)), hcn, hb]
      -- the bytes b are cut (1: as the count is spelled), trimmed
      (first | refine wX ?_ | exact wZ)
      refine call1 (left_c ub s a out len cap ha hs _ (fun w hw => hw.2.1)) ?_
      (first | refine wX ?_ | exact wZ)
      have hmin : minI (1) ((s.length - a : Nat) : Int) = ((b.length : Nat) : Int) := by
        rw [hbl]
        unfold minI
        split <;> omega
      rw [hmin]
      refine callG (cut_c ub s a b.length out len cap (by omega) hs) [1] rfl ⟨rfl, trivial⟩ rfl fun _ _ => ?_
      rw [hbt]
      (first | refine wX ?_ | exact wZ)
      rw [h65]
      cases e65 : d.letter == 65 with
      | true =>
        rw [e65, if_pos rfl] at hcut
        (first | refine wX ?_ | exact wZ)
        refine call1 (TrimZ_c b (by omega) _) ?_
        (first | refine wX ?_ | exact wZ)
        exact ⟨(), trivial, by rw [hcut], by rw [hcut]; exact ⟨wkE_refl _, wkE_refl _, wkH_nil _⟩⟩
      | false =>
        rw [e65, if_neg (by decide)] at hcut
        (first | refine wX ?_ | exact wZ)
        rw [h90]
        cases e90 : d.letter == 90 with
        | true =>
          rw [e90, if_pos rfl] at hcut
          (first | refine wX ?_ | exact wZ)
          refine call1 (Cut_c b [0] (by omega) _ (fun w hw => hw.1.1)) ?_
          rw [cut0]
          (first | refine wX ?_ | exact wZ)
          exact ⟨(), trivial, by rw [hcut], by rw [hcut]; exact ⟨wkE_refl _, wkE_refl _, wkH_nil _⟩⟩
        | false =>
          rw [e90, if_neg (by decide)] at hcut
          (first | refine wX ?_ | exact wZ)
          exact ⟨(), trivial, by rw [hcut], by rw [hcut]; exact ⟨wkE_refl _, wkE_refl _, wkH_nil _⟩⟩
  · by_cases hk1 : d.count = -1
    · have hc2 : ∀ n, cntS d n = n := fun n => by unfold cntS; rw [if_neg hk, if_pos hk1]
      (first | refine wX ?_ | exact wZ)
      rw [h72]
      cases e72 : d.letter == 72 with
      | true =>
        -- (2 * (s.length - a)): the digits; d.count: as the number is spelled; (.inl ⟨hk1, rfl⟩): that it is so
        (first | refine wX ?_ | exact wZ)
        refine callG (hexu_c ub s a out len cap (d.count) ((2 * (s.length - a))) (.inl ⟨hk1, rfl⟩) ha hs) [1] rfl ⟨rfl, trivial⟩ rfl fun _ _ => ?_
        have hcut : cutS d (s.drop a) = ((hex ((s.drop a).take (((2 * (s.length - a)) + 1) / 2))).take ((2 * (s.length - a))), ((s.drop a).take (((2 * (s.length - a)) + 1) / 2)).length) := by
          unfold cutS
          rw [if_pos e72, List.length_drop, hc2]
        (first | refine wX ?_ | exact wZ)
        exact ⟨(), trivial, by rw [hcut], by rw [hcut]; exact ⟨wkE_refl _, wkE_refl _, wkH_nil _⟩⟩
      | false =>
        have hcn := hc2 (s.drop a).length
        rw [List.length_drop] at hcn
        have hdl := List.length_drop (l := s) (i := a)
        (first | refine wX ?_ | exact wZ)
        refine brd_eq (fun _ => ?_) (fun h => absurd hk1 h)
        (first | refine wX ?_ | exact wZ)
        refine call1 (left_c ub s a out len cap ha hs _ (fun w hw => hw.2.1)) ?_
        (first | refine wX ?_ | exact wZ)
        refine LdN.one (a := some ⟨ub, 0, none⟩) (q := 0) (.string (bs s)) rfl (fun w hw => hw.2.1) rfl ?_
        (first | refine wX ?_ | exact wZ)
        refine LdN.one (a := some ⟨ub, 0, none⟩) (q := 1) (.int .i64 (a : Int)) rfl (fun w hw => hw.2.1) rfl ?_
        (first | refine wX ?_ | exact wZ)
        refine ReadW.sl_l a rfl Tryd.underlying9 rfl rfl ⟨rfl, ha⟩ ?_
        (first | refine wX ?_ | exact wZ)
        refine callQ (IndexByte_c (s.drop a) 0 _) ?_
        rw [index0]
        by_cases hz : (s.drop a).contains 0 = true
        · rw [if_pos hz]
          obtain ⟨t, ht⟩ : ∃ t, (s.drop a).takeWhile (· != 0) = t := ⟨_, rfl⟩
          have htl : t.length + 1 ≤ s.length - a := by
            rw [← ht, ← hdl]
            exact tw_lt hz
          rw [ht]
          (first | refine wX ?_ | exact wZ)
          rw [h90]
          cases e90 : d.letter == 90 with
          | true =>
            have hcut : cutS d (s.drop a) = (t, t.length + 1) := by
              unfold cutS
              rw [if_neg (by rw [e72]; decide), if_pos ⟨hk1, e90, hz⟩, ht]
            have htk : ((s.drop a).take (t.length + 1)).take t.length = t := by rw [List.take_take, Nat.min_eq_left (by omega), ← ht]; exact take0 _
            have htk2 : ((s.drop a).take (t.length + 1)).length = t.length + 1 := by rw [List.length_take]; omega
            (first | refine wX ?_ | exact wZ)
            rw [show IntKind.i64.wrap ((t.length : Int) + 1) = ((t.length + 1 : Nat) : Int) by rw [wrap_i64 (by omega)]; omega]
            refine callG (cut_c ub s a (t.length + 1) out len cap (by omega) hs) [1] rfl ⟨rfl, trivial⟩ rfl fun _ _ => ?_
            (first | refine wX ?_ | exact wZ)
            refine ReadW.sl_h t.length rfl Tryd.underlying9 rfl rfl ⟨rfl, by omega⟩ ?_
            rw [htk]
            (first | refine wX ?_ | exact wZ)
            exact ⟨(), trivial, by rw [hcut], by rw [hcut]; exact ⟨wkE_refl _, wkE_refl _, wkH_nil _⟩⟩
          | false =>
            have hn3 : ¬ (d.count = -1 ∧ (d.letter == 90) = true ∧ (s.drop a).contains 0 = true) := fun h => by rw [e90] at h; exact absurd h.2.1 (by decide)
            (first | refine wX ?_ | exact wZ)
            obtain ⟨b, hb⟩ : ∃ b, (s.drop a).take (s.length - a) = b := ⟨_, rfl⟩
            have hbl : b.length = min (s.length - a) (s.length - a) := by rw [← hb, List.length_take, List.length_drop]
            have hbt : (s.drop a).take b.length = b := by rw [hbl, ← hb, ← List.length_drop, ← List.take_eq_take_min]
            have hcut : cutS d (s.drop a) = (if d.letter == 65 then trimA b else if d.letter == 90 then b.takeWhile (· != 0) else b, b.length) := by
              unfold cutS
              rw [if_neg (by rw [e72]; decide), if_neg hn3, hdl, hcn, hb]
            rw [e90, if_neg (show ¬ false = true by decide)] at hcut
            -- as tail, but Z is known
            (first | refine wX ?_ | exact wZ)
            refine call1 (left_c ub s a out len cap ha hs _ (fun w hw => hw.2.1)) ?_
            (first | refine wX ?_ | exact wZ)
            have hmin : minI ((s.length - a : Nat) : Int) ((s.length - a : Nat) : Int) = ((b.length : Nat) : Int) := by
              rw [hbl]
              unfold minI
              split <;> omega
            rw [hmin]
            refine callG (cut_c ub s a b.length out len cap (by omega) hs) [1] rfl ⟨rfl, trivial⟩ rfl fun _ _ => ?_
            rw [hbt]
            (first | refine wX ?_ | exact wZ)
            rw [h65]
            cases e65 : d.letter == 65 with
            | true =>
              rw [e65, if_pos rfl] at hcut
              (first | refine wX ?_ | exact wZ)
              refine call1 (TrimZ_c b (by omega) _) ?_
              (first | refine wX ?_ | exact wZ)
              exact ⟨(), trivial, by rw [hcut], by rw [hcut]; exact ⟨wkE_refl _, wkE_refl _, wkH_nil _⟩⟩
            | false =>
              rw [e65, if_neg (by decide)] at hcut
              (first | refine wX ?_ | exact wZ)
              rw [h90, e90]
              (first | refine wX ?_ | exact wZ); exact ⟨(), trivial, by rw [hcut], by rw [hcut]; exact ⟨wkE_refl _, wkE_refl _, wkH_nil _⟩⟩
        · rw [if_neg hz]
          have hn3 : ¬ (d.count = -1 ∧ (d.letter == 90) = true ∧ (s.drop a).contains 0 = true) := fun h => hz h.2.2
          (first | refine wX ?_ | exact wZ)
          rw [h90]
          cases e90 : d.letter == 90 with
          | true =>
            (first | refine wX ?_ | exact wZ)
            obtain ⟨b, hb⟩ : ∃ b, (s.drop a).take (s.length - a) = b := ⟨_, rfl⟩
            have hbl : b.length = min (s.length - a) (s.length - a) := by rw [← hb, List.length_take, List.length_drop]
            have hbt : (s.drop a).take b.length = b := by rw [hbl, ← hb, ← List.length_drop, ← List.take_eq_take_min]
            have hcut : cutS d (s.drop a) = (if d.letter == 65 then trimA b else if d.letter == 90 then b.takeWhile (· != 0) else b, b.length) := by
              unfold cutS
              rw [if_neg (by rw [e72]; decide), if_neg hn3, hdl, hcn, hb]
            rw [e90, if_pos (show true = true from rfl)] at hcut
            -- as tail, but Z is known
            (first | refine wX ?_ | exact wZ)
            refine call1 (left_c ub s a out len cap ha hs _ (fun w hw => hw.2.1)) ?_
            (first | refine wX ?_ | exact wZ)
            have hmin : minI ((s.length - a : Nat) : Int) ((s.length - a : Nat) : Int) = ((b.length : Nat) : Int) := by
              rw [hbl]
              unfold minI
              split <;> omega
            rw [hmin]
            refine callG (cut_c ub s a b.length out len cap (by omega) hs) [1] rfl ⟨rfl, trivial⟩ rfl fun _ _ => ?_
            rw [hbt]
            (first | refine wX ?_ | exact wZ)
            rw [h65]
            cases e65 : d.letter == 65 with
            | true =>
              rw [e65, if_pos rfl] at hcut
              (first | refine wX ?_ | exact wZ)
              refine call1 (TrimZ_c b (by omega) _) ?_
              (first | refine wX ?_ | exact wZ)
              exact ⟨(), trivial, by rw [hcut], by rw [hcut]; exact ⟨wkE_refl _, wkE_refl _, wkH_nil _⟩⟩
            | false =>
              rw [e65, if_neg (by decide)] at hcut
              (first | refine wX ?_ | exact wZ)
              rw [h90, e90]
              (first | refine wX ?_ | exact wZ); refine call1 (Cut_c b [0] (by omega) _ (fun w hw => hw.1.1)) ?_; rw [cut0]; (first | refine wX ?_ | exact wZ); exact ⟨(), trivial, by rw [hcut], by rw [hcut]; exact ⟨wkE_refl _, wkE_refl _, wkH_nil _⟩⟩
          | false =>
            (first | refine wX ?_ | exact wZ)
            obtain ⟨b, hb⟩ : ∃ b, (s.drop a).take (s.length - a) = b := ⟨_, rfl⟩
            have hbl : b.length = min (s.length - a) (s.length - a) := by rw [← hb, List.length_take, List.length_drop]
            have hbt : (s.drop a).take b.length = b := by rw [hbl, ← hb, ← List.length_drop, ← List.take_eq_take_min]
            have hcut : cutS d (s.drop a) = (if d.letter == 65 then trimA b else if d.letter == 90 then b.takeWhile (· != 0) else b, b.length) := by
              unfold cutS
              rw [if_neg (by rw [e72]; decide), if_neg hn3, hdl, hcn, hb]
            rw [e90, if_neg (show ¬ false = true by decide)] at hcut
            -- as tail, but Z is known
            (first | refine wX ?_ | exact wZ)
            refine call1 (left_c ub s a out len cap ha hs _ (fun w hw => hw.2.1)) ?_
            (first | refine wX ?_ | exact wZ)
            have hmin : minI ((s.length - a : Nat) : Int) ((s.length - a : Nat) : Int) = ((b.length : Nat) : Int) := by
              rw [hbl]
              unfold minI
              split <;> omega
            rw [hmin]
            refine callG (cut_c ub s a b.length out len cap (by omega) hs) [1] rfl ⟨rfl, trivial⟩ rfl fun _ _ => ?_
            rw [hbt]
            (first | refine wX ?_ | exact wZ)
            rw [h65]
            cases e65 : d.letter == 65 with
            | true =>
              rw [e65, if_pos rfl] at hcut
              (first | refine wX ?_ | exact wZ)
              refine call1 (TrimZ_c b (by omega) _) ?_
              (first | refine wX ?_ | exact wZ)
              exact ⟨(), trivial, by rw [hcut], by rw [hcut]; exact ⟨wkE_refl _, wkE_refl _, wkH_nil _⟩⟩
            | false =>
              rw [e65, if_neg (by decide)] at hcut
              (first | refine wX ?_ | exact wZ)
              rw [h90, e90]
              (first | refine wX ?_ | exact wZ); exact ⟨(), trivial, by rw [hcut], by rw [hcut]; exact ⟨wkE_refl _, wkE_refl _, wkH_nil _⟩⟩
    · obtain ⟨T, hT⟩ : ∃ T : Nat, d.count.toNat = T := ⟨_, rfl⟩
      have hT2 : d.count = (T : Int) ∧ T ≤ 1000 := by
        unfold CntOk at hc
        omega
      have hc2 : ∀ n, cntS d n = T := fun n => by unfold cntS; rw [if_neg hk, if_neg hk1]; exact hT
      (first | refine wX ?_ | exact wZ)
      rw [h72]
      cases e72 : d.letter == 72 with
      | true =>
        -- T: the digits; d.count: as the number is spelled; (.inr hT2): that it is so
        (first | refine wX ?_ | exact wZ)
        refine callG (hexu_c ub s a out len cap (d.count) (T) (.inr hT2) ha hs) [1] rfl ⟨rfl, trivial⟩ rfl fun _ _ => ?_
        have hcut : cutS d (s.drop a) = ((hex ((s.drop a).take ((T + 1) / 2))).take (T), ((s.drop a).take ((T + 1) / 2)).length) := by
          unfold cutS
          rw [if_pos e72, List.length_drop, hc2]
        (first | refine wX ?_ | exact wZ)
        exact ⟨(), trivial, by rw [hcut], by rw [hcut]; exact ⟨wkE_refl _, wkE_refl _, wkH_nil _⟩⟩
      | false =>
        have hcn := hc2 (s.drop a).length
        (first | refine wX ?_ | exact wZ)
        refine brd_eq (fun h => absurd h hk1) (fun _ => ?_)
        -- T: the count; d.count: as it is spelled; (fun h => absurd h.1 hk1): of cutS
        obtain ⟨b, hb⟩ : ∃ b, (s.drop a).take (T) = b := ⟨_, rfl⟩
        have hbl : b.length = min (T) (s.length - a) := by rw [← hb, List.length_take, List.length_drop]
        have hbt : (s.drop a).take b.length = b := by rw [hbl, ← hb, ← List.length_drop, ← List.take_eq_take_min]
        have hcut : cutS d (s.drop a) = (if d.letter == 65 then trimA b else if d.letter == 90 then b.takeWhile (· != 0) else b, b.length) := by
          unfold cutS
          rw [if_neg (by rw [e72]; decide), if_neg (fun h => absurd h.1 hk1), hcn, hb]
        -- the bytes b are cut (d.count: as the count is spelled), trimmed
        (first | refine wX ?_ | exact wZ)
        refine call1 (left_c ub s a out len cap ha hs _ (fun w hw => hw.2.1)) ?_
        (first | refine wX ?_ | exact wZ)
        have hmin : minI (d.count) ((s.length - a : Nat) : Int) = ((b.length : Nat) : Int) := by
          rw [hbl]
          unfold minI
          split <;> omega
        rw [hmin]
        refine callG (cut_c ub s a b.length out len cap (by omega) hs) [1] rfl ⟨rfl, trivial⟩ rfl fun _ _ => ?_
        rw [hbt]
        (first | refine wX ?_ | exact wZ)
        rw [h65]
        cases e65 : d.letter == 65 with
        | true =>
          rw [e65, if_pos rfl] at hcut
          (first | refine wX ?_ | exact wZ)
          refine call1 (TrimZ_c b (by omega) _) ?_
          (first | refine wX ?_ | exact wZ)
          exact ⟨(), trivial, by rw [hcut], by rw [hcut]; exact ⟨wkE_refl _, wkE_refl _, wkH_nil _⟩⟩
        | false =>
          rw [e65, if_neg (by decide)] at hcut
          (first | refine wX ?_ | exact wZ)
          rw [h90]
          cases e90 : d.letter == 90 with
          | true =>
            rw [e90, if_pos rfl] at hcut
            (first | refine wX ?_ | exact wZ)
            refine call1 (Cut_c b [0] (by omega) _ (fun w hw => hw.1.1)) ?_
            rw [cut0]
            (first | refine wX ?_ | exact wZ)
            exact ⟨(), trivial, by rw [hcut], by rw [hcut]; exact ⟨wkE_refl _, wkE_refl _, wkH_nil _⟩⟩
          | false =>
            rw [e90, if_neg (by decide)] at hcut
            (first | refine wX ?_ | exact wZ)
            exact ⟨(), trivial, by rw [hcut], by rw [hcut]; exact ⟨wkE_refl _, wkE_refl _, wkH_nil _⟩⟩
end Go.Proofs.YtjkchonpnocffaaDoor

/-
  AX, thirty-second text: append(l, make([]byte, n)...): so many zeros onto a slice of bytes that grows.
-/
namespace Go.AX

theorem zeroCells_u8 (k : Nat) : (Builtin.zeroCells (Value.int .u8 0).cells k).toList = List.replicate k (Value.int .u8 0) := by
  unfold Builtin.zeroCells
  apply List.ext_getElem?
  intro i
  simp only [Value.cells, Array.toList_map, Array.toList_range, List.getElem?_map, List.getElem?_replicate]
  by_cases h : i < k
  · rw [if_pos h, List.getElem?_range (by simpa using h)]
    simp [Nat.mod_one]
  · rw [if_neg h, List.getElem?_eq_none (by simp; omega)]
    rfl
theorem run_append_room_zeros {P : Program} (w : World) (t tn ty e : TypeId) (i : TypeInfo) (kq kn : IntKind) (ht : P.underlying t = some (.slice e)) (htn : P.underlying tn = some (.int kn)) (hi : P.info? e = some i) (hz : i.zero = some (.int .u8 0)) (hs1 : i.size = 1) (hby : i.bytes = 1)
    (g sLen sCap : Nat) (cur : Array Value) (fr : Nat × Nat) (hg : w.heap[g]? = some (.cells cur e fr)) (hfr : NoFr fr cur.size) (k : Nat) (h0 : 0 < k) (hk : k ≤ 140737488355328) (hroom : sLen + k ≤ sCap) (hfit : sLen + k ≤ cur.size) :
    (Builtin.append_ #[t, tn] ty #[.slice (some ⟨g, 0, none⟩) sLen sCap, .int kq k]).run P w =
      .ok (.slice (some ⟨g, 0, none⟩) (sLen + k) sCap) (w.setRow g (cur.toList.take sLen ++ List.replicate k (Value.int .u8 0) ++ cur.toList.drop (sLen + k)).toArray) := by
  have hst := run_storeCells_no P g sLen e fr (List.replicate k (Value.int .u8 0)) 0 cur w hg hfr (by simpa using hfit) (fun v hv => by rw [(List.mem_replicate.1 hv).2]; rfl)
  simp only [Nat.add_zero, List.length_replicate] at hst
  have hw : IntKind.i64.wrap (k : Int) = k := by rw [IntKind.wrap_i64]; omega
  have hneg : ¬ ((k : Int) < 0) := by omega
  have h48i : ¬ (281474976710656 < (k : Int) * ((1 : Nat) : Int)) := by omega
  have hne : ¬ k = 0 := by omega
  have hzc := zeroCells_u8 k
  simp [Builtin.append_, run_underlying ht, run_underlying htn, sizeOf, typeInfo, zeroValue, hi, hz, hs1, hby, asInt, asIntOf, hw, hneg, hne, hroom, Addr.add_lit, hzc, hst]
  intro h; exact absurd h (by omega)
/-- append(l, make([]byte, k)...), k at least one. -/
theorem EffW.appZeros {P : Program} {o : Oper} {s : List AV} {H : List Ent} {K : AV → List Ent → Prop} {T U e : TypeId} {x y : Operand} {args : Array Operand} {ts : Array TypeId} {a : Option Addr} {n cap : Nat} {kn : IntKind} {z : Int} (i k : Nat) {xs : List Value}
    (ho : o.op = .call { callee := .builtin .append, args := args, argTypes := ts }) (ha : args.toList = [x, y]) (ht : ts.toList = [T, U])
    (hT : P.underlying T = some (.slice e)) (hU : P.underlying U = some (.int kn)) (hB : byteB P e = true)
    (hx : opv s x = .c (.v (.slice a n cap))) (hy : opv s y = .c (.v (.int .i64 z))) (hz : z = k) (he : nthE H i = some (.app e 1 xs a n cap)) (room : 1 ≤ k ∧ n + k ≤ 1000000000)
    (next : ∀ b cap' : Nat, n + k ≤ cap' → cap' ≤ maxLen → setEK H i (.app e 1 (xs ++ List.replicate k (.int .u8 0)) (some ⟨b, 0, none⟩) (n + k) cap') fun H' => K (.c (.v (.slice (some ⟨b, 0, none⟩) (n + k) cap'))) H') : EffW P o s H K := by
  subst hz
  obtain ⟨inf, hi, hz, hsz, hby⟩ := byteB_spec hB
  intro ρ S w ac hs hr
  rw [nthE_eq] at he
  have e1 : args = #[x, y] := by rw [← Array.toArray_toList (xs := args), ha]
  have e2 : ts = #[T, U] := by rw [← Array.toArray_toList (xs := ts), ht]
  subst e1; subst e2
  have hxr := opv_rel hr x
  have hyr := opv_rel hr y
  rw [hx] at hxr; rw [hy] at hyr
  have hx2 : ac.eval x = .slice a n cap := hxr
  have hy2 : ac.eval y = .int .i64 k := hyr
  have hexec : ∀ v' w', (Builtin.append_ #[T, U] o.type #[.slice a n cap, .int .i64 k]).run P w = .ok v' w' → (execOp ac.eval o).run P w = .ok (.value v') w' := fun v' w' hrun => by
    unfold execOp
    simp only [ho, resolve, invoke, builtin, Sem.run_bind, Sem.run_pure, Result.andThen_ok, List.map_toArray, List.map_cons, List.map_nil, hx2, hy2, hrun]
  have hzk := zeroCells_u8
  have hent := hs.ent i _ he
  have hge := grownCap_ge w (n + k) cap e
  have hgm := grownCap_le_maxLen w (n + k) cap e (by simp only [maxLen]; omega)
  rcases hent with ⟨rfl, rfl, rfl, rfl⟩ | ⟨g, rfl, arr, fr, ⟨hb, hfr⟩, hxl, hnc, hcm, hasz, htk⟩
  · have hrun := Lib.run_append_grow_zeros (P := P) w T U o.type e inf (.int .u8 0) .i64 kn hT hU hi hz none 0 0 [] (run_firstCells_none _ _ _ _ _) k (by omega) (by omega) (by omega) (by omega) (by rw [hby]; omega) (by rw [hby]; exact growslice_fits (by omega) (by omega))
    generalize grownCap w (0 + k) 0 e = c at hrun hge hgm
    obtain ⟨hilt, hk⟩ := setEK_spec (next w.heap.size c hge hgm)
    have hS := hs.setNil (e' := .app e 1 ([] ++ List.replicate k (.int .u8 0)) (some ⟨w.heap.size, 0, none⟩) (0 + k) c) he rfl (w' := w.drew.alloc (.cells (([] : List Value).toArray ++ Builtin.zeroCells (Value.int .u8 0).cells k ++ Builtin.zeroCells (Value.int .u8 0).cells (c - (0 + k))) e)) rfl rfl rfl rfl (fun b hb => (Option.some.inj hb).symm)
      (.inr ⟨_, rfl, _, (0, 0), ⟨heap_alloc_new w.drew _, .inl rfl⟩, by simp, hge, hgm, by simp [size_zeroCells, Value.cells]; omega, by
        simp only [Array.toList_append, hzk, Nat.mul_one, List.nil_append]
        rw [List.take_append_of_le_length (by simp), List.take_of_length_le (by simp)]⟩)
    exact ⟨_, _, hk, _, _, _, _, hexec _ _ hrun, .inl rfl, hS.1, hS.2, rfl⟩
  · rw [Nat.mul_one] at hxl hasz htk
    by_cases hroom : n + k ≤ cap
    · have hrun := run_append_room_zeros (P := P) w T U o.type e inf .i64 kn hT hU hi hz hsz hby g n cap arr fr hb hfr k (by omega) (by omega) hroom (by omega)
      obtain ⟨hilt, hk⟩ := setEK_spec (next g cap hroom hcm)
      obtain ⟨f1, f2, f3, f4, f5⟩ := setRow_facts w g (arr.toList.take n ++ List.replicate k (Value.int .u8 0) ++ arr.toList.drop (n + k)).toArray
      have hS := hs.setG (e' := .app e 1 (xs ++ List.replicate k (.int .u8 0)) (some ⟨g, 0, none⟩) (n + k) cap) he rfl (Nat.le_of_eq f1.symm) (fun k _ hne => f2 k hne) f3 f4 f5 (fun b hb => .inl (Option.some.inj hb).symm)
        (.inr ⟨g, rfl, _, fr, ⟨setRow_heap w g arr _ e _ hb, by
          have e0 : (arr.toList.take n ++ List.replicate k (Value.int .u8 0) ++ arr.toList.drop (n + k)).toArray.size = arr.size := (by simp; omega)
          rw [e0]; exact hfr⟩, by simp [hxl], hroom, hcm, by simp; omega, by
          rw [← htk, Nat.mul_one]
          have e0 : (arr.toList.take n ++ List.replicate k (Value.int .u8 0)).length = n + k := by simp; omega
          rw [List.take_append_of_le_length (by omega), ← e0, List.take_length]⟩)
      exact ⟨_, _, hk, _, _, _, _, hexec _ _ hrun, .inl rfl, hS.1, hS.2, rfl⟩
    · have holds : ∀ j v, xs[j]? = some v → w.cell? ((⟨g, 0, none⟩ : Addr).add j) = some v := fun j v hv => by
        rw [add_lit, Nat.zero_add, cell_of_row w g j arr e fr hb]
        rw [← htk, List.getElem?_take] at hv
        split at hv
        · simpa using hv
        · cases hv
      have hf := run_firstCells_some (P := P) w.drew inf.size n ⟨g, 0, none⟩ n cap xs (by rw [hsz]; omega) (fun j v hv => holds j v hv)
      have hrun := Lib.run_append_grow_zeros (P := P) w T U o.type e inf (.int .u8 0) .i64 kn hT hU hi hz (some ⟨g, 0, none⟩) n cap xs hf k (by omega) (by omega) (by omega) (by omega) (by rw [hby]; omega) (by rw [hby]; exact growslice_fits (by omega) (by omega))
      generalize grownCap w (n + k) cap e = c at hrun hge hgm
      obtain ⟨hilt, hk⟩ := setEK_spec (next w.heap.size c hge hgm)
      have hS := hs.setG (e' := .app e 1 (xs ++ List.replicate k (.int .u8 0)) (some ⟨w.heap.size, 0, none⟩) (n + k) c)
        (w' := w.drew.alloc (.cells (xs.toArray ++ Builtin.zeroCells (Value.int .u8 0).cells k ++ Builtin.zeroCells (Value.int .u8 0).cells (c - (n + k))) e)) he rfl
        (by show w.heap.size ≤ (w.heap.push _).size; simp) (fun k hk _ => by show (w.heap.push _)[k]? = _; rw [Array.getElem?_push, if_neg (by omega)]) rfl rfl rfl (fun b hb => .inr (Nat.le_of_eq (Option.some.inj hb)))
        (.inr ⟨w.heap.size, rfl, _, (0, 0), ⟨heap_alloc_new w.drew _, .inl rfl⟩, by simp [hxl], hge, hgm, by simp [size_zeroCells, Value.cells, hxl]; omega, by
          have e0 : (xs ++ List.replicate k (Value.int .u8 0)).length = n + k := by simp [hxl]
          simp only [Array.toList_append, hzk, Nat.mul_one]
          rw [← e0]; exact List.take_left⟩)
      exact ⟨_, _, hk, _, _, _, _, hexec _ _ hrun, .inl rfl, hS.1, hS.2, rfl⟩
/-- .. and of none. -/
theorem EffW.appZeros0 {P : Program} {o : Oper} {s : List AV} {H : List Ent} {K : AV → List Ent → Prop} {T U e : TypeId} {x y : Operand} {args : Array Operand} {ts : Array TypeId} {a : Option Addr} {n cap : Nat} {kn : IntKind} {z : Int}
    (ho : o.op = .call { callee := .builtin .append, args := args, argTypes := ts }) (ha : args.toList = [x, y]) (ht : ts.toList = [T, U])
    (hT : P.underlying T = some (.slice e)) (hU : P.underlying U = some (.int kn)) (hB : byteB P e = true)
    (hx : opv s x = .c (.v (.slice a n cap))) (hy : opv s y = .c (.v (.int .i64 z))) (hz : z = 0) (hn : n ≤ cap) (next : K (.c (.v (.slice a n cap))) H) : EffW P o s H K := by
  subst hz
  obtain ⟨inf, hi, hz, hsz, hby⟩ := byteB_spec hB
  intro ρ S w ac hs hr
  have e1 : args = #[x, y] := by rw [← Array.toArray_toList (xs := args), ha]
  have e2 : ts = #[T, U] := by rw [← Array.toArray_toList (xs := ts), ht]
  subst e1; subst e2
  have hxr := opv_rel hr x
  have hyr := opv_rel hr y
  rw [hx] at hxr; rw [hy] at hyr
  have hx2 : ac.eval x = .slice a n cap := hxr
  have hy2 : ac.eval y = .int .i64 0 := hyr
  have hw : IntKind.i64.wrap 0 = 0 := by rw [IntKind.wrap_i64]; omega
  have hrun : (Builtin.append_ #[T, U] o.type #[.slice a n cap, .int .i64 0]).run P w = .ok (.slice a n cap) w := by
    cases a <;> simp [Builtin.append_, run_underlying hT, run_underlying hU, sizeOf, typeInfo, hi, hby, asInt, asIntOf, hw, hn, storeCells]
  refine ⟨_, _, next, _, _, _, _, ?_, .inl rfl, hs, Ev.refl _ _ _ _, rfl⟩
  unfold execOp
  simp only [ho, resolve, invoke, builtin, Sem.run_bind, Sem.run_pure, Result.andThen_ok, List.map_toArray, List.map_cons, List.map_nil, hx2, hy2, hrun]
end Go.AX

/-
  AX, thirty-third text: readings that are the same in all worlds of a kind.
-/
namespace Go.AX

theorem ReadC.load {P : Program} {C : World → Prop} {o : Oper} {s : List AV} {K : AV → Prop} {T : TypeId} {x : Operand} {p : Addr} (v : Value) (ho : o.op = .load T x) (hx : opv s x = .c (.v (.pointer (some p)))) (hF : ∀ w, C w → (loadVar T p).run P w = .ok v w) (hk : K (.c (.v v))) : ∃ x, ReadC P C o s K x :=
  ⟨v, fun cs b e => (by rw [ho] at e; cases e), by rw [ho]; show allPlain s [x] = true; simp [allPlain, hx], fun w hw => by
    have hx2 : plainEv s x = .pointer (some p) := by unfold plainEv; rw [hx]
    unfold execOp
    simp [ho, hx2, Instr.loadAt, Instr.sureAddr, hF w hw], hk⟩
/-- A load of one cell. -/
theorem ReadC.one {P : Program} {C : World → Prop} {o : Oper} {s : List AV} {K : AV → Prop} {T : TypeId} {x : Operand} {a : Option Addr} {q k : Nat} {xs : List Value} (v : Value) (ho : o.op = .load T x) (hx : opv s x = .c (.v (.pointer (some (elemAddr a q))))) (hT : shapeT P T = some none)
    (hF : ∀ w, C w → SlAt a k xs w) (hv : xs[q]? = some v) (hk : K (.c (.v v))) : ∃ x, ReadC P C o s K x :=
  ReadC.load v ho hx (fun w hw => loadVar_cell hT ((hF w hw).cell hv)) hk
/-- A load of a struct. -/
theorem ReadC.agg {P : Program} {C : World → Prop} {o : Oper} {s : List AV} {K : AV → Prop} {T : TypeId} {x : Operand} {a : Option Addr} {q n k : Nat} {xs : List Value} (ys : List Value) (ho : o.op = .load T x) (hx : opv s x = .c (.v (.pointer (some (elemAddr a q))))) (hT : shapeT P T = some (some n))
    (hF : ∀ w, C w → SlAt a k xs w) (hl : ys.length = n) (hv : ∀ j, j < n → xs[q + j]? = ys[j]?) (hk : K (.c (.v (.agg ys.toArray)))) : ∃ x, ReadC P C o s K x :=
  ReadC.load (.agg ys.toArray) ho hx (fun w hw => loadVar_cells hT hl fun j v hj => by
    have hjn : j < n := by rw [← hl]; exact (List.getElem?_eq_some_iff.1 hj).1
    rw [elemAddr, Addr.add_add]
    exact (hF w hw).cell ((hv j hjn).trans hj)) hk
theorem ReadC.nil {P : Program} {C : World → Prop} {o : Oper} {s : List AV} {K : AV → Prop} {x : Operand} {p : Addr} (ho : o.op = .nilCheck x) (hx : opv s x = .c (.v (.pointer (some p)))) (hk : K (.c (.v (.pointer (some p))))) : ∃ x, ReadC P C o s K x :=
  ⟨.pointer (some p), fun cs b e => (by rw [ho] at e; cases e), by rw [ho]; show allPlain s [x] = true; simp [allPlain, hx], fun w _ => by
    have hx2 : plainEv s x = .pointer (some p) := by unfold plainEv; rw [hx]
    unfold execOp
    simp [ho, hx2], hk⟩
end Go.AX

/-
  Contracts: Bytes, Unpack (program).
-/
namespace Go.Proofs.YtjkchonpnocffaaDoor
open Go.AX Go.RowKit Go.Pack
set_option maxRecDepth 20000

theorem unS_cons (whole : List UInt8) (d : Dir) (l : List Dir) (s : List UInt8) (out : List Pack.Item) : unS whole (d :: l) s out =
    if d.letter == 64 then if d.count > whole.length then .error 14 else unS whole l (whole.drop (max 0 d.count).toNat) out
    else if d.letter == 120 then if (max 1 d.count).toNat > s.length then .error 14 else unS whole l (s.drop (max 1 d.count).toNat) out
    else if isStr d.letter then unS whole l (s.drop (cutS d s).2) (out ++ [⟨true, 0, (cutS d s).1⟩])
    else match numsS d s with
      | .error e => .error e
      | .ok (ns, r) => unS whole l r (out ++ ns.map intI) := rfl
theorem cutS_le (d : Dir) (s : List UInt8) : (cutS d s).2 ≤ s.length := by
  unfold cutS
  split
  · simp only [List.length_take]; omega
  split
  · rename_i h
    exact tw_lt h.2.2
  · simp only [List.length_take]; omega
/-- What Unpack gives: an error, or items in memory. -/
def UnR (r : Except Int (List Pack.Item)) (v : Value) (G : World → Prop) : Prop := match r with
  | .error e => v = .tuple #[.slice none 0 0, .int .i64 e]
  | .ok l => ∃ ob cap, v = .tuple #[.slice (at0 ob) l.length cap, .int .i64 0] ∧ (ob = none → l = []) ∧ ∀ w, G w → SlAt (at0 ob) (l.length * 3) (itemsC l) w
theorem Unpack_c (form s : List UInt8) (hf : form.length ≤ 100000) (hs : s.length ≤ 1000000) : SpecF Tryd.prog 9 [.string (bs form), .string (bs s)] UtfF (UnR (unpackS form s)) := by
  refine specF hm Tryd.func9 (by kernel_rfl) rfl rfl ?_
  (first | refine wX ?_ | exact wZ)
  refine SpecF.call (read_c form hf) (fun w _ => trivial) fun v G hR => ?_
  unfold unpackS
  cases hfm : forms form with
  | none =>
    rw [hfm] at hR
    obtain ⟨y, n, cap, rfl⟩ := hR
    (first | refine wX ?_ | exact wZ)
    exact fin_v rfl
  | some ds =>
    rw [hfm] at hR
    obtain ⟨db, dcap, rfl, hdb, hG⟩ := hR
    obtain ⟨h50, hok⟩ := forms_ok hfm
    ((conv => whnf); (repeat ((first | refine RwN.own ?_ | refine VrN.norm (wrap_i64 (by omega)) ?_ | refine VrN.keep ?_ | refine DrawN.calm (by decide +kernel) ?_ | refine Nd.mk (by decide +kernel) ?_ | refine Nd.mk (by omega) ?_ | (refine Nd.mk ?_ ?_; focus ((repeat' (first | exact trivial | exact wkE_refl _ | refine And.intro ?_ ?_)); done)) | refine RdN.intro _ rfl (by rfl) ?_); (conv => whnf))))
    refine BoxN.known [.string (bs s), .int .i64 0, .slice none 0 0] rfl fun ub => ?_
    (first | refine wX ?_ | exact wZ)
    refine LoopN.intro (Nat × Nat × List Pack.Item × Option Nat × Nat) (fun ⟨i, a, l, ob, cap⟩ => i ≤ ds.length ∧ a ≤ s.length ∧ l.length ≤ 1000001 * i ∧ ((ob = none → l = [] ∧ cap = 0) ∧ l.length ≤ cap) ∧ unS s (ds.drop i) (s.drop a) l = unS s ds s [])
      (fun ⟨i, _, _, _, _⟩ => mkS Tryd.f9.ntmps 0 [(1, .c (.v (.string (bs s)))), (8, .c (.v (.pointer (some ⟨ub, 0, none⟩)))), (23, .c (.v (.slice (at0 db) ds.length dcap))), (24, .c (.v (.int .i64 (ds.length : Int)))), (25, .c (.v (.int .i64 (i : Int))))])
      (fun ⟨_, a, l, ob, cap⟩ => [.fact UtfF, .fact G, unE ub s a ob l.length cap, itemsE l ob cap]) (fun ⟨i, _, _, _, _⟩ => ds.length - i) [.app 0 0 [] none 0 0] rfl
      (fun _ => rfl) (fun _ => rfl) (fun _ _ => okHB_eq rfl) ⟨(0, 0, [], none, 0), ⟨Nat.zero_le _, Nat.zero_le _, Nat.zero_le _, ⟨fun _ => ⟨rfl, rfl⟩, Nat.le_refl _⟩, rfl⟩, ?_, ?_⟩ ?_
    · (repeat' (first | exact trivial | refine And.intro (by with_reducible rfl) ?_ | (with_reducible exact wkC_refl _) | (with_reducible exact wkCs_refl _) | refine And.intro ?_ ?_))
      all_goals rfl
    · exact ⟨wkE_refl _, wkE_refl _, wkE_refl _, wkE_nil, wkH_nil _⟩
    rintro ⟨i, a, l, ob, cap⟩ ⟨hid, ha, hll, hob, hrun⟩
    (first | refine wX ?_ | exact wZ)
    refine brd_dec (fun h1 => ?_) (fun h1 => ?_)
    · obtain ⟨d, hd⟩ : ∃ d, ds[i]? = some d := ⟨_, List.getElem?_eq_getElem (by omega)⟩
      have hdok := hok d (List.mem_of_getElem? hd)
      obtain ⟨db, rfl⟩ : ∃ g, db = some g := by
        cases db with
        | none => rw [hdb rfl] at hd; cases hd
        | some g => exact ⟨g, rfl⟩
      have hc1 : d.count ≤ 1000 := by
        have := hdok.2
        unfold CntOk at this
        omega
      have hll2 : l.length ≤ 51000000 := Nat.le_trans hll (by omega)
      have hzs := bs_size s
      have h64 : ((d.letter.toNat : Int) == 64) = (d.letter == 64) := u8_eq (n := 64) (by decide)
      have h120 : ((d.letter.toNat : Int) == 120) = (d.letter == 120) := u8_eq (n := 120) (by decide)
      have hdr : unS s (ds.drop i) (s.drop a) l = unS s (d :: ds.drop (i + 1)) (s.drop a) l := by
        rw [List.drop_eq_getElem_cons (by omega), (List.getElem?_eq_some_iff.1 hd).2]
      rw [hdr, unS_cons] at hrun
      cases hst : isStr d.letter with
      | true =>
        have e64 : (d.letter == 64) = false := by
          cases h : d.letter == 64 with
          | false => rfl
          | true => rw [show d.letter = 64 by simpa using h] at hst; exact absurd hst (by decide)
        have e120 : (d.letter == 120) = false := by
          cases h : d.letter == 120 with
          | false => rfl
          | true => rw [show d.letter = 120 by simpa using h] at hst; exact absurd hst (by decide)
        rw [e64, if_neg (by decide), e120, if_neg (by decide), if_pos hst, List.drop_drop] at hrun
        have hcl : a + (cutS d (s.drop a)).2 ≤ s.length := by
          have := cutS_le d (s.drop a)
          rw [List.length_drop] at this
          omega
        (first | refine wX ?_ | exact wZ)
        refine Nd.mk ⟨rfl, by omega, by omega⟩ ?_
        (first | refine wX ?_ | exact wZ)
        refine LdN.agg (dirC d) rfl (fun w hw => hG w hw.2.1) rfl (fun j hj => by
          rw [Int.toNat_natCast]
          exact dirsC_get ds i j hj hd) ?_
        ((conv => whnf); (repeat ((first | refine RwN.own ?_ | refine VrN.norm (wrap_i64 (by omega)) ?_ | refine VrN.keep ?_ | refine DrawN.calm (by decide +kernel) ?_ | refine Nd.mk (by decide +kernel) ?_ | refine Nd.mk (by omega) ?_ | (refine Nd.mk ?_ ?_; focus ((repeat' (first | exact trivial | exact wkE_refl _ | refine And.intro ?_ ?_)); done)) | refine RdN.intro _ rfl (by rfl) ?_); (conv => whnf))))
        refine BoxN.known [.int .u8 0, .bool false, .int .i64 0] rfl fun dk => ?_
        (first | refine wX ?_ | exact wZ)
        refine EffW.appTo (i := 4) (q := 0) (ys := dirC d) (dirC d) 3 rfl rfl rfl rfl rfl rfl rfl (Nat.le_of_ble_eq_true rfl) rfl rfl ?_
        (first | refine wX ?_ | exact wZ)
        refine LdN.one (a := some ⟨dk, 0, none⟩) (q := 0) (.int .u8 (d.letter.toNat : Int)) rfl (fun w hw => hw.2.2.2.2.1) rfl ?_
        (first | refine wX ?_ | exact wZ)
        rw [h64, e64]
        (first | refine wX ?_ | exact wZ)
        refine LdN.one (a := some ⟨dk, 0, none⟩) (q := 0) (.int .u8 (d.letter.toNat : Int)) rfl (fun w hw => hw.2.2.2.2.1) rfl ?_
        (first | refine wX ?_ | exact wZ)
        rw [h120, e120]
        (first | refine wX ?_ | exact wZ)
        refine LdN.agg (a := some ⟨dk, 0, none⟩) (q := 0) (dirC d) rfl (fun w hw => hw.2.2.2.2.1) rfl (fun j _ => by rw [Nat.zero_add]) ?_
        (first | refine wX ?_ | exact wZ)
        refine call1 (isString_c d _) ?_
        rw [hst]
        (first | refine wX ?_ | exact wZ)
        refine DrawN.planC (fun w => w.cell? ⟨ub, 2, none⟩ = some (.slice (at0 ob) l.length cap) ∧ SlAt (some ⟨dk, 0, none⟩) 3 (dirC d) w) [0, 1, 5] [(2, 2), (3, 2), (4, 1), (6, 1), (7, 0), (8, 0), (9, 0)] [(10, 0), (11, 0), (12, 0), (13, 0)] (by decide +kernel) (fun w hw => ⟨(hw.2.2.1).cell (q := 2) rfl, hw.2.2.2.2.1⟩) ?_
        (first | refine wX ?_ | exact wZ)
        refine ReadC.load (.slice (at0 ob) l.length cap) rfl rfl (fun w hw => loadVar_cell rfl hw.1) ?_
        (first | refine wX ?_ | exact wZ)
        refine ReadC.agg (a := some ⟨dk, 0, none⟩) (q := 0) (dirC d) rfl rfl rfl (fun w hw => hw.2) rfl (fun j _ => by rw [Nat.zero_add]) ?_
        refine callG (textu_c d ub s a ob l.length cap hdok.2 ha hs) [0, 2] rfl ⟨rfl, rfl, trivial⟩ rfl fun _ _ => ?_
        (conv => whnf)
        refine Nd.mk (fun w hw => ⟨(hw.2.2.1).cell (q := 2) rfl, hw.2.2.2.2.1⟩) ?_
        (first | refine wX ?_ | exact wZ)
        refine Nd.mk (fun w hw => ⟨(hw.2.2.1).cell (q := 2) rfl, hw.2.2.2.2.1⟩) ?_
        (first | refine wX ?_ | exact wZ)
        refine Nd.mk (fun w hw => ⟨(hw.2.2.1).cell (q := 2) rfl, hw.2.2.2.2.1⟩) ?_
        (first | refine wX ?_ | exact wZ)
        refine Nd.mk ⟨Nat.le_refl 1, rfl, rfl⟩ ?_
        (conv => whnf)
        refine AppN.grow 3 (itemsC l) (itemC ⟨true, 0, (cutS d (s.drop a)).1⟩) rfl rfl ⟨Nat.le_refl 1, ⟨by show (l.length + 1) * 32 ≤ _; omega, by omega⟩, by show 3 ≠ 0; omega⟩ fun b' cap2 h11 h12 => ?_
        (first | refine wX ?_ | exact wZ)
        refine EffW.appTo (i := 2) (q := 2) (ys := [_]) (unC s (a + (cutS d (s.drop a)).2) (some b') (l.length + 1) cap2) 3 rfl rfl rfl rfl rfl rfl rfl (Nat.le_of_ble_eq_true rfl) rfl rfl ?_
        (first | refine wX ?_ | exact wZ)
        refine ⟨(i + 1, a + (cutS d (s.drop a)).2, l ++ [⟨true, 0, (cutS d (s.drop a)).1⟩], some b', cap2), ⟨by omega, hcl, by simp; omega, ⟨fun h => (by cases h), by rw [List.length_append]; exact h11⟩, hrun⟩, by show ds.length - (i + 1) < ds.length - i; omega, ?_, ?_⟩
        · (repeat' (first | exact trivial | refine And.intro (by with_reducible rfl) ?_ | (with_reducible exact wkC_refl _) | (with_reducible exact wkCs_refl _) | refine And.intro ?_ ?_))
          all_goals first | rfl | exact av_int (by rw [wrap_i64 (by omega)]; omega)
        · refine ⟨wkE_refl _, wkE_refl _, ?_, ?_, wkH_nil _⟩
          · show wkE (.app _ _ _ _ _ _) (unE ub s (a + (cutS d (s.drop a)).2) (some b') (l ++ [(⟨true, 0, (cutS d (s.drop a)).1⟩ : Pack.Item)]).length cap2)
            rw [List.length_append]
            exact wkE_refl _
          · exact .inl ⟨rfl, rfl, itemsC_snoc _ _, rfl, by rw [List.length_append]; rfl, rfl⟩
      | false =>
      (first | refine wX ?_ | exact wZ)
      refine Nd.mk ⟨rfl, by omega, by omega⟩ ?_
      (first | refine wX ?_ | exact wZ)
      refine LdN.agg (dirC d) rfl (fun w hw => hG w hw.2.1) rfl (fun j hj => by
        rw [Int.toNat_natCast]
        exact dirsC_get ds i j hj hd) ?_
      (first | refine wX ?_ | exact wZ)
      rw [h64]
      cases e64 : d.letter == 64 with
      | true =>
        rw [e64, if_pos rfl] at hrun
        (first | refine wX ?_ | exact wZ)
        rw [hzs]
        refine brd_dec (fun h2 => ?_) (fun h2 => ?_)
        · rw [if_pos h2] at hrun
          (first | refine wX ?_ | exact wZ)
          refine fin_v ?_
          show UnR (unS s ds s []) _ _
          rw [← hrun]
          rfl
        · rw [if_neg h2] at hrun
          obtain ⟨m, hm⟩ : ∃ m : Nat, (max 0 d.count).toNat = m := ⟨_, rfl⟩
          have hmx : maxI 0 d.count = (m : Int) := by unfold maxI; split <;> omega
          rw [hm] at hrun
          (first | refine wX ?_ | exact wZ)
          rw [hmx]
          (first | refine wX ?_ | exact wZ)
          refine EffW.appTo (i := 2) (q := 1) (ys := [_]) (unC s m ob l.length cap) 3 rfl rfl rfl rfl rfl rfl rfl (Nat.le_of_ble_eq_true rfl) rfl rfl ?_
          (first | refine wX ?_ | exact wZ)
          refine ⟨(i + 1, m, l, ob, cap), ⟨by omega, by omega, by omega, hob, hrun⟩, by show ds.length - (i + 1) < ds.length - i; omega, ?_, ?_⟩
          · (repeat' (first | exact trivial | refine And.intro (by with_reducible rfl) ?_ | (with_reducible exact wkC_refl _) | (with_reducible exact wkCs_refl _) | refine And.intro ?_ ?_))
            all_goals first | rfl | exact av_int (by rw [wrap_i64 (by omega)]; omega)
          · exact ⟨wkE_refl _, wkE_refl _, wkE_refl _, wkE_refl _, wkH_nil _⟩
      | false =>
        rw [e64, if_neg (by decide)] at hrun
        (first | refine wX ?_ | exact wZ)
        rw [h120]
        cases e120 : d.letter == 120 with
        | true =>
          rw [e120, if_pos rfl] at hrun
          obtain ⟨m, hm⟩ : ∃ m : Nat, (max 1 d.count).toNat = m := ⟨_, rfl⟩
          have hmx : maxI 1 d.count = (m : Int) := by unfold maxI; split <;> omega
          rw [hm, List.length_drop] at hrun
          (first | refine wX ?_ | exact wZ)
          rw [hmx]
          (first | refine wX ?_ | exact wZ)
          refine call1 (left_c ub s a ob l.length cap ha hs _ (fun w hw => hw.2.2.1)) ?_
          (first | refine wX ?_ | exact wZ)
          refine brd_dec (fun h2 => ?_) (fun h2 => ?_)
          · rw [if_pos (by omega)] at hrun
            (first | refine wX ?_ | exact wZ)
            refine fin_v ?_
            show UnR (unS s ds s []) _ _
            rw [← hrun]
            rfl
          · rw [if_neg (by omega), List.drop_drop] at hrun
            (first | refine wX ?_ | exact wZ)
            refine DrawN.plan [0, 4] [(1, 1), (2, 1), (3, 1), (5, 1), (6, 1), (7, 1), (8, 1), (9, 1)] [(10, 0)] (by decide +kernel) ?_
            (first | refine wX ?_ | exact wZ)
            refine LdN.one (a := some ⟨ub, 0, none⟩) (q := 1) (.int .i64 (a : Int)) rfl (fun w hw => hw.2.2.1) rfl ?_
            (first | refine wX ?_ | exact wZ)
            rw [hmx]
            (first | refine wX ?_ | exact wZ)
            refine EffW.appTo (i := 2) (q := 1) (ys := [_]) (unC s (a + m) ob l.length cap) 3 rfl rfl rfl rfl rfl rfl rfl (Nat.le_of_ble_eq_true rfl) (by
              show [_, Value.int .i64 _, _] = [_, Value.int .i64 _, _]
              first | rfl | (rw [wrap_i64 (by omega)]; rfl)) rfl ?_
            (first | refine wX ?_ | exact wZ)
            refine ⟨(i + 1, a + m, l, ob, cap), ⟨by omega, by omega, by omega, hob, hrun⟩, by show ds.length - (i + 1) < ds.length - i; omega, ?_, ?_⟩
            · (repeat' (first | exact trivial | refine And.intro (by with_reducible rfl) ?_ | (with_reducible exact wkC_refl _) | (with_reducible exact wkCs_refl _) | refine And.intro ?_ ?_))
              all_goals first | rfl | exact av_int (by rw [wrap_i64 (by omega)]; omega)
            · exact ⟨wkE_refl _, wkE_refl _, wkE_refl _, wkE_refl _, wkH_nil _⟩
        | false =>
          rw [e120, if_neg (by decide)] at hrun
          (first | refine wX ?_ | exact wZ)
          refine call1 (isString_c d _) ?_
          cases hstr : isStr d.letter with
          | true => rw [hstr] at hst; cases hst
          | false =>
            rw [hstr, if_neg (by decide)] at hrun
            have hpl : isPl d.letter = false := by unfold isPl; rw [e120, e64]; rfl
            (first | refine wX ?_ | exact wZ)
            refine callG (numbers_c d ub s a l ob cap hdok.1 hstr hpl hdok.2 hob (by omega) ha hs) [0, 2, 3] rfl ⟨rfl, rfl, rfl, trivial⟩ rfl ?_
            rintro ⟨l2, ob2, cap2, at2, e2⟩ ⟨n1, n2, n3, n4, n5⟩
            cases hns : numsS d (s.drop a) with
            | error e =>
              rw [hns] at n5 hrun
              obtain ⟨n6, n7⟩ := n5
              simp only at n6
              subst n6
              (first | refine wX ?_ | exact wZ)
              refine brd_ne (fun _ => ?_) (fun h6 => absurd h6 n7)
              (first | refine wX ?_ | exact wZ)
              refine fin_v ?_
              show UnR (unS s ds s []) _ _
              rw [← hrun]
              rfl
            | ok x =>
              obtain ⟨ns, r⟩ := x
              rw [hns] at n5 hrun
              obtain ⟨n6, n7, n8⟩ := n5
              simp only at n6 n7 n8 n4 hrun
              subst n6
              rw [← n8, ← n7] at hrun
              (first | refine wX ?_ | exact wZ)
              refine ⟨(i + 1, at2, l2, ob2, cap2), ⟨by omega, n1, by omega, ⟨n2, n3⟩, hrun⟩, by show ds.length - (i + 1) < ds.length - i; omega, ?_, ?_⟩
              · (repeat' (first | exact trivial | refine And.intro (by with_reducible rfl) ?_ | (with_reducible exact wkC_refl _) | (with_reducible exact wkCs_refl _) | refine And.intro ?_ ?_))
                all_goals first | rfl | exact av_int (by rw [wrap_i64 (by omega)]; omega)
              · exact ⟨wkE_refl _, wkE_refl _, wkE_refl _, wkE_refl _, wkH_nil _⟩
    · have hi : i = ds.length := by omega
      subst hi
      rw [List.drop_length] at hrun
      (first | refine wX ?_ | exact wZ)
      refine LdN.one (a := some ⟨ub, 0, none⟩) (q := 2) (.slice (at0 ob) l.length cap) rfl (fun w hw => hw.2.2.1) rfl ?_
      (first | refine wX ?_ | exact wZ)
      refine fin_p (fun w => SlAt (at0 ob) (l.length * 3) (itemsC l) w) ?_ (fun w hw => hw.2.2.2.1)
      show UnR (unS s ds s []) _ _
      rw [← hrun]
      exact ⟨ob, cap, rfl, fun h => (hob.1 h).1, fun w hw => hw⟩
end Go.Proofs.YtjkchonpnocffaaDoor

/-
  Contracts: Hex and Bytes (document).
-/
namespace Go.Proofs.YtjkchonpnocffaaDoor
open Go.AX Go.RowKit Go.Pack
set_option maxRecDepth 20000

end Go.Proofs.YtjkchonpnocffaaDoor

/-
  Contracts: the examples, PackHexes (law).
-/
namespace Go.Proofs.YtjkchonpnocffaaDoor
open Go.AX Go.RowKit Go.Pack
set_option maxRecDepth 20000

theorem hp1 : packV (packS [67, 110] [⟨false, 1, []⟩, ⟨false, 258, []⟩]) = .tuple #[.string (bs [1, 1, 2]), .int .i64 0] := by rfl
theorem hp2 : packV (packS [65, 51] [⟨true, 0, [120]⟩]) = .tuple #[.string (bs [120, 32, 32]), .int .i64 0] := by rfl
theorem hu1 : unpackS [119] [129, 0] = .ok [⟨false, 128, []⟩] := by rfl
theorem Pack1 (b : Nat) : ∀ H, (∀ w, Facts H w → ItemsF (some ⟨b, 0, none⟩) [⟨false, 1, []⟩, ⟨false, 258, []⟩] w) → SpecH Tryd.prog 17 (pvs [.string (bs [67, 110]), .slice (some ⟨b, 0, none⟩) 2 2]) H (Ret (.tuple #[.string (bs [1, 1, 2]), .int .i64 0]) H) := fun H hF => by
  have h := Pack_c [67, 110] (some ⟨b, 0, none⟩) [⟨false, 1, []⟩, ⟨false, 258, []⟩] 2 (by decide) (fun _ => rfl) (by decide) (by simp) H hF
  rw [hp1] at h
  exact h
theorem Pack2 (b : Nat) : ∀ H, (∀ w, Facts H w → ItemsF (some ⟨b, 0, none⟩) [⟨true, 0, [120]⟩] w) → SpecH Tryd.prog 17 (pvs [.string (bs [65, 51]), .slice (some ⟨b, 0, none⟩) 1 1]) H (Ret (.tuple #[.string (bs [120, 32, 32]), .int .i64 0]) H) := fun H hF => by
  have h := Pack_c [65, 51] (some ⟨b, 0, none⟩) [⟨true, 0, [120]⟩] 1 (by decide) (fun _ => rfl) (by decide) (by simp) H hF
  rw [hp2] at h
  exact h
theorem sane_c : ∀ H, (∀ w, Facts H w → UtfF w) → SpecH Tryd.prog 8 (pvs []) H (Ret (.bool true) H) := by
  refine factC hm Tryd.func8 (by kernel_rfl) rfl rfl ?_
  ((conv => whnf); (repeat ((first | refine BoxN.own ?_ | refine VrN.norm (wrap_i64 (by omega)) ?_ | refine VrN.keep ?_ | refine DrawN.calm (by decide +kernel) ?_ | refine Nd.mk (by decide +kernel) ?_ | refine Nd.mk (by omega) ?_ | (refine Nd.mk ?_ ?_; focus ((repeat' (first | exact trivial | exact wkE_refl _ | refine And.intro ?_ ?_)); done)) | refine RdN.intro _ rfl (by rfl) ?_); (conv => whnf))))
  refine RwN.known _ rfl fun b1 => ?_
  ((conv => whnf); (repeat ((first | refine BoxN.own ?_ | refine VrN.norm (wrap_i64 (by omega)) ?_ | refine VrN.keep ?_ | refine DrawN.calm (by decide +kernel) ?_ | refine Nd.mk (by decide +kernel) ?_ | refine Nd.mk (by omega) ?_ | (refine Nd.mk ?_ ?_; focus ((repeat' (first | exact trivial | exact wkE_refl _ | refine And.intro ?_ ?_)); done)) | refine RdN.intro _ rfl (by rfl) ?_); (conv => whnf))))
  refine call1 (Pack1 b1 _ (fun w hw => hw.2.1)) ?_
  (first | refine wX ?_ | exact wZ)
  refine SpecF.call (Unpack_c [119] [129, 0] (by decide) (by decide)) (fun w hw => hw.1) fun v G hR => ?_
  rw [hu1] at hR
  obtain ⟨ob, cap, rfl, hob, hG⟩ := hR
  obtain ⟨g, rfl⟩ : ∃ g, ob = some g := by
    cases ob with
    | none => cases hob rfl
    | some g => exact ⟨g, rfl⟩
  ((conv => whnf); (repeat ((first | refine BoxN.own ?_ | refine VrN.norm (wrap_i64 (by omega)) ?_ | refine VrN.keep ?_ | refine DrawN.calm (by decide +kernel) ?_ | refine Nd.mk (by decide +kernel) ?_ | refine Nd.mk (by omega) ?_ | (refine Nd.mk ?_ ?_; focus ((repeat' (first | exact trivial | exact wkE_refl _ | refine And.intro ?_ ?_)); done)) | refine RdN.intro _ rfl (by rfl) ?_); (conv => whnf))))
  refine RwN.known _ rfl fun b2 => ?_
  ((conv => whnf); (repeat ((first | refine BoxN.own ?_ | refine VrN.norm (wrap_i64 (by omega)) ?_ | refine VrN.keep ?_ | refine DrawN.calm (by decide +kernel) ?_ | refine Nd.mk (by decide +kernel) ?_ | refine Nd.mk (by omega) ?_ | (refine Nd.mk ?_ ?_; focus ((repeat' (first | exact trivial | exact wkE_refl _ | refine And.intro ?_ ?_)); done)) | refine RdN.intro _ rfl (by rfl) ?_); (conv => whnf))))
  refine call1 (Pack2 b2 _ (fun w hw => hw.2.2.2.1)) ?_
  (first | refine wX ?_ | exact wZ)
  refine Nd.mk ⟨rfl, by decide, by decide⟩ ?_
  (first | refine wX ?_ | exact wZ)
  refine LdN.fld (a := some ⟨g, 0, none⟩) (q := 0) (.int .i64 128) rfl (fun w hw => hG w hw.2.2.1) rfl ?_
  (first | refine wX ?_ | exact wZ)
  rfl
end Go.Proofs.YtjkchonpnocffaaDoor

/-
  Plain Lean: a character, byte by byte (as the document reads it).
-/
namespace Go.Pack
set_option maxRecDepth 20000
/-- The least code that so many bytes may have. -/
def least : Nat → Nat
  | 2 => 128
  | 3 => 2048
  | 4 => 65536
  | _ => 0
/-- Some character of so many bytes begins with n bytes that have these bits. -/
def bgP (bits n long : Nat) : Prop := max (bits * 64 ^ (long - n)) (least long) ≤ min (bits * 64 ^ (long - n) + 64 ^ (long - n) - 1) 1114111 ∧ ¬ (55296 ≤ max (bits * 64 ^ (long - n)) (least long) ∧ min (bits * 64 ^ (long - n) + 64 ^ (long - n) - 1) 1114111 ≤ 57343)
instance (bits n long : Nat) : Decidable (bgP bits n long) := inferInstanceAs (Decidable (_ ∧ _))
end Go.Pack

/-
  Contracts: a character is read (document).
-/
namespace Go.Proofs.YtjkchonpnocffaaDoor
open Go.AX Go.RowKit Go.Pack
set_option maxRecDepth 20000

end Go.Proofs.YtjkchonpnocffaaDoor

/-
  Contract: a character is read, byte by byte (document).
-/
namespace Go.Proofs.YtjkchonpnocffaaDoor
open Go.AX Go.RowKit Go.Pack
set_option maxRecDepth 20000

end Go.Proofs.YtjkchonpnocffaaDoor

/-
  Contract: a number of a fixed size is read (document).
-/
namespace Go.Proofs.YtjkchonpnocffaaDoor
open Go.AX Go.RowKit Go.Pack
set_option maxRecDepth 20000

end Go.Proofs.YtjkchonpnocffaaDoor

/-
  Contracts: a number, a text is read (document).
-/
namespace Go.Proofs.YtjkchonpnocffaaDoor
open Go.AX Go.RowKit Go.Pack
set_option maxRecDepth 20000

end Go.Proofs.YtjkchonpnocffaaDoor

/-
  Contract: a text is cut out (document).
-/
namespace Go.Proofs.YtjkchonpnocffaaDoor
open Go.AX Go.RowKit Go.Pack
set_option maxRecDepth 20000

end Go.Proofs.YtjkchonpnocffaaDoor

/-
  Contract: Unpack (document).
-/
namespace Go.Proofs.YtjkchonpnocffaaDoor
open Go.AX Go.RowKit Go.Pack
set_option maxRecDepth 20000

theorem numB_isStr {c : UInt8} (hl : letters.contains c = true) (h1 : (c == 120) = false) (h2 : (c == 64) = false) : numB c = !isStr c := by
  have hl2 : c ∈ letters := by simpa using hl
  simp only [letters, List.mem_cons, List.not_mem_nil, or_false] at hl2
  rcases hl2 with rfl | rfl | rfl | rfl | rfl | rfl | rfl | rfl | rfl | rfl | rfl | rfl | rfl | rfl | rfl | rfl | rfl | rfl <;> first | rfl | (exact absurd h1 (by decide)) | (exact absurd h2 (by decide))
end Go.Proofs.YtjkchonpnocffaaDoor

/-
  Contract: the same items (law).
-/
namespace Go.Proofs.YtjkchonpnocffaaDoor
open Go.AX Go.RowKit Go.Pack
set_option maxRecDepth 20000

end Go.Proofs.YtjkchonpnocffaaDoor

/-
  Contract: the bytes of a number that fits (document).
-/
namespace Go.Proofs.YtjkchonpnocffaaDoor
open Go.AX Go.RowKit Go.Pack
set_option maxRecDepth 20000

theorem byte_u (n : Int) (i : Nat) (hi : i ≤ 7) (U : Nat) (hU : (U : Int) = n % 18446744073709551616) : UInt8.ofNat (n / 256 ^ i % 256).toNat = UInt8.ofNat (U / 256 ^ i % 256) := by
  have h : i = 0 ∨ i = 1 ∨ i = 2 ∨ i = 3 ∨ i = 4 ∨ i = 5 ∨ i = 6 ∨ i = 7 := by omega
  congr 1
  rcases h with rfl | rfl | rfl | rfl | rfl | rfl | rfl | rfl <;> simp only [Int.reducePow, Nat.reducePow] <;> omega
theorem wrap_u64_mod (n : Int) : IntKind.u64.wrap n = n % 18446744073709551616 := by
  simp [IntKind.wrap, IntKind.bits, IntKind.signed]
theorem utf_len (n : Nat) : (utf n).length ≤ 4 := by
  unfold utf
  split
  · simp
  split
  · simp
  split <;> simp
def numL (d : Dir) (n : Int) : List UInt8 := if d.letter == 119 then sevens n.toNat else if d.letter == 85 then utf n.toNat else if hi d then (le (sz d.letter) n).reverse else le (sz d.letter) n
theorem bytes_r (d : Dir) (n : Int) (hz : d.letter = 119 ∨ d.letter = 85 ∨ sz d.letter ≠ 0) (hw : d.letter = 119 → 0 ≤ n) (hu : d.letter = 85 → rune n = true) (hb : -9223372036854775808 ≤ n ∧ n < 9223372036854775808) :
    SpecF Tryd.prog 96 [dirV d, .int .i64 n] (fun _ => True) (BytesR (numL d n)) := by
  refine specF hm Tryd.func96 (by kernel_rfl) rfl rfl ?_
  have h119 : ((d.letter.toNat : Int) == 119) = (d.letter == 119) := u8_eq (n := 119) (by decide)
  have h85 : ((d.letter.toNat : Int) == 85) = (d.letter == 85) := u8_eq (n := 85) (by decide)
  have h110 : ((d.letter.toNat : Int) == 110) = (d.letter == 110) := u8_eq (n := 110) (by decide)
  have h78 : ((d.letter.toNat : Int) == 78) = (d.letter == 78) := u8_eq (n := 78) (by decide)
  (first | refine wX ?_ | exact wZ)
  rw [h85]
  cases e85 : d.letter == 85 with
  | true =>
    have hl : d.letter = 85 := by simpa using e85
    have hr := hu hl
    obtain ⟨m, rfl⟩ : ∃ m : Nat, n = (m : Int) := ⟨n.toNat, by simp [rune] at hr; omega⟩
    have hL : numL d (m : Int) = utf m := by unfold numL; rw [hl, if_neg (by decide), if_pos (by decide), Int.toNat_natCast]
    rw [hL]
    (first | refine wX ?_ | exact wZ)
    refine call1 (Bytes_r (m : Int) m rfl hr _) ?_
    (first | refine wX ?_ | exact wZ)
    refine EffW.bytesOf (e := 5) (utf m) rfl Tryd.underlying9 (by kernel_rfl) (by kernel_rfl) rfl (Nat.le_trans (utf_len m) (by decide)) fun lb lc h5 h6 => ?_
    (first | refine wX ?_ | exact wZ)
    exact fin_p (SlAt (some ⟨lb, 0, none⟩) ((utf m).length * 1) (u8s (utf m))) (bytesR_own _ _ _) (fun w hw => hw.2.1)
  | false =>
    (first | refine wX ?_ | exact wZ)
    rw [h119]
    cases e119 : d.letter == 119 with
    | true =>
      have hl : d.letter = 119 := by simpa using e119
      obtain ⟨n, rfl⟩ : ∃ m : Nat, n = (m : Int) := ⟨n.toNat, by have := hw hl; omega⟩
      have hL : numL d (n : Int) = sevens n := by unfold numL; rw [hl, if_pos (by decide), Int.toNat_natCast]
      rw [hL]
      have e1 : (n : Int).tdiv 128 = ((n / 128 : Nat) : Int) := (Int.ofNat_tdiv n 128).symm
      have e2 : (n : Int).tmod 128 = ((n % 128 : Nat) : Int) := (Int.ofNat_tmod n 128).symm
      ((conv => whnf); (repeat ((first | refine BoxN.own ?_ | refine VrN.norm (wrap_i64 (by omega)) ?_ | refine VrN.keep ?_ | refine DrawN.calm (by decide +kernel) ?_ | refine Nd.mk (by decide +kernel) ?_ | refine Nd.mk (by omega) ?_ | (refine Nd.mk ?_ ?_; focus ((repeat' (first | exact trivial | exact wkE_refl _ | refine And.intro ?_ ?_)); done)) | refine RdN.intro _ rfl (by rfl) ?_); (conv => whnf))))
      refine RwN.known [_] rfl fun b0 => ?_
      (first | refine wX ?_ | exact wZ)
      refine LoopN.intro (UInt8 × List UInt8 × Nat × Nat × Nat × Nat) (fun ⟨c, r, m, f, _, _⟩ => (sevR f m).reverse ++ c :: r = sevens n ∧ m < 128 ^ f ∧ r.length + f ≤ 10 ∧ m < 9223372036854775808)
        (fun ⟨_, r, m, _, b, cap⟩ => mkS Tryd.f96.ntmps 0 [(1, .c (.v (.int .i64 (m : Int)))), (5, .c (.v (.slice (some ⟨b, 0, none⟩) (r.length + 1) cap)))])
        (fun ⟨c, r, _, _, b, cap⟩ => [.fact fun _ => True, .blk 65 [.v (.int .u8 (d.letter.toNat : Int)), .v (.bool d.big), .v (.int .i64 d.count)], own (c :: r) b cap]) (fun ⟨_, _, _, f, _, _⟩ => f) [] rfl
        (fun _ => rfl) (fun _ => rfl) (fun _ _ => okHB_eq rfl) ⟨(UInt8.ofNat (n % 128), [], n / 128, 10, b0, 1), ⟨?_, ?_, ?_, ?_⟩, ?_, ?_⟩ ?_
      · simp [sevens]
      · have : n / 128 < 128 ^ 9 := by omega
        omega
      · simp
      · omega
      · (repeat' (first | exact trivial | refine And.intro (by with_reducible rfl) ?_ | (with_reducible exact wkC_refl _) | (with_reducible exact wkCs_refl _) | refine And.intro ?_ ?_))
        all_goals first | rfl | exact av_int (by rw [e1, wrap_i64 (by omega)])
      · exact ⟨wkE_refl _, wkE_refl _, .inl ⟨rfl, rfl, by rw [e2, wrap_u8 (by omega)]; show [_] = [Value.int .u8 ((UInt8.ofNat (n % 128)).toNat : Int)]; rw [ofNat_int (by omega)], rfl, rfl, rfl⟩, wkH_nil _⟩
      rintro ⟨c, r, m, f, b, cap⟩ ⟨hcr, hm1, hlf, hm2⟩
      (first | refine wX ?_ | exact wZ)
      refine brd_dec (fun h => ?_) (fun h => ?_)
      · cases f with
        | zero => omega
        | succ f =>
          have e3 : (m : Int).tdiv 128 = ((m / 128 : Nat) : Int) := (Int.ofNat_tdiv m 128).symm
          have e4 : (m : Int).tmod 128 = ((m % 128 : Nat) : Int) := (Int.ofNat_tmod m 128).symm
          have hs : sevR (f + 1) m = UInt8.ofNat (m % 128 + 128) :: sevR f (m / 128) := by
            conv => lhs; unfold sevR
            rw [if_neg (by omega)]
          rw [hs] at hcr
          ((conv => whnf); (repeat ((first | refine BoxN.own ?_ | refine VrN.norm (wrap_i64 (by omega)) ?_ | refine VrN.keep ?_ | refine DrawN.calm (by decide +kernel) ?_ | refine Nd.mk (by decide +kernel) ?_ | refine Nd.mk (by omega) ?_ | (refine Nd.mk ?_ ?_; focus ((repeat' (first | exact trivial | exact wkE_refl _ | refine And.intro ?_ ?_)); done)) | refine RdN.intro _ rfl (by rfl) ?_); (conv => whnf))))
          refine RwN.known [_] rfl fun b1 => ?_
          (first | refine wX ?_ | exact wZ)
          refine Nd.mk rfl ?_
          (conv => whnf)
          refine ApN.intro (u8s (c :: r)) (by show _ = (r.length + 1) * 1; rw [u8s_len]; simp) (fun u hu => by obtain ⟨c, _, rfl⟩ := List.mem_map.1 hu; rfl) (fun w hw j v hv => hw.2.1.cell hv) ?_
          (conv => whnf)
          refine AppN.swap 2 3 rfl rfl rfl ?_
          (conv => whnf)
          refine AppM.grow 2 [_] (u8s (c :: r)) rfl (plains_vs _) ⟨by omega, ⟨by show (1 + (r.length + 1)) * 1 ≤ _; omega, by omega⟩, by show 1 ≠ 0; omega⟩ fun b' cap' h1 h2 => ?_
          (first | refine wX ?_ | exact wZ)
          refine ⟨(UInt8.ofNat (m % 128 + 128), c :: r, m / 128, f, b', cap'), ⟨by rw [← hcr]; simp, by rw [Nat.pow_succ, Nat.mul_comm] at hm1; exact Nat.div_lt_of_lt_mul hm1, by simp; omega, by omega⟩, by show f < f + 1; omega, ?_, ?_⟩
          · (repeat' (first | exact trivial | refine And.intro (by with_reducible rfl) ?_ | (with_reducible exact wkC_refl _) | (with_reducible exact wkCs_refl _) | refine And.intro ?_ ?_))
            all_goals first | (rw [Nat.add_comm 1 (r.length + 1)]; rfl) | exact av_int (by rw [e3, wrap_i64 (by omega)]) | exact av_int (by rw [e3])
          · exact ⟨wkE_refl _, wkE_refl _, .inl ⟨rfl, rfl, by rw [e4, wrap_i64 (by omega), wrap_u8 (by omega)]; simp [u8s]; omega, rfl, by simp; omega, rfl⟩, wkH_nil _⟩
      · have hm0 : m = 0 := by omega
        subst hm0
        rw [sevR_zero] at hcr
        have hr : sevens n = c :: r := hcr.symm
        (first | refine wX ?_ | exact wZ)
        rw [hr]
        exact fin_p (SlAt (some ⟨b, 0, none⟩) ((c :: r).length * 1) (u8s (c :: r))) (bytesR_own _ _ _) (fun w hw => hw.2.1)
    | false =>
      have hz0 : sz d.letter ≠ 0 := by
        rcases hz with h | h | h
        · rw [h] at e119; exact absurd e119 (by decide)
        · rw [h] at e85; exact absurd e85 (by decide)
        · exact h
      have h8 := sz_le8 d.letter
      have hL : numL d n = if hi d then (le (sz d.letter) n).reverse else le (sz d.letter) n := by unfold numL; rw [if_neg (by rw [e119]; decide), if_neg (by rw [e85]; decide)]
      have hll := le_len (sz d.letter) n
      rw [hL]
      obtain ⟨U, hU⟩ : ∃ U : Nat, (U : Int) = n % 18446744073709551616 := ⟨(n % 18446744073709551616).toNat, by omega⟩
      have hUl : U < 18446744073709551616 := by omega
      (first | refine wX ?_ | exact wZ)
      refine LoopN.intro (Nat × Nat × Option Nat × Nat) (fun ⟨i, u, ob, cap⟩ => i ≤ sz d.letter ∧ u = U / 256 ^ i ∧ ((ob = none → i = 0 ∧ cap = 0) ∧ i ≤ cap))
        (fun ⟨i, u, ob, cap⟩ => mkS Tryd.f96.ntmps 0 [(2, .c (.lp 1 0)), (6, .c (.v (.int .u64 (u : Int)))), (7, .c (.v (.slice (at0 ob) i cap))), (8, .c (.v (.int .i64 (i : Int))))])
        (fun ⟨i, _, ob, cap⟩ => [.fact fun _ => True, .blk 65 [.v (.int .u8 (d.letter.toNat : Int)), .v (.bool d.big), .v (.int .i64 d.count)], .app 5 1 (u8s ((le (sz d.letter) n).take i)) (at0 ob) i cap]) (fun ⟨i, _, _, _⟩ => sz d.letter - i) [.app 0 0 [] none 0 0] rfl
        (fun _ => rfl) (fun _ => rfl) (fun _ _ => okHB_eq rfl) ⟨(0, U, none, 0), ⟨Nat.zero_le _, by simp, ⟨fun _ => ⟨rfl, rfl⟩, Nat.le_refl _⟩⟩, ?_, ?_⟩ ?_
      · (repeat' (first | exact trivial | refine And.intro (by with_reducible rfl) ?_ | (with_reducible exact wkC_refl _) | (with_reducible exact wkCs_refl _) | refine And.intro ?_ ?_))
        all_goals first | rfl | exact av_int (by rw [wrap_u64_mod]; omega)
      · exact ⟨wkE_refl _, wkE_refl _, wkE_nil, wkH_nil _⟩
      rintro ⟨i, u, ob, cap⟩ ⟨hi9, huu, hob⟩
      (first | refine wX ?_ | exact wZ)
      refine call1 (size_r d.letter _) ?_
      (first | refine wX ?_ | exact wZ)
      refine brd_dec (fun h1 => ?_) (fun h1 => ?_)
      · have hlt : ((le (sz d.letter) n).take i).length = i := by rw [List.length_take, hll]; omega
        have hul : u ≤ U := by rw [huu]; exact Nat.div_le_self _ _
        have hg := le_get (sz d.letter) n i (by omega)
        rw [byte_u n i (by omega) U hU, ← huu] at hg
        have hsn : (le (sz d.letter) n).take (i + 1) = (le (sz d.letter) n).take i ++ [UInt8.ofNat (u % 256)] := Pack.take_snoc hg
        have hdq : (u : Int).tdiv 256 = ((u / 256 : Nat) : Int) := (Int.ofNat_tdiv u 256).symm
        have hnx : u / 256 = U / 256 ^ (i + 1) := by rw [huu, Nat.div_div_eq_div_mul, Nat.pow_succ]
        (first | refine wX ?_ | exact wZ)
        refine Nd.mk ⟨Nat.le_refl 1, rfl, rfl⟩ ?_
        (conv => whnf)
        refine AppN.grow 2 (u8s ((le (sz d.letter) n).take i)) [_] rfl rfl ⟨Nat.le_refl 1, ⟨by show (i + 1) * 1 ≤ _; omega, by omega⟩, by show 1 ≠ 0; omega⟩ fun b' cap2 h2 h3 => ?_
        (first | refine wX ?_ | exact wZ)
        refine ⟨(i + 1, u / 256, some b', cap2), ⟨by omega, hnx, ⟨fun h => (by cases h), h2⟩⟩, by show sz d.letter - (i + 1) < sz d.letter - i; omega, ?_, ?_⟩
        · (repeat' (first | exact trivial | refine And.intro (by with_reducible rfl) ?_ | (with_reducible exact wkC_refl _) | (with_reducible exact wkCs_refl _) | refine And.intro ?_ ?_))
          all_goals first | rfl | exact av_int (by rw [hdq, wrap_u64 (by omega)]) | exact av_int (by rw [hdq]) | exact av_int (by first | omega | (rw [wrap_i64 (by omega)]; omega))
        · refine ⟨wkE_refl _, wkE_refl _, .inl ⟨rfl, rfl, ?_, rfl, rfl, rfl⟩, wkH_nil _⟩
          have hwu : IntKind.u8.wrap (u : Int) = ((u % 256 : Nat) : Int) := by simp [IntKind.wrap, IntKind.bits, IntKind.signed]
          rw [hsn, hwu, byteV (n := u % 256) (by omega)]
          simp [u8s]
      · have hie : i = sz d.letter := by omega
        subst hie
        rw [List.take_of_length_le (by omega)]
        obtain ⟨g, rfl⟩ : ∃ g, ob = some g := by
          cases ob with
          | none => exact absurd (hob.1 rfl).1 hz0
          | some g => exact ⟨g, rfl⟩
        obtain ⟨L, hLe⟩ : ∃ L, le (sz d.letter) n = L := ⟨_, rfl⟩
        have hLs : L ≠ [] := fun h => by rw [← hLe, ← List.length_eq_zero_iff, le_len] at h; exact hz0 h
        have hcap : L.length ≤ cap := by rw [hll.symm.trans (congrArg List.length hLe)] at hob; exact hob.2
        rw [hLe]
        rw [hLe] at hll
        rw [← hll]
        (first | refine wX ?_ | exact wZ)
        cases hbg : d.big with
        | true =>
          have hh : hi d = true := by unfold hi; rw [hbg]; rfl
          rw [if_pos hh]
          (first | refine wX ?_ | exact wZ)
          refine callG (turned_r L (some g) cap (fun h => by cases h) (by omega)) [2] rfl ⟨rfl, trivial⟩ rfl ?_
          rintro ⟨ob2, cap2⟩ ⟨hob2, hcap2⟩
          (first | refine wX ?_ | exact wZ)
          exact fin_p (SlAt (at0 ob2) (L.reverse.length * 1) (u8s L.reverse)) ⟨ob2, cap2, rfl, fun h => (hob2 h).1, fun w hw => (by rw [Nat.mul_one] at hw; exact hw)⟩ (fun w hw => hw.2.2.1)
        | false =>
          (first | refine wX ?_ | exact wZ)
          rw [h110]
          cases e110 : d.letter == 110 with
          | true =>
            have hh : hi d = true := by unfold hi; rw [e110]; simp
            rw [if_pos hh]
            (first | refine wX ?_ | exact wZ)
            refine callG (turned_r L (some g) cap (fun h => by cases h) (by omega)) [2] rfl ⟨rfl, trivial⟩ rfl ?_
            rintro ⟨ob2, cap2⟩ ⟨hob2, hcap2⟩
            (first | refine wX ?_ | exact wZ)
            exact fin_p (SlAt (at0 ob2) (L.reverse.length * 1) (u8s L.reverse)) ⟨ob2, cap2, rfl, fun h => (hob2 h).1, fun w hw => (by rw [Nat.mul_one] at hw; exact hw)⟩ (fun w hw => hw.2.2.1)
          | false =>
            (first | refine wX ?_ | exact wZ)
            rw [h78]
            cases e78 : d.letter == 78 with
            | true =>
              have hh : hi d = true := by unfold hi; rw [e78]; simp
              rw [if_pos hh]
              (first | refine wX ?_ | exact wZ)
              refine callG (turned_r L (some g) cap (fun h => by cases h) (by omega)) [2] rfl ⟨rfl, trivial⟩ rfl ?_
              rintro ⟨ob2, cap2⟩ ⟨hob2, hcap2⟩
              (first | refine wX ?_ | exact wZ)
              exact fin_p (SlAt (at0 ob2) (L.reverse.length * 1) (u8s L.reverse)) ⟨ob2, cap2, rfl, fun h => (hob2 h).1, fun w hw => (by rw [Nat.mul_one] at hw; exact hw)⟩ (fun w hw => hw.2.2.1)
            | false =>
              have hh : hi d = false := by unfold hi; rw [hbg, e110, e78]; rfl
              rw [if_neg (by rw [hh]; decide)]
              (first | refine wX ?_ | exact wZ)
              exact fin_p (SlAt (some ⟨g, 0, none⟩) (L.length * 1) (u8s L)) (bytesR_own _ _ _) (fun w hw => hw.2.1)
end Go.Proofs.YtjkchonpnocffaaDoor

/-
  Contract: a text is written (document).
-/
namespace Go.Proofs.YtjkchonpnocffaaDoor
open Go.AX Go.RowKit Go.Pack
set_option maxRecDepth 20000

theorem SlAt.cut {a : Option Addr} {k : Nat} {xs : List Value} {w : World} (h : SlAt a k xs w) (m : Nat) (hm : m ≤ k) : SlAt a m (xs.take m) w := by
  obtain ⟨h1, h2, h3⟩ := h
  refine ⟨by rw [List.length_take]; omega, fun h => h2 (by omega), fun j hj => ?_⟩
  rw [h3 j (by omega), List.getElem?_take, if_pos hj]
theorem u8s_take (l : List UInt8) (m : Nat) : (u8s l).take m = u8s (l.take m) := by simp [u8s, List.map_take]
theorem text_r (d : Dir) (s : List UInt8) (hc : CntOk d.letter d.count) (h64 : d.letter ≠ 64) (hs : s.length ≤ 140737488351232) : SpecF Tryd.prog 97 [dirV d, .string (bs s)] (fun _ => True) (WrR (textS d s)) := by
  refine specF hm Tryd.func97 (by kernel_rfl) rfl rfl ?_
  have h72 : ((d.letter.toNat : Int) == 72) = (d.letter == 72) := u8_eq (n := 72) (by decide)
  have h90 : ((d.letter.toNat : Int) == 90) = (d.letter == 90) := u8_eq (n := 90) (by decide)
  have h65 : ((d.letter.toNat : Int) == 65) = (d.letter == 65) := u8_eq (n := 65) (by decide)
  have hzs := bs_size s
  (first | refine wX ?_ | exact wZ)
  refine brd_eq (fun hk => ?_) (fun hk => ?_)
  · have hc2 : ∀ n, cntS d n = 1 := fun n => by unfold cntS; rw [if_pos hk]
    have hk1 : d.count ≠ -1 := by omega
    (first | refine wX ?_ | exact wZ)
    rw [h72]
    cases e72 : d.letter == 72 with
    | true =>
      have hT : textS d s = hexS 1 s := by unfold textS; rw [if_pos e72, hc2]
      rw [hT]
      (first | refine wX ?_ | exact wZ)
      refine SpecF.call (hexed_r s 1 1 (.inr rfl) (by omega) (by omega)) (fun w _ => trivial) fun v G hR => ?_
      cases hx : hexS (1) s with
      | error e =>
        rw [hx] at hR
        obtain rfl := hR
        (first | refine wX ?_ | exact wZ)
        exact fin_v rfl
      | ok l =>
        rw [hx] at hR
        obtain ⟨x, rfl, ob, cap, rfl, hob, hG⟩ := hR
        (first | refine wX ?_ | exact wZ)
        exact fin_p G ⟨_, rfl, ob, cap, rfl, hob, hG⟩ (fun w hw => hw.2.1)
    | false =>
      -- the count 1; it as it is spelled: 1
      (first | refine wX ?_ | exact wZ)
      refine EffW.bytesOf (e := 5) s rfl Tryd.underlying9 (by kernel_rfl) (by kernel_rfl) rfl (by omega) fun lb lc h5 h6 => ?_
      (first | refine wX ?_ | exact wZ)
      try refine brd_eq (fun h => absurd h (by decide)) (fun _ => ?_); (first | refine wX ?_ | exact wZ)
      refine brd_dec (fun h1 => ?_) (fun h1 => ?_)
      · skip
        -- the count 1; it as it is spelled: 1; the text is longer
        have hn1 : 1 ≤ 1 := by omega
        (first | refine wX ?_ | exact wZ)
        refine ReadW.slc_h (ob := some lb) (j := 1) rfl (by kernel_rfl) rfl rfl ⟨by omega, by omega⟩ ?_
        have hjn : Int.toNat (1) = 1 := by omega
        rw [hjn]
        (first | refine wX ?_ | exact wZ)
        rw [h90]
        cases e90 : d.letter == 90 with
        | true =>
          have hT : textS d s = .ok ((s.take (1)).set (1 - 1) 0) := by
            unfold textS
            rw [if_neg (by rw [e72]; decide), if_neg hk1, hc2]
            simp only
            rw [if_pos (by rw [Bool.and_eq_true, decide_eq_true_eq]; exact ⟨e90, by omega⟩), show 1 - s.length = 0 by omega]
            simp
          rw [hT]
          have hw9 : IntKind.i64.wrap (1 - 1) = ((1 - 1 : Nat) : Int) := by rw [wrap_i64 (by omega)]; omega
          (first | refine wX ?_ | exact wZ)
          try rw [hw9]
          refine Nd.mk ⟨rfl, by omega, by omega⟩ ?_
          (first | refine wX ?_ | exact wZ)
          refine EffW.appTo (i := 2) (q := 1 - 1) (ys := [_]) (u8s (s.set (1 - 1) 0)) 1 rfl (ptr_lit rfl (by show Int.toNat _ * 1 = _; omega)) rfl rfl rfl rfl rfl (by show 1 - 1 + 1 ≤ s.length * 1; omega) (u8s_put (k := 1 - 1) 0 (by omega)) rfl ?_
          (first | refine wX ?_ | exact wZ)
          refine LoopN.unroll 1 ?_
          (first | refine wX ?_ | exact wZ)
          first | (refine brd_dec (fun h => absurd h (by omega)) (fun _ => ?_); (first | refine wX ?_ | exact wZ)) | skip
          refine fin_p (SlAt (some ⟨lb, 0, none⟩) 1 (u8s ((s.take (1)).set (1 - 1) 0))) ⟨_, rfl, some lb, lc, by rw [List.length_set, List.length_take, Nat.min_eq_left (by omega)], fun h => (by cases h), fun w hw => (by rw [List.length_set, List.length_take, Nat.min_eq_left (by omega)]; exact hw)⟩ (fun w hw => ?_)
          have h7 := SlAt.cut hw.2.1 (1) (by omega)
          rw [u8s_take, List.take_set] at h7
          exact h7
        | false =>
          have hT : textS d s = .ok (s.take (1)) := by
            unfold textS
            rw [if_neg (by rw [e72]; decide), if_neg hk1, hc2]
            simp only
            rw [if_neg (by rw [Bool.and_eq_true]; intro h; rw [e90] at h; exact absurd h.1 (by decide)), show 1 - s.length = 0 by omega]
            simp
          rw [hT]
          (first | refine wX ?_ | exact wZ)
          refine LoopN.unroll 1 ?_
          (first | refine wX ?_ | exact wZ)
          first | (refine brd_dec (fun h => absurd h (by omega)) (fun _ => ?_); (first | refine wX ?_ | exact wZ)) | skip
          refine fin_p (SlAt (some ⟨lb, 0, none⟩) 1 (u8s (s.take (1)))) ⟨_, rfl, some lb, lc, by rw [List.length_take, Nat.min_eq_left (by omega)], fun h => (by cases h), fun w hw => (by rw [List.length_take, Nat.min_eq_left (by omega)]; exact hw)⟩ (fun w hw => ?_)
          have h7 := SlAt.cut hw.2.1 (1) (by omega)
          rw [u8s_take] at h7
          exact h7
      · skip
        -- the count 1; it as it is spelled: 1; the text is not longer
        have hT : textS d s = .ok (s ++ List.replicate (1 - s.length) (if d.letter == 65 then 32 else 0)) := by
          unfold textS
          rw [if_neg (by rw [e72]; decide), if_neg hk1, hc2]
          simp only
          rw [if_neg (by rw [Bool.and_eq_true, decide_eq_true_eq]; omega), List.take_of_length_le (by omega)]
        rw [hT]
        obtain ⟨c0, hc0⟩ : ∃ c0 : UInt8, (if d.letter == 65 then 32 else 0) = c0 := ⟨_, rfl⟩
        rw [hc0]
        (first | refine wX ?_ | exact wZ)
        refine LoopN.intro (Nat × Nat × Nat) (fun ⟨j, _, cap⟩ => s.length + j ≤ 1 ∧ s.length + j ≤ cap)
          (fun ⟨j, b, cap⟩ => mkS Tryd.f97.ntmps 0 [(2, .c (.lp 1 0)), (6, .c (.v (.int .i64 (1)))), (7, .c (.v (.slice (some ⟨b, 0, none⟩) (s.length + j) cap)))])
          (fun ⟨j, b, cap⟩ => [.fact fun _ => True, .blk 65 [.v (.int .u8 (d.letter.toNat : Int)), .v (.bool d.big), .v (.int .i64 d.count)], .app 5 1 (u8s (s ++ List.replicate j c0)) (some ⟨b, 0, none⟩) (s.length + j) cap]) (fun ⟨j, _, _⟩ => 1 - (s.length + j)) [] rfl
          (fun _ => rfl) (fun _ => rfl) (fun _ _ => okHB_eq rfl) ⟨(0, lb, lc), ⟨by omega, h5⟩, ?_, ?_⟩ ?_
        · (repeat' (first | exact trivial | refine And.intro (by with_reducible rfl) ?_ | (with_reducible exact wkC_refl _) | (with_reducible exact wkCs_refl _) | refine And.intro ?_ ?_))
          all_goals first | rfl | exact av_int (by omega)
        · refine ⟨wkE_refl _, wkE_refl _, .inl ⟨rfl, rfl, by simp [u8s], rfl, rfl, rfl⟩, wkH_nil _⟩
        rintro ⟨j, b, cap⟩ ⟨hj, hjc⟩
        (first | refine wX ?_ | exact wZ)
        refine brd_dec (fun h1 => ?_) (fun h1 => ?_)
        · have hg : ∀ (b' cap' : Nat) (v : Int) (hv : v = (c0.toNat : Int)), wkE (.app 5 1 (u8s (s ++ List.replicate j c0) ++ [.int .u8 v]) (some ⟨b', 0, none⟩) (s.length + j + 1) cap') (.app 5 1 (u8s (s ++ List.replicate (j + 1) c0)) (some ⟨b', 0, none⟩) (s.length + (j + 1)) cap') := fun b' cap' v hv => .inl ⟨rfl, rfl, by rw [hv, List.replicate_succ', ← List.append_assoc]; simp [u8s], rfl, rfl, rfl⟩
          (first | refine wX ?_ | exact wZ)
          rw [h65]
          cases e65 : d.letter == 65 with
          | true =>
            rw [e65] at hc0
            (first | refine wX ?_ | exact wZ)
            try refine Nd.mk ⟨Nat.le_refl 1, rfl, rfl⟩ ?_
            (conv => whnf)
            refine AppN.grow 2 (u8s (s ++ List.replicate j c0)) [_] rfl rfl ⟨Nat.le_refl 1, ⟨by show (s.length + j + 1) * 1 ≤ _; omega, by omega⟩, by show 1 ≠ 0; omega⟩ fun b' cap2 h2 h3 => ?_
            (first | refine wX ?_ | exact wZ)
            refine ⟨(j + 1, b', cap2), ⟨by omega, h2⟩, by show 1 - (s.length + (j + 1)) < 1 - (s.length + j); omega, ?_, ?_⟩
            · (repeat' (first | exact trivial | refine And.intro (by with_reducible rfl) ?_ | (with_reducible exact wkC_refl _) | (with_reducible exact wkCs_refl _) | refine And.intro ?_ ?_))
              all_goals first | rfl | exact av_int (by omega)
            · exact ⟨wkE_refl _, wkE_refl _, hg _ _ _ (by rw [← hc0]; rfl), wkH_nil _⟩
          | false =>
            rw [e65] at hc0
            (first | refine wX ?_ | exact wZ)
            try refine Nd.mk ⟨Nat.le_refl 1, rfl, rfl⟩ ?_
            (conv => whnf)
            refine AppN.grow 2 (u8s (s ++ List.replicate j c0)) [_] rfl rfl ⟨Nat.le_refl 1, ⟨by show (s.length + j + 1) * 1 ≤ _; omega, by omega⟩, by show 1 ≠ 0; omega⟩ fun b' cap2 h2 h3 => ?_
            (first | refine wX ?_ | exact wZ)
            refine ⟨(j + 1, b', cap2), ⟨by omega, h2⟩, by show 1 - (s.length + (j + 1)) < 1 - (s.length + j); omega, ?_, ?_⟩
            · (repeat' (first | exact trivial | refine And.intro (by with_reducible rfl) ?_ | (with_reducible exact wkC_refl _) | (with_reducible exact wkCs_refl _) | refine And.intro ?_ ?_))
              all_goals first | rfl | exact av_int (by omega)
            · exact ⟨wkE_refl _, wkE_refl _, hg _ _ _ (by rw [← hc0]; rfl), wkH_nil _⟩
        · have hj2 : j = 1 - s.length := by omega
          subst hj2
          (first | refine wX ?_ | exact wZ)
          exact fin_p (SlAt (some ⟨b, 0, none⟩) ((s.length + (1 - s.length)) * 1) (u8s (s ++ List.replicate (1 - s.length) c0))) ⟨_, rfl, bytesR_cells (by simp) rfl⟩ (fun w hw => hw.2.1)
  · by_cases hk1 : d.count = -1
    · have hc2 : ∀ n, cntS d n = n := fun n => by unfold cntS; rw [if_neg hk, if_pos hk1]
      (first | refine wX ?_ | exact wZ)
      rw [h72]
      cases e72 : d.letter == 72 with
      | true =>
        have hT : textS d s = hexS s.length s := by unfold textS; rw [if_pos e72, hc2]
        rw [hT]
        (first | refine wX ?_ | exact wZ)
        refine SpecF.call (hexed_r s d.count s.length (.inl ⟨hk1, rfl⟩) (by omega) (by omega)) (fun w _ => trivial) fun v G hR => ?_
        cases hx : hexS (s.length) s with
        | error e =>
          rw [hx] at hR
          obtain rfl := hR
          (first | refine wX ?_ | exact wZ)
          exact fin_v rfl
        | ok l =>
          rw [hx] at hR
          obtain ⟨x, rfl, ob, cap, rfl, hob, hG⟩ := hR
          (first | refine wX ?_ | exact wZ)
          exact fin_p G ⟨_, rfl, ob, cap, rfl, hob, hG⟩ (fun w hw => hw.2.1)
      | false =>
        (first | refine wX ?_ | exact wZ)
        refine EffW.bytesOf (e := 5) s rfl Tryd.underlying9 (by kernel_rfl) (by kernel_rfl) rfl (by omega) fun lb lc h5 h6 => ?_
        (first | refine wX ?_ | exact wZ)
        refine brd_eq (fun _ => ?_) (fun h => absurd hk1 h)
        (first | refine wX ?_ | exact wZ)
        rw [h90]
        cases e90 : d.letter == 90 with
        | true =>
          have hT : textS d s = .ok (s ++ [0]) := by unfold textS; rw [if_neg (by rw [e72]; decide), if_pos hk1, if_pos e90]
          rw [hT]
          (first | refine wX ?_ | exact wZ)
          try refine Nd.mk ⟨Nat.le_refl 1, rfl, rfl⟩ ?_
          (conv => whnf)
          refine AppN.grow 2 (u8s s) [_] rfl rfl ⟨Nat.le_refl 1, ⟨by show (s.length + 1) * 1 ≤ _; omega, by omega⟩, by show 1 ≠ 0; omega⟩ fun b' cap2 h2 h3 => ?_
          (first | refine wX ?_ | exact wZ)
          exact fin_p (SlAt (some ⟨b', 0, none⟩) ((s.length + 1) * 1) (u8s s ++ [Value.int .u8 0])) ⟨_, rfl, bytesR_cells (by simp) (by simp [u8s])⟩ (fun w hw => hw.2.1)
        | false =>
          have hT : textS d s = .ok s := by unfold textS; rw [if_neg (by rw [e72]; decide), if_pos hk1, if_neg (by rw [e90]; decide)]
          rw [hT]
          (first | refine wX ?_ | exact wZ)
          exact fin_p (SlAt (some ⟨lb, 0, none⟩) (s.length * 1) (u8s s)) ⟨_, rfl, bytesR_cells rfl rfl⟩ (fun w hw => hw.2.1)
    · obtain ⟨T, hT0⟩ : ∃ T : Nat, d.count.toNat = T := ⟨_, rfl⟩
      have hT2 : d.count = (T : Int) ∧ 1 ≤ T ∧ T ≤ 1000 := by
        rcases hc with h | h | ⟨h1, h2, h3⟩
        · exact absurd h.1 hk1
        · exact absurd h hk
        · have := h3 h64
          omega
      have hc2 : ∀ n, cntS d n = T := fun n => by unfold cntS; rw [if_neg hk, if_neg hk1]; exact hT0
      (first | refine wX ?_ | exact wZ)
      rw [h72]
      cases e72 : d.letter == 72 with
      | true =>
        have hT : textS d s = hexS T s := by unfold textS; rw [if_pos e72, hc2]
        rw [hT]
        (first | refine wX ?_ | exact wZ)
        refine SpecF.call (hexed_r s d.count T (.inr hT2.1) (by omega) (by omega)) (fun w _ => trivial) fun v G hR => ?_
        cases hx : hexS (T) s with
        | error e =>
          rw [hx] at hR
          obtain rfl := hR
          (first | refine wX ?_ | exact wZ)
          exact fin_v rfl
        | ok l =>
          rw [hx] at hR
          obtain ⟨x, rfl, ob, cap, rfl, hob, hG⟩ := hR
          (first | refine wX ?_ | exact wZ)
          exact fin_p G ⟨_, rfl, ob, cap, rfl, hob, hG⟩ (fun w hw => hw.2.1)
      | false =>
        -- the count T; it as it is spelled: d.count
        (first | refine wX ?_ | exact wZ)
        refine EffW.bytesOf (e := 5) s rfl Tryd.underlying9 (by kernel_rfl) (by kernel_rfl) rfl (by omega) fun lb lc h5 h6 => ?_
        (first | refine wX ?_ | exact wZ)
        refine brd_eq (fun h => absurd h hk1) (fun _ => ?_); (first | refine wX ?_ | exact wZ)
        refine brd_dec (fun h1 => ?_) (fun h1 => ?_)
        · skip
          -- the count T; it as it is spelled: d.count; the text is longer
          have hn1 : 1 ≤ T := by omega
          (first | refine wX ?_ | exact wZ)
          refine ReadW.slc_h (ob := some lb) (j := d.count) rfl (by kernel_rfl) rfl rfl ⟨by omega, by omega⟩ ?_
          have hjn : Int.toNat (d.count) = T := by omega
          rw [hjn]
          (first | refine wX ?_ | exact wZ)
          rw [h90]
          cases e90 : d.letter == 90 with
          | true =>
            have hT : textS d s = .ok ((s.take (T)).set (T - 1) 0) := by
              unfold textS
              rw [if_neg (by rw [e72]; decide), if_neg hk1, hc2]
              simp only
              rw [if_pos (by rw [Bool.and_eq_true, decide_eq_true_eq]; exact ⟨e90, by omega⟩), show T - s.length = 0 by omega]
              simp
            rw [hT]
            have hw9 : IntKind.i64.wrap (d.count - 1) = ((T - 1 : Nat) : Int) := by rw [wrap_i64 (by omega)]; omega
            (first | refine wX ?_ | exact wZ)
            try rw [hw9]
            refine Nd.mk ⟨rfl, by omega, by omega⟩ ?_
            (first | refine wX ?_ | exact wZ)
            refine EffW.appTo (i := 2) (q := T - 1) (ys := [_]) (u8s (s.set (T - 1) 0)) 1 rfl (ptr_lit rfl (by show Int.toNat _ * 1 = _; omega)) rfl rfl rfl rfl rfl (by show T - 1 + 1 ≤ s.length * 1; omega) (u8s_put (k := T - 1) 0 (by omega)) rfl ?_
            (first | refine wX ?_ | exact wZ)
            refine LoopN.unroll 1 ?_
            (first | refine wX ?_ | exact wZ)
            first | (refine brd_dec (fun h => absurd h (by omega)) (fun _ => ?_); (first | refine wX ?_ | exact wZ)) | skip
            refine fin_p (SlAt (some ⟨lb, 0, none⟩) T (u8s ((s.take (T)).set (T - 1) 0))) ⟨_, rfl, some lb, lc, by rw [List.length_set, List.length_take, Nat.min_eq_left (by omega)], fun h => (by cases h), fun w hw => (by rw [List.length_set, List.length_take, Nat.min_eq_left (by omega)]; exact hw)⟩ (fun w hw => ?_)
            have h7 := SlAt.cut hw.2.1 (T) (by omega)
            rw [u8s_take, List.take_set] at h7
            exact h7
          | false =>
            have hT : textS d s = .ok (s.take (T)) := by
              unfold textS
              rw [if_neg (by rw [e72]; decide), if_neg hk1, hc2]
              simp only
              rw [if_neg (by rw [Bool.and_eq_true]; intro h; rw [e90] at h; exact absurd h.1 (by decide)), show T - s.length = 0 by omega]
              simp
            rw [hT]
            (first | refine wX ?_ | exact wZ)
            refine LoopN.unroll 1 ?_
            (first | refine wX ?_ | exact wZ)
            first | (refine brd_dec (fun h => absurd h (by omega)) (fun _ => ?_); (first | refine wX ?_ | exact wZ)) | skip
            refine fin_p (SlAt (some ⟨lb, 0, none⟩) T (u8s (s.take (T)))) ⟨_, rfl, some lb, lc, by rw [List.length_take, Nat.min_eq_left (by omega)], fun h => (by cases h), fun w hw => (by rw [List.length_take, Nat.min_eq_left (by omega)]; exact hw)⟩ (fun w hw => ?_)
            have h7 := SlAt.cut hw.2.1 (T) (by omega)
            rw [u8s_take] at h7
            exact h7
        · skip
          -- the count T; it as it is spelled: d.count; the text is not longer
          have hT : textS d s = .ok (s ++ List.replicate (T - s.length) (if d.letter == 65 then 32 else 0)) := by
            unfold textS
            rw [if_neg (by rw [e72]; decide), if_neg hk1, hc2]
            simp only
            rw [if_neg (by rw [Bool.and_eq_true, decide_eq_true_eq]; omega), List.take_of_length_le (by omega)]
          rw [hT]
          obtain ⟨c0, hc0⟩ : ∃ c0 : UInt8, (if d.letter == 65 then 32 else 0) = c0 := ⟨_, rfl⟩
          rw [hc0]
          (first | refine wX ?_ | exact wZ)
          refine LoopN.intro (Nat × Nat × Nat) (fun ⟨j, _, cap⟩ => s.length + j ≤ T ∧ s.length + j ≤ cap)
            (fun ⟨j, b, cap⟩ => mkS Tryd.f97.ntmps 0 [(2, .c (.lp 1 0)), (6, .c (.v (.int .i64 (d.count)))), (7, .c (.v (.slice (some ⟨b, 0, none⟩) (s.length + j) cap)))])
            (fun ⟨j, b, cap⟩ => [.fact fun _ => True, .blk 65 [.v (.int .u8 (d.letter.toNat : Int)), .v (.bool d.big), .v (.int .i64 d.count)], .app 5 1 (u8s (s ++ List.replicate j c0)) (some ⟨b, 0, none⟩) (s.length + j) cap]) (fun ⟨j, _, _⟩ => T - (s.length + j)) [] rfl
            (fun _ => rfl) (fun _ => rfl) (fun _ _ => okHB_eq rfl) ⟨(0, lb, lc), ⟨by omega, h5⟩, ?_, ?_⟩ ?_
          · (repeat' (first | exact trivial | refine And.intro (by with_reducible rfl) ?_ | (with_reducible exact wkC_refl _) | (with_reducible exact wkCs_refl _) | refine And.intro ?_ ?_))
            all_goals first | rfl | exact av_int (by omega)
          · refine ⟨wkE_refl _, wkE_refl _, .inl ⟨rfl, rfl, by simp [u8s], rfl, rfl, rfl⟩, wkH_nil _⟩
          rintro ⟨j, b, cap⟩ ⟨hj, hjc⟩
          (first | refine wX ?_ | exact wZ)
          refine brd_dec (fun h1 => ?_) (fun h1 => ?_)
          · have hg : ∀ (b' cap' : Nat) (v : Int) (hv : v = (c0.toNat : Int)), wkE (.app 5 1 (u8s (s ++ List.replicate j c0) ++ [.int .u8 v]) (some ⟨b', 0, none⟩) (s.length + j + 1) cap') (.app 5 1 (u8s (s ++ List.replicate (j + 1) c0)) (some ⟨b', 0, none⟩) (s.length + (j + 1)) cap') := fun b' cap' v hv => .inl ⟨rfl, rfl, by rw [hv, List.replicate_succ', ← List.append_assoc]; simp [u8s], rfl, rfl, rfl⟩
            (first | refine wX ?_ | exact wZ)
            rw [h65]
            cases e65 : d.letter == 65 with
            | true =>
              rw [e65] at hc0
              (first | refine wX ?_ | exact wZ)
              try refine Nd.mk ⟨Nat.le_refl 1, rfl, rfl⟩ ?_
              (conv => whnf)
              refine AppN.grow 2 (u8s (s ++ List.replicate j c0)) [_] rfl rfl ⟨Nat.le_refl 1, ⟨by show (s.length + j + 1) * 1 ≤ _; omega, by omega⟩, by show 1 ≠ 0; omega⟩ fun b' cap2 h2 h3 => ?_
              (first | refine wX ?_ | exact wZ)
              refine ⟨(j + 1, b', cap2), ⟨by omega, h2⟩, by show T - (s.length + (j + 1)) < T - (s.length + j); omega, ?_, ?_⟩
              · (repeat' (first | exact trivial | refine And.intro (by with_reducible rfl) ?_ | (with_reducible exact wkC_refl _) | (with_reducible exact wkCs_refl _) | refine And.intro ?_ ?_))
                all_goals first | rfl | exact av_int (by omega)
              · exact ⟨wkE_refl _, wkE_refl _, hg _ _ _ (by rw [← hc0]; rfl), wkH_nil _⟩
            | false =>
              rw [e65] at hc0
              (first | refine wX ?_ | exact wZ)
              try refine Nd.mk ⟨Nat.le_refl 1, rfl, rfl⟩ ?_
              (conv => whnf)
              refine AppN.grow 2 (u8s (s ++ List.replicate j c0)) [_] rfl rfl ⟨Nat.le_refl 1, ⟨by show (s.length + j + 1) * 1 ≤ _; omega, by omega⟩, by show 1 ≠ 0; omega⟩ fun b' cap2 h2 h3 => ?_
              (first | refine wX ?_ | exact wZ)
              refine ⟨(j + 1, b', cap2), ⟨by omega, h2⟩, by show T - (s.length + (j + 1)) < T - (s.length + j); omega, ?_, ?_⟩
              · (repeat' (first | exact trivial | refine And.intro (by with_reducible rfl) ?_ | (with_reducible exact wkC_refl _) | (with_reducible exact wkCs_refl _) | refine And.intro ?_ ?_))
                all_goals first | rfl | exact av_int (by omega)
              · exact ⟨wkE_refl _, wkE_refl _, hg _ _ _ (by rw [← hc0]; rfl), wkH_nil _⟩
          · have hj2 : j = T - s.length := by omega
            subst hj2
            (first | refine wX ?_ | exact wZ)
            exact fin_p (SlAt (some ⟨b, 0, none⟩) ((s.length + (T - s.length)) * 1) (u8s (s ++ List.replicate (T - s.length) c0))) ⟨_, rfl, bytesR_cells (by simp) rfl⟩ (fun w hw => hw.2.1)
end Go.Proofs.YtjkchonpnocffaaDoor

/-
  Contract: items are packed (document).
-/
namespace Go.Proofs.YtjkchonpnocffaaDoor
open Go.AX Go.RowKit Go.Pack
set_option maxRecDepth 20000

theorem numS_fit (d : Dir) (n : Int) : numS d n = if fitR d.letter n then .ok (numL d n) else .error 5 := by
  unfold numS fitR numL
  by_cases h1 : (d.letter == 119) = true
  · have hl : d.letter = 119 := by simpa using h1
    rw [if_pos h1, hl, if_neg (show ¬ ((119 : UInt8) == 85) = true by decide), if_pos (show ((119 : UInt8) == 119) = true by decide)]
    by_cases h : n < 0
    · rw [if_pos h, if_neg (by simp; omega)]
    · rw [if_neg h, if_pos (by simp; omega), if_pos (show ((119 : UInt8) == 119) = true by decide)]
  · rw [if_neg h1]
    by_cases h2 : (d.letter == 85) = true
    · rw [if_pos h2, if_pos h2, if_neg h1, if_pos h2]
    · rw [if_neg h2, if_neg h2, if_neg h1, if_neg h1, if_neg h2]
/-- What packed gives: an error, or bytes in memory, how many items. -/
def PackedR (r : Except Int (List UInt8 × Nat)) (v : Value) (G : World → Prop) : Prop := match r with
  | .error e => v = .tuple #[.slice none 0 0, .int .i64 0, .int .i64 e]
  | .ok (l, u) => ∃ ob cap, v = .tuple #[.slice (at0 ob) l.length cap, .int .i64 (u : Int), .int .i64 0] ∧ (ob = none → l = []) ∧ ∀ w, G w → SlAt (at0 ob) l.length (u8s l) w
theorem runS_one {items : List Pack.Item} {d : Dir} {ds : List Dir} {l : List UInt8} {used : Nat} (h : times d (items.length - used) = 1) : runS items (d :: ds) l used = match oneS d items l used with | .error e => .error e | .ok (o, u) => runS items ds o u := by
  rw [runS, h, timesS]
  cases oneS d items l used <;> rfl
theorem fit_w {c : UInt8} {n : Int} (h : fitR c n = true) : c = 119 → 0 ≤ n := fun e => by
  subst e
  have h2 : decide (0 ≤ n) = true := h
  simpa using h2
theorem fit_u {c : UInt8} {n : Int} (h : fitR c n = true) : c = 85 → rune n = true := fun e => by
  subst e
  exact h
set_option maxHeartbeats 4000000 in
theorem packed_r (form : List UInt8) (ia : Option Addr) (items : List Pack.Item) (icap : Nat) (hs : form.length ≤ 100000)
    (hia : items ≠ [] → ia.isSome = true) (hl : items.length ≤ 100000) (hi : ∀ x ∈ items, x.text.length ≤ 140737488351232 ∧ -9223372036854775808 ≤ x.int ∧ x.int < 9223372036854775808) :
    SpecF Tryd.prog 72 [.string (bs form), .slice ia items.length icap] (ItemsF ia items) (PackedR (packS form items)) := by
  refine specF hm Tryd.func72 (by kernel_rfl) rfl rfl ?_
  (first | refine wX ?_ | exact wZ)
  refine SpecF.call (rread_c form hs) (fun w _ => trivial) fun v G hR => ?_
  unfold packS
  cases hf : forms form with
  | none =>
    rw [hf] at hR
    obtain ⟨y, n, cap, rfl⟩ := hR
    (first | refine wX ?_ | exact wZ)
    exact fin_v rfl
  | some ds =>
    rw [hf] at hR
    obtain ⟨db, dcap, rfl, hdb, hG⟩ := hR
    obtain ⟨h50, hok⟩ := forms_ok hf
    (first | refine wX ?_ | exact wZ)
    refine LoopN.intro (Nat × List UInt8 × Option Nat × Nat × Nat) (fun ⟨i, l, ob, cap, used⟩ => i ≤ ds.length ∧ runS items (ds.drop i) l used = runS items ds [] 0 ∧ ((ob = none → l = [] ∧ cap = 0) ∧ l.length ≤ cap) ∧ l.length ≤ 100000 ∧ used ≤ items.length)
      (fun ⟨i, l, ob, cap, used⟩ => mkS Tryd.f72.ntmps 0 [(1, .c (.v (.slice ia items.length icap))), (7, .c (.v (.slice (at0 db) ds.length dcap))), (9, .c (.v (.slice (at0 ob) l.length cap))), (10, .c (.v (.int .i64 (used : Int)))), (11, .c (.v (.int .i64 (i : Int))))])
      (fun ⟨_, l, ob, cap, used⟩ => [.fact (ItemsF ia items), .fact G, outE l ob cap]) (fun ⟨i, _, _, _, _⟩ => ds.length - i) [.app 0 0 [] none 0 0] rfl
      (fun _ => rfl) (fun _ => rfl) (fun _ _ => okHB_eq rfl) ⟨(0, [], none, 0, 0), ⟨Nat.zero_le _, rfl, ⟨fun _ => ⟨rfl, rfl⟩, Nat.le_refl _⟩, Nat.zero_le _, Nat.zero_le _⟩, ?_, ?_⟩ ?_
    · (repeat' (first | exact trivial | refine And.intro (by with_reducible rfl) ?_ | (with_reducible exact wkC_refl _) | (with_reducible exact wkCs_refl _) | refine And.intro ?_ ?_))
      all_goals rfl
    · exact ⟨wkE_refl _, wkE_refl _, wkE_nil, wkH_nil _⟩
    rintro ⟨i, l, ob, cap, used⟩ ⟨hid, hrun, hob, hll, hu⟩
    (first | refine wX ?_ | exact wZ)
    refine brd_dec (fun h1 => ?_) (fun h1 => ?_)
    · obtain ⟨d, hd⟩ : ∃ d, ds[i]? = some d := ⟨_, List.getElem?_eq_getElem (by omega)⟩
      have hdok := hok d (List.mem_of_getElem? hd)
      obtain ⟨db, rfl⟩ : ∃ g, db = some g := by
        cases db with
        | none => rw [hdb rfl] at hd; cases hd
        | some g => exact ⟨g, rfl⟩
      have hc1 : d.count ≤ 1000 := by
        have := hdok.2
        unfold CntOk at this
        omega
      have hdrop : ds.drop i = d :: ds.drop (i + 1) := by
        rw [List.drop_eq_getElem_cons (by omega), (List.getElem?_eq_some_iff.1 hd).2]
      rw [hdrop] at hrun
      have h64 : ((d.letter.toNat : Int) == 64) = (d.letter == 64) := u8_eq (n := 64) (by decide)
      have h120 : ((d.letter.toNat : Int) == 120) = (d.letter == 120) := u8_eq (n := 120) (by decide)
      (first | refine wX ?_ | exact wZ)
      refine Nd.mk ⟨rfl, by omega, by omega⟩ ?_
      (first | refine wX ?_ | exact wZ)
      refine LdN.agg (dirC d) rfl (fun w hw => hG w hw.2.1) rfl (fun j hj => by
        rw [Int.toNat_natCast]
        exact dirsC_get ds i j hj hd) ?_
      (first | refine wX ?_ | exact wZ)
      rw [h120]
      cases e120 : d.letter == 120 with
      | true =>
        obtain ⟨m, hm⟩ : ∃ m : Nat, (max 1 d.count).toNat = m := ⟨_, rfl⟩
        have hmx : maxI 1 d.count = (m : Int) := by unfold maxI; split <;> omega
        have hone : oneS d items l used = if l.length + m > 100000 then .error 5 else .ok (l ++ List.replicate m 0, used) := by
          unfold oneS
          simp only
          rw [if_pos e120, hm, List.length_replicate]
        have hT : times d (items.length - used) = 1 := by unfold times isPl; rw [e120]; simp
        rw [runS_one hT, hone] at hrun
        (first | refine wX ?_ | exact wZ)
        refine EffW.appZeros (kn := .i64) (e := 5) 2 m rfl rfl rfl (by kernel_rfl) (by kernel_rfl) (by kernel_rfl) rfl rfl hmx rfl ⟨by omega, by omega⟩ fun b' cap2 h11 h12 => ?_
        (first | refine wX ?_ | exact wZ)
        refine brd_dec (fun h2 => ?_) (fun h2 => ?_)
        · rw [if_pos (by omega)] at hrun
          (first | refine wX ?_ | exact wZ)
          -- an error comes out
          refine fin_v ?_
          show PackedR (runS items ds [] 0) _ _
          rw [← hrun]
          rfl
        · rw [if_neg (by omega)] at hrun
          (first | refine wX ?_ | exact wZ)
          refine ⟨(i + 1, l ++ List.replicate m 0, some b', cap2, used), ⟨by omega, hrun, ⟨fun h => (by cases h), by rw [List.length_append, List.length_replicate]; exact h11⟩, by rw [List.length_append, List.length_replicate]; omega, hu⟩, by show ds.length - (i + 1) < ds.length - i; omega, ?_, ?_⟩
          · (repeat' (first | exact trivial | refine And.intro (by with_reducible rfl) ?_ | (with_reducible exact wkC_refl _) | (with_reducible exact wkCs_refl _) | refine And.intro ?_ ?_))
            all_goals first | rfl | (rw [List.length_append, List.length_replicate]; rfl) | exact av_int (by first | omega | (rw [wrap_i64 (by omega)]; omega))
          · exact ⟨wkE_refl _, wkE_refl _, .inl ⟨rfl, rfl, by simp [u8s], rfl, by simp, rfl⟩, wkH_nil _⟩
      | false =>
        (first | refine wX ?_ | exact wZ)
        rw [h64]
        cases e64 : d.letter == 64 with
        | true =>
          obtain ⟨m, hm⟩ : ∃ m : Nat, (max 0 d.count).toNat = m := ⟨_, rfl⟩
          have hmx : maxI 0 d.count = (m : Int) := by unfold maxI; split <;> omega
          have hone : oneS d items l used = if (l.take m).length + (m - (l.take m).length) > 100000 then .error 5 else .ok (l.take m ++ List.replicate (m - (l.take m).length) 0, used) := by
            unfold oneS
            simp only
            rw [if_neg (by rw [e120]; decide), if_pos e64, hm, List.length_replicate]
          have hT : times d (items.length - used) = 1 := by unfold times isPl; rw [e64]; simp
          rw [runS_one hT, hone] at hrun
          (first | refine wX ?_ | exact wZ)
          rw [hmx]
          by_cases hml : m ≤ l.length
          · have hz : m - (l.take m).length = 0 := by rw [List.length_take]; omega
            have hlt : (l.take m).length = m := by rw [List.length_take]; omega
            rw [hz, hlt, if_neg (by omega), List.replicate_zero, List.append_nil] at hrun
            have hz0 : maxI 0 (IntKind.i64.wrap ((m : Int) - (l.length : Int))) = 0 := by rw [wrap_i64 (by omega)]; unfold maxI; split <;> omega
            (first | refine wX ?_ | exact wZ)
            refine EffW.appZeros0 (kn := .i64) (e := 5) rfl rfl rfl (by kernel_rfl) (by kernel_rfl) (by kernel_rfl) rfl rfl hz0 hob.2 ?_
            (first | refine wX ?_ | exact wZ)
            refine ReadW.slc_h (ob := ob) (j := (m : Int)) rfl (by kernel_rfl) rfl rfl ⟨by omega, by omega⟩ ?_
            rw [Int.toNat_natCast m]
            (first | refine wX ?_ | exact wZ)
            refine brd_dec (fun h => absurd h (by omega)) (fun _ => ?_)
            (first | refine wX ?_ | exact wZ)
            refine ⟨(i + 1, l.take m, ob, cap, used), ⟨by omega, hrun, ⟨fun h => ⟨by rw [(hob.1 h).1]; exact List.take_nil, (hob.1 h).2⟩, by rw [hlt]; omega⟩, by rw [hlt]; omega, hu⟩, by show ds.length - (i + 1) < ds.length - i; omega, ?_, ?_⟩
            · (repeat' (first | exact trivial | refine And.intro (by with_reducible rfl) ?_ | (with_reducible exact wkC_refl _) | (with_reducible exact wkCs_refl _) | refine And.intro ?_ ?_))
              all_goals first | rfl | (rw [hlt]; done) | exact av_int (by first | omega | (rw [wrap_i64 (by omega)]; omega))
            · exact ⟨wkE_refl _, wkE_refl _, .inr (.inr ⟨rfl, rfl, by rw [hlt, Nat.mul_one]; simp [u8s, List.map_take], rfl, by rw [hlt]; exact hml, rfl⟩), wkH_nil _⟩
          · have hlt : l.take m = l := List.take_of_length_le (by omega)
            obtain ⟨k, hk⟩ : ∃ k, m - l.length = k := ⟨_, rfl⟩
            rw [hlt, hk, if_neg (by omega)] at hrun
            have hz0 : maxI 0 (IntKind.i64.wrap ((m : Int) - (l.length : Int))) = (k : Int) := by rw [wrap_i64 (by omega)]; unfold maxI; split <;> omega
            have hmk : l.length + k = m := by omega
            (first | refine wX ?_ | exact wZ)
            refine EffW.appZeros (kn := .i64) (e := 5) 2 k rfl rfl rfl (by kernel_rfl) (by kernel_rfl) (by kernel_rfl) rfl rfl hz0 rfl ⟨by omega, by omega⟩ fun b' cap2 h11 h12 => ?_
            (first | refine wX ?_ | exact wZ)
            refine ReadW.slc_h (ob := some b') (j := (m : Int)) rfl (by kernel_rfl) rfl rfl ⟨by omega, by omega⟩ ?_
            rw [Int.toNat_natCast m]
            (first | refine wX ?_ | exact wZ)
            refine brd_dec (fun h => absurd h (by omega)) (fun _ => ?_)
            (first | refine wX ?_ | exact wZ)
            refine ⟨(i + 1, l ++ List.replicate k 0, some b', cap2, used), ⟨by omega, hrun, ⟨fun h => (by cases h), by rw [List.length_append, List.length_replicate]; exact h11⟩, by rw [List.length_append, List.length_replicate]; omega, hu⟩, by show ds.length - (i + 1) < ds.length - i; omega, ?_, ?_⟩
            · (repeat' (first | exact trivial | refine And.intro (by with_reducible rfl) ?_ | (with_reducible exact wkC_refl _) | (with_reducible exact wkCs_refl _) | refine And.intro ?_ ?_))
              all_goals first | rfl | (rw [List.length_append, List.length_replicate, hmk]; done) | (rw [List.length_append, List.length_replicate, hmk]; rfl) | exact av_int (by first | omega | (rw [wrap_i64 (by omega)]; omega))
            · exact ⟨wkE_refl _, wkE_refl _, .inl ⟨rfl, rfl, by simp [u8s], rfl, by simp, rfl⟩, wkH_nil _⟩
        | false =>
          have hone : ∀ (l : List UInt8) (used : Nat), oneS d items l used = match items[used]? with
              | none => .error 14
              | some x => if x.isText != isStr d.letter then .error 1
                else match if isStr d.letter then textS d x.text else numS d x.int with
                  | .error e => .error e
                  | .ok r => if l.length + r.length > 100000 then .error 5 else .ok (l ++ r, used + 1) := fun l used => by
            unfold oneS
            simp only
            rw [if_neg (by rw [e120]; decide), if_neg (by rw [e64]; decide)]
            rfl
          (first | refine wX ?_ | exact wZ)
          refine call1 (number_r d.letter _) ?_
          rw [numB_isStr hdok.1 e120 e64]
          cases hst : isStr d.letter with
          | true =>
            have hT : times d (items.length - used) = 1 := by unfold times; rw [hst]; rfl
            rw [runS_one hT, hone l used] at hrun
            (first | refine wX ?_ | exact wZ)
            refine brd_eq (fun h2 => ?_) (fun h2 => ?_)
            · rw [List.getElem?_eq_none (by omega)] at hrun
              (first | refine wX ?_ | exact wZ)
              -- an error comes out
              refine fin_v ?_
              show PackedR (runS items ds [] 0) _ _
              rw [← hrun]
              rfl
            · obtain ⟨x, hx⟩ : ∃ x, items[used]? = some x := ⟨_, List.getElem?_eq_getElem (by omega)⟩
              have hxm := hi x (List.mem_of_getElem? hx)
              rw [hx] at hrun
              simp only [hst, if_true] at hrun
              (first | refine wX ?_ | exact wZ)
              refine Nd.mk ⟨hia (fun h => by rw [h] at hx; cases hx), by omega, by omega⟩ ?_
              (first | refine wX ?_ | exact wZ)
              refine LdN.fld (.bool x.isText) rfl (fun w hw => hw.1) (by rw [Int.toNat_natCast]; exact itemsC_get items used 0 (by decide) hx) ?_
              ((conv => whnf); (repeat ((first | refine VrN.keep ?_ | refine BoxN.own ?_ | refine RwN.own ?_); (conv => whnf))))
              cases hk : x.isText with
              | false =>
                rw [hk, if_pos (by decide)] at hrun
                (first | refine wX ?_ | exact wZ)
                -- an error comes out
                refine fin_v ?_
                show PackedR (runS items ds [] 0) _ _
                rw [← hrun]
                rfl
              | true =>
                rw [hk, if_neg (by decide)] at hrun
                ((conv => whnf); (repeat ((first | refine VrN.keep ?_ | refine BoxN.own ?_ | refine RwN.own ?_); (conv => whnf))))
                refine DrawN.plan [1, 2] [(0, 1), (3, 1), (4, 1), (5, 1), (6, 0), (7, 1), (8, 1), (9, 1), (10, 1), (11, 1)] [] (by decide +kernel) ?_
                (first | refine wX ?_ | exact wZ)
                refine Nd.mk ⟨hia (fun h => by rw [h] at hx; cases hx), by omega, by omega⟩ ?_
                (first | refine wX ?_ | exact wZ)
                refine LdN.fld (.string (bs x.text)) rfl (fun w hw => hw.1) (by rw [Int.toNat_natCast]; exact itemsC_get items used 2 (by decide) hx) ?_
                (first | refine wX ?_ | exact wZ)
                refine SpecF.call (text_r d x.text hdok.2 (by simpa using e64) hxm.1) (fun w _ => trivial) fun v G2 hR2 => ?_
                cases hw : textS d x.text with
                | error e =>
                  obtain rfl := textS_err hw
                  rw [hw] at hR2 hrun
                  obtain rfl := hR2
                  (first | refine wX ?_ | exact wZ)
                  -- an error comes out
                  refine fin_v ?_
                  show PackedR (runS items ds [] 0) _ _
                  rw [← hrun]
                  rfl
                | ok r =>
                  rw [hw] at hR2 hrun
                  obtain ⟨y, rfl, rb, rc, rfl, hrb, hG2⟩ := hR2
                  simp only at hrun
                  cases r with
                  | nil =>
                    rw [List.length_nil, if_neg (by omega), List.append_nil] at hrun
                    (first | refine wX ?_ | exact wZ)
                    refine brd_dec (fun h => absurd h (by omega)) (fun _ => ?_)
                    (first | refine wX ?_ | exact wZ)
                    refine ⟨(i + 1, l, ob, cap, used + 1), ⟨by omega, hrun, hob, hll, by omega⟩, by show ds.length - (i + 1) < ds.length - i; omega, ?_, ?_⟩
                    · (repeat' (first | exact trivial | refine And.intro (by with_reducible rfl) ?_ | (with_reducible exact wkC_refl _) | (with_reducible exact wkCs_refl _) | refine And.intro ?_ ?_))
                      all_goals first | rfl | exact av_int (by first | omega | (rw [wrap_i64 (by omega)]; omega))
                    · exact ⟨wkE_refl _, wkE_refl _, wkE_refl _, wkH_nil _⟩
                  | cons r0 r1 =>
                    obtain ⟨rb, rfl⟩ : ∃ g, rb = some g := by
                      cases rb with
                      | none => exact absurd (hrb rfl) (by simp)
                      | some g => exact ⟨g, rfl⟩
                    have hrl : (r0 :: r1).length ≤ 140737488355328 := textS_size hxm.1 hc1 hw
                    have hlc : (r0 :: r1).length = r1.length + 1 := rfl
                    have hrl2 : r1.length ≤ 140737488355328 := by omega
                    rw [List.length_cons] at hrun
                    (first | refine wX ?_ | exact wZ)
                    -- bytes r0 :: r1 are appended to l; hw.2.2.2.1: their fact
                    refine Nd.mk rfl ?_
                    (conv => whnf)
                    refine ApN.intro (u8s (r0 :: r1)) (by show _ = (r1.length + 1) * 1; rw [u8s_len]; simp) (fun u hu => by obtain ⟨c, _, rfl⟩ := List.mem_map.1 hu; rfl) (fun w hw j v hv => (hG2 w hw.2.2.2.1).cell hv) ?_
                    (conv => whnf)
                    refine AppN.big 2 (u8s l) (u8s (r0 :: r1)) rfl (plains_vs _) ⟨by omega, rfl, by show (l).length + (r1.length + 1) ≤ _; omega⟩ fun b' cap2 h11 h12 => ?_
                    (first | refine wX ?_ | exact wZ)
                    refine brd_dec (fun h4 => ?_) (fun h4 => ?_)
                    · rw [if_pos (by omega)] at hrun
                      (first | refine wX ?_ | exact wZ)
                      -- an error comes out
                      refine fin_v ?_
                      show PackedR (runS items ds [] 0) _ _
                      rw [← hrun]
                      rfl
                    · rw [if_neg (by omega)] at hrun
                      (first | refine wX ?_ | exact wZ)
                      refine ⟨(i + 1, l ++ r0 :: r1, some b', cap2, used + 1), ⟨by omega, hrun, ⟨fun h => (by cases h), by rw [List.length_append]; exact h11⟩, by rw [List.length_append, List.length_cons]; omega, by omega⟩, by show ds.length - (i + 1) < ds.length - i; omega, ?_, ?_⟩
                      · (repeat' (first | exact trivial | refine And.intro (by with_reducible rfl) ?_ | (with_reducible exact wkC_refl _) | (with_reducible exact wkCs_refl _) | refine And.intro ?_ ?_))
                        all_goals first | rfl | (rw [List.length_append]; rfl) | exact av_int (by first | omega | (rw [wrap_i64 (by omega)]; omega))
                      · exact ⟨wkE_refl _, wkE_refl _, .inl ⟨rfl, rfl, by simp [u8s], rfl, by simp, rfl⟩, wkH_nil _⟩
          | false =>
            have hpl : isPl d.letter = false := by unfold isPl; rw [e120, e64]; rfl
            have hz := letter_num hdok.1 hst hpl
            have hT0 : times d (items.length - used) = cntS d (items.length - used) := by unfold times; rw [hst, hpl]; rfl
            simp only [hst, Bool.false_eq_true, if_false] at hone
            (first | refine wX ?_ | exact wZ)
            refine brd_eq (fun hk2 => ?_) (fun hk2 => ?_)
            · have hT : times d (items.length - used) = 1 := by rw [hT0]; unfold cntS; rw [if_pos hk2]
              -- the numbers of a directive; 1: how many
              rw [runS, hT] at hrun
              (first | refine wX ?_ | exact wZ)
              refine LoopN.intro (Nat × List UInt8 × Option Nat × Nat × Nat) (fun ⟨r, l', ob', cap', used'⟩ => r ≤ 1 ∧ timesS d items r l' used' = timesS d items (1) l used ∧ ((ob' = none → l' = [] ∧ cap' = 0) ∧ l'.length ≤ cap') ∧ l'.length ≤ 100000 ∧ used' ≤ items.length)
                (fun ⟨r, l', ob', cap', used'⟩ => mkS Tryd.f72.ntmps 0 [(1, .c (.v (.slice ia items.length icap))), (7, .c (.v (.slice (some ⟨db, 0, none⟩) ds.length dcap))), (9, .c (.v (.slice (at0 ob') l'.length cap'))), (10, .c (.v (.int .i64 (used' : Int)))), (11, .c (.v (.int .i64 (i : Int)))), (12, .c (.lp 3 0)), (14, .c (.v (.int .i64 (r : Int))))])
                (fun ⟨_, l', ob', cap', _⟩ => [.fact (ItemsF ia items), .fact G, outE l' ob' cap', .blk 65 [.v (.int .u8 (d.letter.toNat : Int)), .v (.bool d.big), .v (.int .i64 d.count)]]) (fun ⟨r, _, _, _, _⟩ => r) [] rfl
                (fun _ => rfl) (fun _ => rfl) (fun _ _ => okHB_eq rfl) ⟨(1, l, ob, cap, used), ⟨Nat.le_refl _, rfl, hob, hll, hu⟩, ?_, ?_⟩ ?_
              · (repeat' (first | exact trivial | refine And.intro (by with_reducible rfl) ?_ | (with_reducible exact wkC_refl _) | (with_reducible exact wkCs_refl _) | refine And.intro ?_ ?_))
                all_goals first | rfl | exact av_int (by omega) | exact av_int (by rw [wrap_i64 (by omega)]; omega)
              · exact ⟨wkE_refl _, wkE_refl _, wkE_refl _, wkE_refl _, wkH_nil _⟩
              rintro ⟨r, l', ob', cap', used'⟩ ⟨hr, hts, hob', hll', hu'⟩
              (first | refine wX ?_ | exact wZ)
              refine brd_dec (fun h2 => ?_) (fun h2 => ?_)
              · obtain ⟨r, rfl⟩ : ∃ r2, r = r2 + 1 := ⟨r - 1, by omega⟩
                rw [timesS_succ, hone l' used'] at hts
                (first | refine wX ?_ | exact wZ)
                refine brd_eq (fun h3 => ?_) (fun h3 => ?_)
                · rw [List.getElem?_eq_none (by omega)] at hts
                  rw [← hts] at hrun
                  (first | refine wX ?_ | exact wZ)
                  -- an error comes out
                  refine fin_v ?_
                  show PackedR (runS items ds [] 0) _ _
                  rw [← hrun]
                  rfl
                · obtain ⟨x, hx⟩ : ∃ x, items[used']? = some x := ⟨_, List.getElem?_eq_getElem (by omega)⟩
                  have hxm := hi x (List.mem_of_getElem? hx)
                  rw [hx] at hts
                  simp only at hts
                  (first | refine wX ?_ | exact wZ)
                  refine Nd.mk ⟨hia (fun h => by rw [h] at hx; cases hx), by omega, by omega⟩ ?_
                  (first | refine wX ?_ | exact wZ)
                  refine LdN.agg (itemC x) rfl (fun w hw => hw.1) rfl (fun j hj => by
                    rw [Int.toNat_natCast]
                    exact itemsC_get items used' j hj hx) ?_
                  (first | refine wX ?_ | exact wZ)
                  cases hk : x.isText with
                  | true =>
                    rw [hk, if_pos (by decide)] at hts
                    rw [← hts] at hrun
                    (first | refine wX ?_ | exact wZ)
                    -- an error comes out
                    refine fin_v ?_
                    show PackedR (runS items ds [] 0) _ _
                    rw [← hrun]
                    rfl
                  | false =>
                    rw [hk, if_neg (by decide), numS_fit] at hts
                    (first | refine wX ?_ | exact wZ)
                    refine call1 (fits_r d.letter x.int hz _) ?_
                    cases hft : fitR d.letter x.int with
                    | false =>
                      rw [hft, if_neg (by decide)] at hts
                      rw [← hts] at hrun
                      (first | refine wX ?_ | exact wZ)
                      -- an error comes out
                      refine fin_v ?_
                      show PackedR (runS items ds [] 0) _ _
                      rw [← hrun]
                      rfl
                    | true =>
                      rw [hft, if_pos rfl] at hts
                      simp only at hts
                      (first | refine wX ?_ | exact wZ)
                      refine SpecF.call (bytes_r d x.int hz (fit_w hft) (fit_u hft) hxm.2) (fun w _ => trivial) fun v G2 hR2 => ?_
                      obtain ⟨rb, rc, rfl, hrb, hG2⟩ := hR2
                      have hns : numS d x.int = .ok (numL d x.int) := by rw [numS_fit, hft, if_pos rfl]
                      have hrl := numS_size hns
                      cases hL : numL d x.int with
                      | nil =>
                        rw [hL] at hts
                        rw [List.length_nil, if_neg (by omega), List.append_nil] at hts
                        (first | refine wX ?_ | exact wZ)
                        refine brd_dec (fun h => absurd h (by omega)) (fun _ => ?_)
                        (first | refine wX ?_ | exact wZ)
                        refine ⟨(r, l', ob', cap', used' + 1), ⟨by omega, hts, hob', hll', by omega⟩, by show r < r + 1; omega, ?_, ?_⟩
                        · (repeat' (first | exact trivial | refine And.intro (by with_reducible rfl) ?_ | (with_reducible exact wkC_refl _) | (with_reducible exact wkCs_refl _) | refine And.intro ?_ ?_))
                          all_goals first | rfl | exact av_int (by first | omega | (rw [wrap_i64 (by omega)]; omega))
                        · exact ⟨wkE_refl _, wkE_refl _, wkE_refl _, wkE_refl _, wkH_nil _⟩
                      | cons r0 r1 =>
                        rw [hL] at hts hrl hrb hG2
                        obtain ⟨rb, rfl⟩ : ∃ g, rb = some g := by
                          cases rb with
                          | none => exact absurd (hrb rfl) (by simp)
                          | some g => exact ⟨g, rfl⟩
                        have hlc : (r0 :: r1).length = r1.length + 1 := rfl
                        have hrl2 : r1.length ≤ 140737488355328 := by omega
                        rw [List.length_cons] at hts
                        (first | refine wX ?_ | exact wZ)
                        -- bytes r0 :: r1 are appended to l; hw.2.2.2.1: their fact
                        refine Nd.mk rfl ?_
                        (conv => whnf)
                        refine ApN.intro (u8s (r0 :: r1)) (by show _ = (r1.length + 1) * 1; rw [u8s_len]; simp) (fun u hu => by obtain ⟨c, _, rfl⟩ := List.mem_map.1 hu; rfl) (fun w hw j v hv => (hG2 w hw.2.2.2.1).cell hv) ?_
                        (conv => whnf)
                        refine AppN.big 2 (u8s l') (u8s (r0 :: r1)) rfl (plains_vs _) ⟨by omega, rfl, by show (l').length + (r1.length + 1) ≤ _; omega⟩ fun b' cap2 h11 h12 => ?_
                        (first | refine wX ?_ | exact wZ)
                        refine brd_dec (fun h4 => ?_) (fun h4 => ?_)
                        · rw [if_pos (by omega)] at hts
                          rw [← hts] at hrun
                          (first | refine wX ?_ | exact wZ)
                          -- an error comes out
                          refine fin_v ?_
                          show PackedR (runS items ds [] 0) _ _
                          rw [← hrun]
                          rfl
                        · rw [if_neg (by omega)] at hts
                          (first | refine wX ?_ | exact wZ)
                          refine ⟨(r, l' ++ r0 :: r1, some b', cap2, used' + 1), ⟨by omega, hts, ⟨fun h => (by cases h), by rw [List.length_append]; exact h11⟩, by rw [List.length_append, List.length_cons]; omega, by omega⟩, by show r < r + 1; omega, ?_, ?_⟩
                          · (repeat' (first | exact trivial | refine And.intro (by with_reducible rfl) ?_ | (with_reducible exact wkC_refl _) | (with_reducible exact wkCs_refl _) | refine And.intro ?_ ?_))
                            all_goals first | rfl | (rw [List.length_append]; rfl) | exact av_int (by first | omega | (rw [wrap_i64 (by omega)]; omega))
                          · exact ⟨wkE_refl _, wkE_refl _, .inl ⟨rfl, rfl, by simp [u8s], rfl, by simp, rfl⟩, wkE_refl _, wkH_nil _⟩
              · have hr0 : r = 0 := by omega
                subst hr0
                have hts2 : timesS d items (1) l used = .ok (l', used') := hts.symm
                rw [hts2] at hrun
                (first | refine wX ?_ | exact wZ)
                refine brd_dec (fun h => absurd h (by omega)) (fun _ => ?_)
                (first | refine wX ?_ | exact wZ)
                refine ⟨(i + 1, l', ob', cap', used'), ⟨by omega, hrun, hob', hll', hu'⟩, by show ds.length - (i + 1) < ds.length - i; omega, ?_, ?_⟩
                · (repeat' (first | exact trivial | refine And.intro (by with_reducible rfl) ?_ | (with_reducible exact wkC_refl _) | (with_reducible exact wkCs_refl _) | refine And.intro ?_ ?_))
                  all_goals first | rfl | exact av_int (by omega) | exact av_int (by rw [wrap_i64 (by omega)]; omega)
                · exact ⟨wkE_refl _, wkE_refl _, wkE_refl _, wkH_nil _⟩
            · (first | refine wX ?_ | exact wZ)
              refine brd_eq (fun hk1 => ?_) (fun hk1 => ?_)
              · have hT : times d (items.length - used) = items.length - used := by rw [hT0]; unfold cntS; rw [if_neg hk2, if_pos hk1]
                -- the numbers of a directive; (items.length - used): how many
                rw [runS, hT] at hrun
                (first | refine wX ?_ | exact wZ)
                refine LoopN.intro (Nat × List UInt8 × Option Nat × Nat × Nat) (fun ⟨r, l', ob', cap', used'⟩ => r ≤ (items.length - used) ∧ timesS d items r l' used' = timesS d items ((items.length - used)) l used ∧ ((ob' = none → l' = [] ∧ cap' = 0) ∧ l'.length ≤ cap') ∧ l'.length ≤ 100000 ∧ used' ≤ items.length)
                  (fun ⟨r, l', ob', cap', used'⟩ => mkS Tryd.f72.ntmps 0 [(1, .c (.v (.slice ia items.length icap))), (7, .c (.v (.slice (some ⟨db, 0, none⟩) ds.length dcap))), (9, .c (.v (.slice (at0 ob') l'.length cap'))), (10, .c (.v (.int .i64 (used' : Int)))), (11, .c (.v (.int .i64 (i : Int)))), (12, .c (.lp 3 0)), (14, .c (.v (.int .i64 (r : Int))))])
                  (fun ⟨_, l', ob', cap', _⟩ => [.fact (ItemsF ia items), .fact G, outE l' ob' cap', .blk 65 [.v (.int .u8 (d.letter.toNat : Int)), .v (.bool d.big), .v (.int .i64 d.count)]]) (fun ⟨r, _, _, _, _⟩ => r) [] rfl
                  (fun _ => rfl) (fun _ => rfl) (fun _ _ => okHB_eq rfl) ⟨((items.length - used), l, ob, cap, used), ⟨Nat.le_refl _, rfl, hob, hll, hu⟩, ?_, ?_⟩ ?_
                · (repeat' (first | exact trivial | refine And.intro (by with_reducible rfl) ?_ | (with_reducible exact wkC_refl _) | (with_reducible exact wkCs_refl _) | refine And.intro ?_ ?_))
                  all_goals first | rfl | exact av_int (by omega) | exact av_int (by rw [wrap_i64 (by omega)]; omega)
                · exact ⟨wkE_refl _, wkE_refl _, wkE_refl _, wkE_refl _, wkH_nil _⟩
                rintro ⟨r, l', ob', cap', used'⟩ ⟨hr, hts, hob', hll', hu'⟩
                (first | refine wX ?_ | exact wZ)
                refine brd_dec (fun h2 => ?_) (fun h2 => ?_)
                · obtain ⟨r, rfl⟩ : ∃ r2, r = r2 + 1 := ⟨r - 1, by omega⟩
                  rw [timesS_succ, hone l' used'] at hts
                  (first | refine wX ?_ | exact wZ)
                  refine brd_eq (fun h3 => ?_) (fun h3 => ?_)
                  · rw [List.getElem?_eq_none (by omega)] at hts
                    rw [← hts] at hrun
                    (first | refine wX ?_ | exact wZ)
                    -- an error comes out
                    refine fin_v ?_
                    show PackedR (runS items ds [] 0) _ _
                    rw [← hrun]
                    rfl
                  · obtain ⟨x, hx⟩ : ∃ x, items[used']? = some x := ⟨_, List.getElem?_eq_getElem (by omega)⟩
                    have hxm := hi x (List.mem_of_getElem? hx)
                    rw [hx] at hts
                    simp only at hts
                    (first | refine wX ?_ | exact wZ)
                    refine Nd.mk ⟨hia (fun h => by rw [h] at hx; cases hx), by omega, by omega⟩ ?_
                    (first | refine wX ?_ | exact wZ)
                    refine LdN.agg (itemC x) rfl (fun w hw => hw.1) rfl (fun j hj => by
                      rw [Int.toNat_natCast]
                      exact itemsC_get items used' j hj hx) ?_
                    (first | refine wX ?_ | exact wZ)
                    cases hk : x.isText with
                    | true =>
                      rw [hk, if_pos (by decide)] at hts
                      rw [← hts] at hrun
                      (first | refine wX ?_ | exact wZ)
                      -- an error comes out
                      refine fin_v ?_
                      show PackedR (runS items ds [] 0) _ _
                      rw [← hrun]
                      rfl
                    | false =>
                      rw [hk, if_neg (by decide), numS_fit] at hts
                      (first | refine wX ?_ | exact wZ)
                      refine call1 (fits_r d.letter x.int hz _) ?_
                      cases hft : fitR d.letter x.int with
                      | false =>
                        rw [hft, if_neg (by decide)] at hts
                        rw [← hts] at hrun
                        (first | refine wX ?_ | exact wZ)
                        -- an error comes out
                        refine fin_v ?_
                        show PackedR (runS items ds [] 0) _ _
                        rw [← hrun]
                        rfl
                      | true =>
                        rw [hft, if_pos rfl] at hts
                        simp only at hts
                        (first | refine wX ?_ | exact wZ)
                        refine SpecF.call (bytes_r d x.int hz (fit_w hft) (fit_u hft) hxm.2) (fun w _ => trivial) fun v G2 hR2 => ?_
                        obtain ⟨rb, rc, rfl, hrb, hG2⟩ := hR2
                        have hns : numS d x.int = .ok (numL d x.int) := by rw [numS_fit, hft, if_pos rfl]
                        have hrl := numS_size hns
                        cases hL : numL d x.int with
                        | nil =>
                          rw [hL] at hts
                          rw [List.length_nil, if_neg (by omega), List.append_nil] at hts
                          (first | refine wX ?_ | exact wZ)
                          refine brd_dec (fun h => absurd h (by omega)) (fun _ => ?_)
                          (first | refine wX ?_ | exact wZ)
                          refine ⟨(r, l', ob', cap', used' + 1), ⟨by omega, hts, hob', hll', by omega⟩, by show r < r + 1; omega, ?_, ?_⟩
                          · (repeat' (first | exact trivial | refine And.intro (by with_reducible rfl) ?_ | (with_reducible exact wkC_refl _) | (with_reducible exact wkCs_refl _) | refine And.intro ?_ ?_))
                            all_goals first | rfl | exact av_int (by first | omega | (rw [wrap_i64 (by omega)]; omega))
                          · exact ⟨wkE_refl _, wkE_refl _, wkE_refl _, wkE_refl _, wkH_nil _⟩
                        | cons r0 r1 =>
                          rw [hL] at hts hrl hrb hG2
                          obtain ⟨rb, rfl⟩ : ∃ g, rb = some g := by
                            cases rb with
                            | none => exact absurd (hrb rfl) (by simp)
                            | some g => exact ⟨g, rfl⟩
                          have hlc : (r0 :: r1).length = r1.length + 1 := rfl
                          have hrl2 : r1.length ≤ 140737488355328 := by omega
                          rw [List.length_cons] at hts
                          (first | refine wX ?_ | exact wZ)
                          -- bytes r0 :: r1 are appended to l; hw.2.2.2.1: their fact
                          refine Nd.mk rfl ?_
                          (conv => whnf)
                          refine ApN.intro (u8s (r0 :: r1)) (by show _ = (r1.length + 1) * 1; rw [u8s_len]; simp) (fun u hu => by obtain ⟨c, _, rfl⟩ := List.mem_map.1 hu; rfl) (fun w hw j v hv => (hG2 w hw.2.2.2.1).cell hv) ?_
                          (conv => whnf)
                          refine AppN.big 2 (u8s l') (u8s (r0 :: r1)) rfl (plains_vs _) ⟨by omega, rfl, by show (l').length + (r1.length + 1) ≤ _; omega⟩ fun b' cap2 h11 h12 => ?_
                          (first | refine wX ?_ | exact wZ)
                          refine brd_dec (fun h4 => ?_) (fun h4 => ?_)
                          · rw [if_pos (by omega)] at hts
                            rw [← hts] at hrun
                            (first | refine wX ?_ | exact wZ)
                            -- an error comes out
                            refine fin_v ?_
                            show PackedR (runS items ds [] 0) _ _
                            rw [← hrun]
                            rfl
                          · rw [if_neg (by omega)] at hts
                            (first | refine wX ?_ | exact wZ)
                            refine ⟨(r, l' ++ r0 :: r1, some b', cap2, used' + 1), ⟨by omega, hts, ⟨fun h => (by cases h), by rw [List.length_append]; exact h11⟩, by rw [List.length_append, List.length_cons]; omega, by omega⟩, by show r < r + 1; omega, ?_, ?_⟩
                            · (repeat' (first | exact trivial | refine And.intro (by with_reducible rfl) ?_ | (with_reducible exact wkC_refl _) | (with_reducible exact wkCs_refl _) | refine And.intro ?_ ?_))
                              all_goals first | rfl | (rw [List.length_append]; rfl) | exact av_int (by first | omega | (rw [wrap_i64 (by omega)]; omega))
                            · exact ⟨wkE_refl _, wkE_refl _, .inl ⟨rfl, rfl, by simp [u8s], rfl, by simp, rfl⟩, wkE_refl _, wkH_nil _⟩
                · have hr0 : r = 0 := by omega
                  subst hr0
                  have hts2 : timesS d items ((items.length - used)) l used = .ok (l', used') := hts.symm
                  rw [hts2] at hrun
                  (first | refine wX ?_ | exact wZ)
                  refine brd_dec (fun h => absurd h (by omega)) (fun _ => ?_)
                  (first | refine wX ?_ | exact wZ)
                  refine ⟨(i + 1, l', ob', cap', used'), ⟨by omega, hrun, hob', hll', hu'⟩, by show ds.length - (i + 1) < ds.length - i; omega, ?_, ?_⟩
                  · (repeat' (first | exact trivial | refine And.intro (by with_reducible rfl) ?_ | (with_reducible exact wkC_refl _) | (with_reducible exact wkCs_refl _) | refine And.intro ?_ ?_))
                    all_goals first | rfl | exact av_int (by omega) | exact av_int (by rw [wrap_i64 (by omega)]; omega)
                  · exact ⟨wkE_refl _, wkE_refl _, wkE_refl _, wkH_nil _⟩
              · obtain ⟨T, hTe⟩ : ∃ T : Nat, d.count.toNat = T := ⟨_, rfl⟩
                have hT2 : d.count = (T : Int) ∧ T ≤ 1000 := by
                  have := hdok.2
                  unfold CntOk at this
                  omega
                have hT : times d (items.length - used) = T := by rw [hT0]; unfold cntS; rw [if_neg hk2, if_neg hk1]; exact hTe
                -- the numbers of a directive; T: how many
                rw [runS, hT] at hrun
                (first | refine wX ?_ | exact wZ)
                refine LoopN.intro (Nat × List UInt8 × Option Nat × Nat × Nat) (fun ⟨r, l', ob', cap', used'⟩ => r ≤ T ∧ timesS d items r l' used' = timesS d items (T) l used ∧ ((ob' = none → l' = [] ∧ cap' = 0) ∧ l'.length ≤ cap') ∧ l'.length ≤ 100000 ∧ used' ≤ items.length)
                  (fun ⟨r, l', ob', cap', used'⟩ => mkS Tryd.f72.ntmps 0 [(1, .c (.v (.slice ia items.length icap))), (7, .c (.v (.slice (some ⟨db, 0, none⟩) ds.length dcap))), (9, .c (.v (.slice (at0 ob') l'.length cap'))), (10, .c (.v (.int .i64 (used' : Int)))), (11, .c (.v (.int .i64 (i : Int)))), (12, .c (.lp 3 0)), (14, .c (.v (.int .i64 (r : Int))))])
                  (fun ⟨_, l', ob', cap', _⟩ => [.fact (ItemsF ia items), .fact G, outE l' ob' cap', .blk 65 [.v (.int .u8 (d.letter.toNat : Int)), .v (.bool d.big), .v (.int .i64 d.count)]]) (fun ⟨r, _, _, _, _⟩ => r) [] rfl
                  (fun _ => rfl) (fun _ => rfl) (fun _ _ => okHB_eq rfl) ⟨(T, l, ob, cap, used), ⟨Nat.le_refl _, rfl, hob, hll, hu⟩, ?_, ?_⟩ ?_
                · (repeat' (first | exact trivial | refine And.intro (by with_reducible rfl) ?_ | (with_reducible exact wkC_refl _) | (with_reducible exact wkCs_refl _) | refine And.intro ?_ ?_))
                  all_goals first | rfl | exact av_int (by omega) | exact av_int (by rw [wrap_i64 (by omega)]; omega)
                · exact ⟨wkE_refl _, wkE_refl _, wkE_refl _, wkE_refl _, wkH_nil _⟩
                rintro ⟨r, l', ob', cap', used'⟩ ⟨hr, hts, hob', hll', hu'⟩
                (first | refine wX ?_ | exact wZ)
                refine brd_dec (fun h2 => ?_) (fun h2 => ?_)
                · obtain ⟨r, rfl⟩ : ∃ r2, r = r2 + 1 := ⟨r - 1, by omega⟩
                  rw [timesS_succ, hone l' used'] at hts
                  (first | refine wX ?_ | exact wZ)
                  refine brd_eq (fun h3 => ?_) (fun h3 => ?_)
                  · rw [List.getElem?_eq_none (by omega)] at hts
                    rw [← hts] at hrun
                    (first | refine wX ?_ | exact wZ)
                    -- an error comes out
                    refine fin_v ?_
                    show PackedR (runS items ds [] 0) _ _
                    rw [← hrun]
                    rfl
                  · obtain ⟨x, hx⟩ : ∃ x, items[used']? = some x := ⟨_, List.getElem?_eq_getElem (by omega)⟩
                    have hxm := hi x (List.mem_of_getElem? hx)
                    rw [hx] at hts
                    simp only at hts
                    (first | refine wX ?_ | exact wZ)
                    refine Nd.mk ⟨hia (fun h => by rw [h] at hx; cases hx), by omega, by omega⟩ ?_
                    (first | refine wX ?_ | exact wZ)
                    refine LdN.agg (itemC x) rfl (fun w hw => hw.1) rfl (fun j hj => by
                      rw [Int.toNat_natCast]
                      exact itemsC_get items used' j hj hx) ?_
                    (first | refine wX ?_ | exact wZ)
                    cases hk : x.isText with
                    | true =>
                      rw [hk, if_pos (by decide)] at hts
                      rw [← hts] at hrun
                      (first | refine wX ?_ | exact wZ)
                      -- an error comes out
                      refine fin_v ?_
                      show PackedR (runS items ds [] 0) _ _
                      rw [← hrun]
                      rfl
                    | false =>
                      rw [hk, if_neg (by decide), numS_fit] at hts
                      (first | refine wX ?_ | exact wZ)
                      refine call1 (fits_r d.letter x.int hz _) ?_
                      cases hft : fitR d.letter x.int with
                      | false =>
                        rw [hft, if_neg (by decide)] at hts
                        rw [← hts] at hrun
                        (first | refine wX ?_ | exact wZ)
                        -- an error comes out
                        refine fin_v ?_
                        show PackedR (runS items ds [] 0) _ _
                        rw [← hrun]
                        rfl
                      | true =>
                        rw [hft, if_pos rfl] at hts
                        simp only at hts
                        (first | refine wX ?_ | exact wZ)
                        refine SpecF.call (bytes_r d x.int hz (fit_w hft) (fit_u hft) hxm.2) (fun w _ => trivial) fun v G2 hR2 => ?_
                        obtain ⟨rb, rc, rfl, hrb, hG2⟩ := hR2
                        have hns : numS d x.int = .ok (numL d x.int) := by rw [numS_fit, hft, if_pos rfl]
                        have hrl := numS_size hns
                        cases hL : numL d x.int with
                        | nil =>
                          rw [hL] at hts
                          rw [List.length_nil, if_neg (by omega), List.append_nil] at hts
                          (first | refine wX ?_ | exact wZ)
                          refine brd_dec (fun h => absurd h (by omega)) (fun _ => ?_)
                          (first | refine wX ?_ | exact wZ)
                          refine ⟨(r, l', ob', cap', used' + 1), ⟨by omega, hts, hob', hll', by omega⟩, by show r < r + 1; omega, ?_, ?_⟩
                          · (repeat' (first | exact trivial | refine And.intro (by with_reducible rfl) ?_ | (with_reducible exact wkC_refl _) | (with_reducible exact wkCs_refl _) | refine And.intro ?_ ?_))
                            all_goals first | rfl | exact av_int (by first | omega | (rw [wrap_i64 (by omega)]; omega))
                          · exact ⟨wkE_refl _, wkE_refl _, wkE_refl _, wkE_refl _, wkH_nil _⟩
                        | cons r0 r1 =>
                          rw [hL] at hts hrl hrb hG2
                          obtain ⟨rb, rfl⟩ : ∃ g, rb = some g := by
                            cases rb with
                            | none => exact absurd (hrb rfl) (by simp)
                            | some g => exact ⟨g, rfl⟩
                          have hlc : (r0 :: r1).length = r1.length + 1 := rfl
                          have hrl2 : r1.length ≤ 140737488355328 := by omega
                          rw [List.length_cons] at hts
                          (first | refine wX ?_ | exact wZ)
                          -- bytes r0 :: r1 are appended to l; hw.2.2.2.1: their fact
                          refine Nd.mk rfl ?_
                          (conv => whnf)
                          refine ApN.intro (u8s (r0 :: r1)) (by show _ = (r1.length + 1) * 1; rw [u8s_len]; simp) (fun u hu => by obtain ⟨c, _, rfl⟩ := List.mem_map.1 hu; rfl) (fun w hw j v hv => (hG2 w hw.2.2.2.1).cell hv) ?_
                          (conv => whnf)
                          refine AppN.big 2 (u8s l') (u8s (r0 :: r1)) rfl (plains_vs _) ⟨by omega, rfl, by show (l').length + (r1.length + 1) ≤ _; omega⟩ fun b' cap2 h11 h12 => ?_
                          (first | refine wX ?_ | exact wZ)
                          refine brd_dec (fun h4 => ?_) (fun h4 => ?_)
                          · rw [if_pos (by omega)] at hts
                            rw [← hts] at hrun
                            (first | refine wX ?_ | exact wZ)
                            -- an error comes out
                            refine fin_v ?_
                            show PackedR (runS items ds [] 0) _ _
                            rw [← hrun]
                            rfl
                          · rw [if_neg (by omega)] at hts
                            (first | refine wX ?_ | exact wZ)
                            refine ⟨(r, l' ++ r0 :: r1, some b', cap2, used' + 1), ⟨by omega, hts, ⟨fun h => (by cases h), by rw [List.length_append]; exact h11⟩, by rw [List.length_append, List.length_cons]; omega, by omega⟩, by show r < r + 1; omega, ?_, ?_⟩
                            · (repeat' (first | exact trivial | refine And.intro (by with_reducible rfl) ?_ | (with_reducible exact wkC_refl _) | (with_reducible exact wkCs_refl _) | refine And.intro ?_ ?_))
                              all_goals first | rfl | (rw [List.length_append]; rfl) | exact av_int (by first | omega | (rw [wrap_i64 (by omega)]; omega))
                            · exact ⟨wkE_refl _, wkE_refl _, .inl ⟨rfl, rfl, by simp [u8s], rfl, by simp, rfl⟩, wkE_refl _, wkH_nil _⟩
                · have hr0 : r = 0 := by omega
                  subst hr0
                  have hts2 : timesS d items (T) l used = .ok (l', used') := hts.symm
                  rw [hts2] at hrun
                  (first | refine wX ?_ | exact wZ)
                  refine brd_dec (fun h => absurd h (by omega)) (fun _ => ?_)
                  (first | refine wX ?_ | exact wZ)
                  refine ⟨(i + 1, l', ob', cap', used'), ⟨by omega, hrun, hob', hll', hu'⟩, by show ds.length - (i + 1) < ds.length - i; omega, ?_, ?_⟩
                  · (repeat' (first | exact trivial | refine And.intro (by with_reducible rfl) ?_ | (with_reducible exact wkC_refl _) | (with_reducible exact wkCs_refl _) | refine And.intro ?_ ?_))
                    all_goals first | rfl | exact av_int (by omega) | exact av_int (by rw [wrap_i64 (by omega)]; omega)
                  · exact ⟨wkE_refl _, wkE_refl _, wkE_refl _, wkH_nil _⟩
    · have hi : i = ds.length := by omega
      subst hi
      rw [List.drop_length] at hrun
      (first | refine wX ?_ | exact wZ)
      refine fin_p (SlAt (at0 ob) (l.length * 1) (u8s l)) ?_ (fun w hw => hw.2.2.1)
      show PackedR (runS items ds [] 0) _ _
      rw [← hrun]
      exact ⟨ob, cap, rfl, fun h => (hob.1 h).1, fun w hw => by rw [Nat.mul_one] at hw; exact hw⟩
end Go.Proofs.YtjkchonpnocffaaDoor

/-
  Contracts: Pack, Used, Check (document); items copied (law).
-/
namespace Go.Proofs.YtjkchonpnocffaaDoor
open Go.AX Go.RowKit Go.Pack
set_option maxRecDepth 20000

theorem RPack_r (form : List UInt8) (ia : Option Addr) (items : List Pack.Item) (icap : Nat) (hs : form.length ≤ 100000)
    (hia : items ≠ [] → ia.isSome = true) (hl : items.length ≤ 100000) (hi : ∀ x ∈ items, x.text.length ≤ 140737488351232 ∧ -9223372036854775808 ≤ x.int ∧ x.int < 9223372036854775808) :
    ∀ H, (∀ w, Facts H w → ItemsF ia items w) → SpecH Tryd.prog 42 (pvs [.string (bs form), .slice ia items.length icap]) H (Ret (packV (packS form items)) H) := by
  refine factC hm Tryd.func42 (by kernel_rfl) rfl rfl ?_
  (first | refine wX ?_ | exact wZ)
  refine SpecF.call (packed_r form ia items icap hs hia hl hi) (fun w hw => hw.1) fun v G hR => ?_
  cases hp : packS form items with
  | error e =>
    rw [hp] at hR
    obtain rfl := hR
    (first | refine wX ?_ | exact wZ)
    refine ReadW.bytes [] rfl rfl rfl rfl rfl rfl (fun w hw => ⟨rfl, fun h => absurd h (by decide), fun i hi => absurd hi (Nat.not_lt_zero i)⟩) ?_
    (first | refine wX ?_ | exact wZ)
    rfl
  | ok x =>
    obtain ⟨l, u⟩ := x
    rw [hp] at hR
    obtain ⟨ob, cap, rfl, hob, hG⟩ := hR
    (first | refine wX ?_ | exact wZ)
    refine ReadW.bytes l rfl rfl rfl rfl rfl rfl (fun w hw => hG w hw.2.1) ?_
    (first | refine wX ?_ | exact wZ)
    rfl
theorem RUsed_r (form : List UInt8) (ia : Option Addr) (items : List Pack.Item) (icap : Nat) (hs : form.length ≤ 100000)
    (hia : items ≠ [] → ia.isSome = true) (hl : items.length ≤ 100000) (hi : ∀ x ∈ items, x.text.length ≤ 140737488351232 ∧ -9223372036854775808 ≤ x.int ∧ x.int < 9223372036854775808) :
    ∀ H, (∀ w, Facts H w → ItemsF ia items w) → SpecH Tryd.prog 44 (pvs [.string (bs form), .slice ia items.length icap]) H (Ret (usedV (packS form items)) H) := by
  refine factC hm Tryd.func44 (by kernel_rfl) rfl rfl ?_
  (first | refine wX ?_ | exact wZ)
  refine SpecF.call (packed_r form ia items icap hs hia hl hi) (fun w hw => hw.1) fun v G hR => ?_
  cases hp : packS form items with
  | error e =>
    rw [hp] at hR
    obtain rfl := hR
    (first | refine wX ?_ | exact wZ)
    rfl
  | ok x =>
    obtain ⟨l, u⟩ := x
    rw [hp] at hR
    obtain ⟨ob, cap, rfl, hob, hG⟩ := hR
    (first | refine wX ?_ | exact wZ)
    rfl
theorem RCheck_r (s : List UInt8) (hs : s.length ≤ 100000) : ∀ H, SpecH Tryd.prog 48 (pvs [.string (bs s)]) H (Ret (.int .i64 (chk (forms s))) H) := by
  refine pureC hm Tryd.func48 (by kernel_rfl) rfl rfl ?_
  (first | refine wX ?_ | exact wZ)
  refine SpecF.call0 (rread_c s hs) (fun w _ => trivial) fun v G hR => ?_
  cases hf : forms s with
  | none =>
    rw [hf] at hR
    obtain ⟨y, n, cap, rfl⟩ := hR
    (first | refine wX ?_ | exact wZ)
    rfl
  | some l =>
    rw [hf] at hR
    obtain ⟨ob, cap, rfl, _⟩ := hR
    (first | refine wX ?_ | exact wZ)
    rfl
/-- Items in memory that nobody writes. -/
def ItR (l : List Pack.Item) (v : Value) (G : World → Prop) : Prop := ∃ ob cap, v = .slice (at0 ob) l.length cap ∧ (ob = none → l = []) ∧ ∀ w, G w → SlAt (at0 ob) (l.length * 3) (itemsC l) w
theorem as_c (ia : Option Addr) (l : List Pack.Item) (cap : Nat) (hl : l.length ≤ 1000000) (ha : l ≠ [] → ia.isSome = true) : SpecF Tryd.prog 43 [.slice ia l.length cap] (ItemsF ia l) (ItR l) := by
-- the function: cabochon/cabochonlaw03.as, the type of the items that are made: cabochonref03.Item
  refine specF hm Tryd.func43 (by kernel_rfl) rfl rfl ?_
  (first | refine wX ?_ | exact wZ)
  refine LoopN.intro (Nat × Option Nat × Nat) (fun ⟨i, ob, oc⟩ => i ≤ l.length ∧ ((ob = none → i = 0 ∧ oc = 0) ∧ i ≤ oc)) (fun ⟨i, ob, oc⟩ => mkS Tryd.f43.ntmps 0 [(0, .c (.v (.slice ia l.length cap))), (3, .c (.v (.slice (at0 ob) i oc))), (4, .c (.v (.int .i64 (i : Int))))])
    (fun ⟨i, ob, oc⟩ => [.fact (ItemsF ia l), .app 70 3 (itemsC (l.take i)) (at0 ob) i oc]) (fun ⟨i, _, _⟩ => l.length - i) [.app 0 0 [] none 0 0] rfl
    (fun _ => rfl) (fun _ => rfl) (fun _ _ => okHB_eq rfl) ⟨(0, none, 0), ⟨Nat.zero_le _, ⟨fun _ => ⟨rfl, rfl⟩, Nat.le_refl _⟩⟩, ?_, ⟨wkE_refl _, wkE_nil, wkH_nil _⟩⟩ ?_
  · (repeat' (first | exact trivial | refine And.intro (by with_reducible rfl) ?_ | (with_reducible exact wkC_refl _) | (with_reducible exact wkCs_refl _) | refine And.intro ?_ ?_))
    all_goals rfl
  rintro ⟨i, ob, oc⟩ ⟨hi, ok⟩
  (first | refine wX ?_ | exact wZ)
  refine brd_dec (fun h1 => ?_) (fun h1 => ?_)
  · obtain ⟨p, hp⟩ : ∃ p, l[i]? = some p := ⟨_, List.getElem?_eq_getElem (by omega)⟩
    have hsa : ia.isSome = true := ha (fun h => by rw [h] at hp; cases hp)
    have hsn : l.take (i + 1) = l.take i ++ [p] := by rw [List.take_add_one, hp]; rfl
    have hce : itemsC (l.take i) ++ itemC p = itemsC (l.take (i + 1)) := by rw [hsn, itemsC_snoc]
    (first | refine wX ?_ | exact wZ)
    refine DrawN.plan [0, 1, 2, 6, 7, 11, 12] [(3, 1), (4, 1), (5, 1), (8, 1), (9, 1), (10, 1), (13, 1), (14, 1), (15, 1), (16, 1), (17, 0)] [(18, 0), (19, 0)] (by decide +kernel) ?_
    (first | refine wX ?_ | exact wZ)
    refine Nd.mk ⟨hsa, by omega, by omega⟩ ?_
    (first | refine wX ?_ | exact wZ)
    refine LdN.fld (.bool p.isText) rfl (fun w hw => hw.1) (by rw [Int.toNat_natCast]; exact itemsC_get l i 0 (by decide) hp) ?_
    (first | refine wX ?_ | exact wZ)
    refine Nd.mk ⟨hsa, by omega, by omega⟩ ?_
    (first | refine wX ?_ | exact wZ)
    refine LdN.fld (.int .i64 p.int) rfl (fun w hw => hw.1) (by rw [Int.toNat_natCast]; exact itemsC_get l i 1 (by decide) hp) ?_
    (first | refine wX ?_ | exact wZ)
    refine Nd.mk ⟨hsa, by omega, by omega⟩ ?_
    (first | refine wX ?_ | exact wZ)
    refine LdN.fld (.string (bs p.text)) rfl (fun w hw => hw.1) (by rw [Int.toNat_natCast]; exact itemsC_get l i 2 (by decide) hp) ?_
    (first | refine wX ?_ | exact wZ)
    refine Nd.mk ⟨by omega, rfl, rfl⟩ ?_
    (conv => whnf)
    refine AppN.grow 1 (itemsC (l.take i)) _ rfl rfl ⟨by omega, ⟨by show (i + 1) * 32 ≤ _; omega, by show i + 1 < _; omega⟩, by decide⟩ fun b' cap' h3 h4 => ?_
    (first | refine wX ?_ | exact wZ)
    refine ⟨(i + 1, some b', cap'), ⟨by omega, ⟨(fun h => by cases h), h3⟩⟩, by show l.length - (i + 1) < l.length - i; omega, ?_, ⟨wkE_refl _, .inl ⟨rfl, rfl, hce, rfl, rfl, rfl⟩, wkH_nil _⟩⟩
    · (repeat' (first | exact trivial | refine And.intro (by with_reducible rfl) ?_ | (with_reducible exact wkC_refl _) | (with_reducible exact wkCs_refl _) | refine And.intro ?_ ?_))
      all_goals first | rfl | exact av_int (by first | omega | (rw [wrap_i64 (by omega)]; omega))
  · have hil : i = l.length := by omega
    subst hil
    rw [List.take_length]
    (first | refine wX ?_ | exact wZ)
    refine fin_p (fun w => SlAt (at0 ob) (l.length * 3) (itemsC l) w) ⟨ob, oc, rfl, fun h => ?_, fun _ h => h⟩ (fun w hw => hw.2.1)
    exact List.eq_nil_of_length_eq_zero (ok.1 h).1
end Go.Proofs.YtjkchonpnocffaaDoor

/-
  Contract: Size (document).
-/
namespace Go.Proofs.YtjkchonpnocffaaDoor
open Go.AX Go.RowKit Go.Pack
set_option maxRecDepth 20000

theorem sz_text {c : UInt8} (h : (isStr c || c == 120) = true) : sz c = 0 := by
  simp only [isStr, Bool.or_eq_true, beq_iff_eq] at h
  rcases h with (((h | h) | h) | h) | h <;> rw [h] <;> rfl
theorem RSize_r (form : List UInt8) (hs : form.length ≤ 100000) : ∀ H, SpecH Tryd.prog 46 (pvs [.string (bs form)]) H (Ret (sizeV (forms form)) H) := by
  refine pureC hm Tryd.func46 (by kernel_rfl) rfl rfl ?_
  (first | refine wX ?_ | exact wZ)
  refine SpecF.call (rread_c form hs) (fun w _ => trivial) fun v G hR => ?_
  cases hf : forms form with
  | none =>
    rw [hf] at hR
    obtain ⟨y, n, cap, rfl⟩ := hR
    (first | refine wX ?_ | exact wZ)
    rfl
  | some ds =>
    rw [hf] at hR
    obtain ⟨db, dcap, rfl, hdb, hG⟩ := hR
    obtain ⟨h50, hok⟩ := forms_ok hf
    (first | refine wX ?_ | exact wZ)
    refine LoopN.intro (Nat × Nat) (fun ⟨i, n⟩ => i ≤ ds.length ∧ sizeS (ds.drop i) n = sizeS ds 0 ∧ n ≤ 8000 * i)
      (fun ⟨i, n⟩ => mkS Tryd.f46.ntmps 0 [(4, .c (.v (.slice (at0 db) ds.length dcap))), (6, .c (.v (.int .i64 (n : Int)))), (7, .c (.v (.int .i64 (i : Int))))])
      (fun _ => [.fact G]) (fun ⟨i, _⟩ => ds.length - i) [] rfl
      (fun _ => rfl) (fun _ => rfl) (fun _ _ => okHB_eq rfl) ⟨(0, 0), ⟨Nat.zero_le _, rfl, Nat.zero_le _⟩, ?_, ?_⟩ ?_
    · (repeat' (first | exact trivial | refine And.intro (by with_reducible rfl) ?_ | (with_reducible exact wkC_refl _) | (with_reducible exact wkCs_refl _) | refine And.intro ?_ ?_))
      all_goals rfl
    · exact ⟨wkE_refl _, wkH_nil _⟩
    rintro ⟨i, n⟩ ⟨hid, hrun, hn⟩
    (first | refine wX ?_ | exact wZ)
    refine brd_dec (fun h1 => ?_) (fun h1 => ?_)
    · obtain ⟨d, hd⟩ : ∃ d, ds[i]? = some d := ⟨_, List.getElem?_eq_getElem (by omega)⟩
      have hdok := hok d (List.mem_of_getElem? hd)
      have hc1 : d.count ≤ 1000 := by
        have := hdok.2
        unfold CntOk at this
        omega
      obtain ⟨db, rfl⟩ : ∃ g, db = some g := by
        cases db with
        | none => rw [hdb rfl] at hd; cases hd
        | some g => exact ⟨g, rfl⟩
      have hdr : sizeS (ds.drop i) n = match szStep d n with | none => none | some m => sizeS (ds.drop (i + 1)) m := by
        rw [List.drop_eq_getElem_cons (by omega), (List.getElem?_eq_some_iff.1 hd).2]
        exact sizeS_cons _ _ _
      have hle : ∀ m, szStep d n = some m → m ≤ n + 8000 := fun m hm => szStep_le hc1 hm
      obtain ⟨sz0, hdz⟩ : ∃ x, x = szStep d n := ⟨_, rfl⟩
      rw [← hdz] at hdr hle
      unfold szStep at hdz
      have h64 : ((d.letter.toNat : Int) == 64) = (d.letter == 64) := u8_eq (n := 64) (by decide)
      have h119 : ((d.letter.toNat : Int) == 119) = (d.letter == 119) := u8_eq (n := 119) (by decide)
      have h85 : ((d.letter.toNat : Int) == 85) = (d.letter == 85) := u8_eq (n := 85) (by decide)
      have h72 : ((d.letter.toNat : Int) == 72) = (d.letter == 72) := u8_eq (n := 72) (by decide)
      have h120 : ((d.letter.toNat : Int) == 120) = (d.letter == 120) := u8_eq (n := 120) (by decide)
      (first | refine wX ?_ | exact wZ)
      refine Nd.mk ⟨rfl, by omega, by omega⟩ ?_
      (first | refine wX ?_ | exact wZ)
      refine LdN.agg (dirC d) rfl (fun w hw => hG w hw.1) rfl (fun j hj => by
        rw [Int.toNat_natCast]
        exact dirsC_get ds i j hj hd) ?_
      (first | refine wX ?_ | exact wZ)
      refine brd_eq (fun hk => ?_) (fun hk => ?_)
      · have hk1 : d.count ≠ -1 := by omega
        -- 1: the count; 1: it as an Int
        have hcn : cntS d 0 = 1 := by unfold cntS; first | rw [if_pos hk] | (rw [if_neg hk, if_neg hk1]; exact hT)
        rw [hcn] at hdz
        (first | refine wX ?_ | exact wZ)
        try refine brd_eq (fun hk => absurd hk hk1) (fun _ => ?_)
        try (first | refine wX ?_ | exact wZ)
        rw [h119]
        cases e119 : d.letter == 119 with
        | true =>
          have e64 : (d.letter == 64) = false := by rw [show d.letter = 119 by simpa using e119]; rfl
          rw [e64, if_neg (by decide), e119, if_pos (by simp)] at hdz
          (first | refine wX ?_ | exact wZ)
          rw [hdr, hdz] at hrun
          have hr2 : sizeS ds 0 = none := hrun.symm
          rw [show sizeV (some ds) = match sizeS ds 0 with | none => .tuple #[.int .i64 0, .int .i64 1] | some n => .tuple #[.int .i64 (n : Int), .int .i64 0] from rfl, hr2]
        | false =>
          (first | refine wX ?_ | exact wZ)
          rw [h85]
          cases e85 : d.letter == 85 with
          | true =>
            have e64 : (d.letter == 64) = false := by rw [show d.letter = 85 by simpa using e85]; rfl
            rw [e64, if_neg (by decide), e85, if_pos (by simp)] at hdz
            (first | refine wX ?_ | exact wZ)
            rw [hdr, hdz] at hrun
            have hr2 : sizeS ds 0 = none := hrun.symm
            rw [show sizeV (some ds) = match sizeS ds 0 with | none => .tuple #[.int .i64 0, .int .i64 1] | some n => .tuple #[.int .i64 (n : Int), .int .i64 0] from rfl, hr2]
          | false =>
            (first | refine wX ?_ | exact wZ)
            rw [h64]
            cases e64 : d.letter == 64 with
            | true =>
              rw [e64, if_pos rfl] at hdz
              (first | refine wX ?_ | exact wZ)
              -- (max 0 d.count).toNat: the size now; hdz: that it is; by unfold maxI; split <;> omega: the number's spelling
              refine ⟨(i + 1, (max 0 d.count).toNat), ⟨by omega, by rw [← hrun, hdr, hdz], by omega⟩, by show ds.length - (i + 1) < ds.length - i; omega, ?_, ?_⟩
              · (repeat' (first | exact trivial | refine And.intro (by with_reducible rfl) ?_ | (with_reducible exact wkC_refl _) | (with_reducible exact wkCs_refl _) | refine And.intro ?_ ?_))
                all_goals first | rfl | exact av_int (by omega) | exact av_int (by rw [wrap_i64 (by omega)]; omega) | exact av_int (by unfold maxI; split <;> omega)
              · exact ⟨wkE_refl _, wkH_nil _⟩
            | false =>
              rw [e64, if_neg (show ¬ false = true by decide), e119, e85, if_neg (by simp [hk1])] at hdz
              (first | refine wX ?_ | exact wZ)
              rw [h72]
              cases e72 : d.letter == 72 with
              | true =>
                rw [e72, if_pos rfl] at hdz
                have ht : Int.tdiv (1 + 1) 2 = (((1 + 1) / 2 : Nat) : Int) := by first | exact (Int.ofNat_tdiv (1 + 1) 2).symm | (rw [hTc]; exact (Int.ofNat_tdiv (1 + 1) 2).symm)
                (first | refine wX ?_ | exact wZ)
                -- (n + (1 + 1) / 2): the size now; hdz: that it is; by rw [wrap_i64 (x := 1 + 1) (by omega), ht, wrap_i64 (x := (((1 + 1) / 2 : Nat) : Int)) (by omega), wrap_i64 (by omega)]; omega: the number's spelling
                refine ⟨(i + 1, (n + (1 + 1) / 2)), ⟨by omega, by rw [← hrun, hdr, hdz], by omega⟩, by show ds.length - (i + 1) < ds.length - i; omega, ?_, ?_⟩
                · (repeat' (first | exact trivial | refine And.intro (by with_reducible rfl) ?_ | (with_reducible exact wkC_refl _) | (with_reducible exact wkCs_refl _) | refine And.intro ?_ ?_))
                  all_goals first | rfl | exact av_int (by omega) | exact av_int (by rw [wrap_i64 (by omega)]; omega) | exact av_int (by rw [wrap_i64 (x := 1 + 1) (by omega), ht, wrap_i64 (x := (((1 + 1) / 2 : Nat) : Int)) (by omega), wrap_i64 (by omega)]; omega)
                · exact ⟨wkE_refl _, wkH_nil _⟩
              | false =>
                rw [e72, if_neg (by decide)] at hdz
                (first | refine wX ?_ | exact wZ)
                refine call1 (size_r d.letter _) ?_
                by_cases hsx : (isStr d.letter || d.letter == 120) = true
                · rw [if_pos hsx] at hdz
                  have hz0 : sz d.letter = 0 := sz_text hsx
                  rw [hz0]
                  (first | refine wX ?_ | exact wZ)
                  -- (n + 1): the size now; hdz: that it is; by rw [show maxI 1 (((0 : Nat) : Int)) = 1 from rfl, Int.mul_one, wrap_i64 (x := 1) (by omega), wrap_i64 (by omega)]; omega: the number's spelling
                  refine ⟨(i + 1, (n + 1)), ⟨by omega, by rw [← hrun, hdr, hdz], by omega⟩, by show ds.length - (i + 1) < ds.length - i; omega, ?_, ?_⟩
                  · (repeat' (first | exact trivial | refine And.intro (by with_reducible rfl) ?_ | (with_reducible exact wkC_refl _) | (with_reducible exact wkCs_refl _) | refine And.intro ?_ ?_))
                    all_goals first | rfl | exact av_int (by omega) | exact av_int (by rw [wrap_i64 (by omega)]; omega) | exact av_int (by rw [show maxI 1 (((0 : Nat) : Int)) = 1 from rfl, Int.mul_one, wrap_i64 (x := 1) (by omega), wrap_i64 (by omega)]; omega)
                  · exact ⟨wkE_refl _, wkH_nil _⟩
                · rw [if_neg hsx] at hdz
                  rw [Bool.or_eq_true, not_or] at hsx
                  have hz1 : sz d.letter ≠ 0 := by
                    rcases letter_num hdok.1 (by simpa using hsx.1) (by unfold isPl; rw [e64]; simpa using hsx.2) with h | h | h
                    · rw [h] at e119; exact absurd e119 (by decide)
                    · rw [h] at e85; exact absurd e85 (by decide)
                    · exact h
                  have hm1 : maxI 1 ((sz d.letter : Nat) : Int) = ((sz d.letter : Nat) : Int) := by unfold maxI; split <;> omega
                  have hm8 : 1 * sz d.letter ≤ 1000 * 8 := Nat.mul_le_mul (by omega) (sz_le8 _)
                  have hmi : 1 * ((sz d.letter : Nat) : Int) = ((1 * sz d.letter : Nat) : Int) := by first | exact (Int.natCast_mul 1 _).symm | (rw [hTc]; exact (Int.natCast_mul 1 _).symm)
                  (first | refine wX ?_ | exact wZ)
                  rw [hm1, hmi]
                  (first | refine wX ?_ | exact wZ)
                  -- (n + 1 * sz d.letter): the size now; hdz: that it is; by rw [wrap_i64 (x := ((1 * sz d.letter : Nat) : Int)) (by omega), wrap_i64 (by omega)]; omega: the number's spelling
                  refine ⟨(i + 1, (n + 1 * sz d.letter)), ⟨by omega, by rw [← hrun, hdr, hdz], by omega⟩, by show ds.length - (i + 1) < ds.length - i; omega, ?_, ?_⟩
                  · (repeat' (first | exact trivial | refine And.intro (by with_reducible rfl) ?_ | (with_reducible exact wkC_refl _) | (with_reducible exact wkCs_refl _) | refine And.intro ?_ ?_))
                    all_goals first | rfl | exact av_int (by omega) | exact av_int (by rw [wrap_i64 (by omega)]; omega) | exact av_int (by rw [wrap_i64 (x := ((1 * sz d.letter : Nat) : Int)) (by omega), wrap_i64 (by omega)]; omega)
                  · exact ⟨wkE_refl _, wkH_nil _⟩
      · by_cases hk1 : d.count = -1
        · have e64 : (d.letter == 64) = false := by
            have := hdok.2
            unfold CntOk at this
            rcases this with h | h | h
            · simpa using h.2.2
            · omega
            · omega
          rw [e64, if_neg (by decide), if_pos (by simp [hk1])] at hdz
          (first | refine wX ?_ | exact wZ)
          refine brd_eq (fun _ => ?_) (fun h => absurd hk1 h)
          (first | refine wX ?_ | exact wZ)
          rw [hdr, hdz] at hrun
          have hr2 : sizeS ds 0 = none := hrun.symm
          rw [show sizeV (some ds) = match sizeS ds 0 with | none => .tuple #[.int .i64 0, .int .i64 1] | some n => .tuple #[.int .i64 (n : Int), .int .i64 0] from rfl, hr2]
        · obtain ⟨T, hT⟩ : ∃ T : Nat, d.count.toNat = T := ⟨_, rfl⟩
          have hTc : d.count = (T : Int) := by
            have := hdok.2
            unfold CntOk at this
            omega
          have hT1 : T ≤ 1000 := by omega
          -- T: the count; d.count: it as an Int
          have hcn : cntS d 0 = T := by unfold cntS; first | rw [if_pos hk] | (rw [if_neg hk, if_neg hk1]; exact hT)
          rw [hcn] at hdz
          (first | refine wX ?_ | exact wZ)
          try refine brd_eq (fun hk => absurd hk hk1) (fun _ => ?_)
          try (first | refine wX ?_ | exact wZ)
          rw [h119]
          cases e119 : d.letter == 119 with
          | true =>
            have e64 : (d.letter == 64) = false := by rw [show d.letter = 119 by simpa using e119]; rfl
            rw [e64, if_neg (by decide), e119, if_pos (by simp)] at hdz
            (first | refine wX ?_ | exact wZ)
            rw [hdr, hdz] at hrun
            have hr2 : sizeS ds 0 = none := hrun.symm
            rw [show sizeV (some ds) = match sizeS ds 0 with | none => .tuple #[.int .i64 0, .int .i64 1] | some n => .tuple #[.int .i64 (n : Int), .int .i64 0] from rfl, hr2]
          | false =>
            (first | refine wX ?_ | exact wZ)
            rw [h85]
            cases e85 : d.letter == 85 with
            | true =>
              have e64 : (d.letter == 64) = false := by rw [show d.letter = 85 by simpa using e85]; rfl
              rw [e64, if_neg (by decide), e85, if_pos (by simp)] at hdz
              (first | refine wX ?_ | exact wZ)
              rw [hdr, hdz] at hrun
              have hr2 : sizeS ds 0 = none := hrun.symm
              rw [show sizeV (some ds) = match sizeS ds 0 with | none => .tuple #[.int .i64 0, .int .i64 1] | some n => .tuple #[.int .i64 (n : Int), .int .i64 0] from rfl, hr2]
            | false =>
              (first | refine wX ?_ | exact wZ)
              rw [h64]
              cases e64 : d.letter == 64 with
              | true =>
                rw [e64, if_pos rfl] at hdz
                (first | refine wX ?_ | exact wZ)
                -- (max 0 d.count).toNat: the size now; hdz: that it is; by unfold maxI; split <;> omega: the number's spelling
                refine ⟨(i + 1, (max 0 d.count).toNat), ⟨by omega, by rw [← hrun, hdr, hdz], by omega⟩, by show ds.length - (i + 1) < ds.length - i; omega, ?_, ?_⟩
                · (repeat' (first | exact trivial | refine And.intro (by with_reducible rfl) ?_ | (with_reducible exact wkC_refl _) | (with_reducible exact wkCs_refl _) | refine And.intro ?_ ?_))
                  all_goals first | rfl | exact av_int (by omega) | exact av_int (by rw [wrap_i64 (by omega)]; omega) | exact av_int (by unfold maxI; split <;> omega)
                · exact ⟨wkE_refl _, wkH_nil _⟩
              | false =>
                rw [e64, if_neg (show ¬ false = true by decide), e119, e85, if_neg (by simp [hk1])] at hdz
                (first | refine wX ?_ | exact wZ)
                rw [h72]
                cases e72 : d.letter == 72 with
                | true =>
                  rw [e72, if_pos rfl] at hdz
                  have ht : Int.tdiv (d.count + 1) 2 = (((T + 1) / 2 : Nat) : Int) := by first | exact (Int.ofNat_tdiv (T + 1) 2).symm | (rw [hTc]; exact (Int.ofNat_tdiv (T + 1) 2).symm)
                  (first | refine wX ?_ | exact wZ)
                  -- (n + (T + 1) / 2): the size now; hdz: that it is; by rw [wrap_i64 (x := d.count + 1) (by omega), ht, wrap_i64 (x := (((T + 1) / 2 : Nat) : Int)) (by omega), wrap_i64 (by omega)]; omega: the number's spelling
                  refine ⟨(i + 1, (n + (T + 1) / 2)), ⟨by omega, by rw [← hrun, hdr, hdz], by omega⟩, by show ds.length - (i + 1) < ds.length - i; omega, ?_, ?_⟩
                  · (repeat' (first | exact trivial | refine And.intro (by with_reducible rfl) ?_ | (with_reducible exact wkC_refl _) | (with_reducible exact wkCs_refl _) | refine And.intro ?_ ?_))
                    all_goals first | rfl | exact av_int (by omega) | exact av_int (by rw [wrap_i64 (by omega)]; omega) | exact av_int (by rw [wrap_i64 (x := d.count + 1) (by omega), ht, wrap_i64 (x := (((T + 1) / 2 : Nat) : Int)) (by omega), wrap_i64 (by omega)]; omega)
                  · exact ⟨wkE_refl _, wkH_nil _⟩
                | false =>
                  rw [e72, if_neg (by decide)] at hdz
                  (first | refine wX ?_ | exact wZ)
                  refine call1 (size_r d.letter _) ?_
                  by_cases hsx : (isStr d.letter || d.letter == 120) = true
                  · rw [if_pos hsx] at hdz
                    have hz0 : sz d.letter = 0 := sz_text hsx
                    rw [hz0]
                    (first | refine wX ?_ | exact wZ)
                    -- (n + T): the size now; hdz: that it is; by rw [show maxI 1 (((0 : Nat) : Int)) = 1 from rfl, Int.mul_one, wrap_i64 (x := d.count) (by omega), wrap_i64 (by omega)]; omega: the number's spelling
                    refine ⟨(i + 1, (n + T)), ⟨by omega, by rw [← hrun, hdr, hdz], by omega⟩, by show ds.length - (i + 1) < ds.length - i; omega, ?_, ?_⟩
                    · (repeat' (first | exact trivial | refine And.intro (by with_reducible rfl) ?_ | (with_reducible exact wkC_refl _) | (with_reducible exact wkCs_refl _) | refine And.intro ?_ ?_))
                      all_goals first | rfl | exact av_int (by omega) | exact av_int (by rw [wrap_i64 (by omega)]; omega) | exact av_int (by rw [show maxI 1 (((0 : Nat) : Int)) = 1 from rfl, Int.mul_one, wrap_i64 (x := d.count) (by omega), wrap_i64 (by omega)]; omega)
                    · exact ⟨wkE_refl _, wkH_nil _⟩
                  · rw [if_neg hsx] at hdz
                    rw [Bool.or_eq_true, not_or] at hsx
                    have hz1 : sz d.letter ≠ 0 := by
                      rcases letter_num hdok.1 (by simpa using hsx.1) (by unfold isPl; rw [e64]; simpa using hsx.2) with h | h | h
                      · rw [h] at e119; exact absurd e119 (by decide)
                      · rw [h] at e85; exact absurd e85 (by decide)
                      · exact h
                    have hm1 : maxI 1 ((sz d.letter : Nat) : Int) = ((sz d.letter : Nat) : Int) := by unfold maxI; split <;> omega
                    have hm8 : T * sz d.letter ≤ 1000 * 8 := Nat.mul_le_mul (by omega) (sz_le8 _)
                    have hmi : d.count * ((sz d.letter : Nat) : Int) = ((T * sz d.letter : Nat) : Int) := by first | exact (Int.natCast_mul T _).symm | (rw [hTc]; exact (Int.natCast_mul T _).symm)
                    (first | refine wX ?_ | exact wZ)
                    rw [hm1, hmi]
                    (first | refine wX ?_ | exact wZ)
                    -- (n + T * sz d.letter): the size now; hdz: that it is; by rw [wrap_i64 (x := ((T * sz d.letter : Nat) : Int)) (by omega), wrap_i64 (by omega)]; omega: the number's spelling
                    refine ⟨(i + 1, (n + T * sz d.letter)), ⟨by omega, by rw [← hrun, hdr, hdz], by omega⟩, by show ds.length - (i + 1) < ds.length - i; omega, ?_, ?_⟩
                    · (repeat' (first | exact trivial | refine And.intro (by with_reducible rfl) ?_ | (with_reducible exact wkC_refl _) | (with_reducible exact wkCs_refl _) | refine And.intro ?_ ?_))
                      all_goals first | rfl | exact av_int (by omega) | exact av_int (by rw [wrap_i64 (by omega)]; omega) | exact av_int (by rw [wrap_i64 (x := ((T * sz d.letter : Nat) : Int)) (by omega), wrap_i64 (by omega)]; omega)
                    · exact ⟨wkE_refl _, wkH_nil _⟩
    · have hi : i = ds.length := by omega
      subst hi
      rw [List.drop_length] at hrun
      have hr2 : sizeS ds 0 = some n := hrun.symm
      rw [show sizeV (some ds) = match sizeS ds 0 with | none => .tuple #[.int .i64 0, .int .i64 1] | some n => .tuple #[.int .i64 (n : Int), .int .i64 0] from rfl, hr2]
      (first | refine wX ?_ | exact wZ)
end Go.Proofs.YtjkchonpnocffaaDoor
