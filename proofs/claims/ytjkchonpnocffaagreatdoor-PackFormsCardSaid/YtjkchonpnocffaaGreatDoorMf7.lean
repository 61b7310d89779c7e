/-
  Lemmas (C28 Ax32 Ax33 C29 D5 P4 P5 P6 P7 P8 P18 P19 Ax35 J1 D6 P16 D7).
-/
import Derived.Lib.AppendZerosOnto
import Derived.Test.YtjkchonpnocffaaGreatDoorMf6
/-
  Contracts: hex digits and texts are read (program).
-/
namespace Go.Proofs.YtjkchonpnocffaaGreatDoor
open Go.AX Go.RowKit Go.Pack
set_option maxRecDepth 20000

theorem hexu_c (ub : Nat) (s : List UInt8) (a : Nat) (out : Option Nat) (len cap : Nat) (n : Int) (m : Nat) (hn : n = -1 ∧ m = 2 * (s.length - a) ∨ n = (m : Int) ∧ m ≤ 1000) (ha : a ≤ s.length) (hs : s.length ≤ 1000000) :
    SpecH Tryz.prog 37 [.c (.v (.pointer (some ⟨ub, 0, none⟩))), .c (.v (.int .i64 n))] [unE ub s a out len cap]
      (RetG (ι := Unit) (fun _ => True) (fun _ => .string (bs ((hex ((s.drop a).take ((m + 1) / 2))).take m))) fun _ => [unE ub s (a + ((s.drop a).take ((m + 1) / 2)).length) out len cap]) := by
  refine ownC hm Tryz.func37 (by kernel_rfl) rfl rfl (fun _ _ => okHB_eq rfl) (fun _ _ => Nat.le_refl _) ?_
  obtain ⟨b, hb⟩ : ∃ b, (s.drop a).take ((m + 1) / 2) = b := ⟨_, rfl⟩
  have hbl : b.length = min ((m + 1) / 2) (s.length - a) := by rw [← hb, List.length_take, List.length_drop]
  have hbt : (s.drop a).take b.length = b := by rw [hbl, ← hb, ← List.length_drop, ← List.take_eq_take_min]
  rw [hb]
  (first | refine wX ?_ | exact wZ)
  refine brd_eq (fun h1 => ?_) (fun h1 => ?_)
  · have hm2 : m = 2 * (s.length - a) := by omega
    (first | refine wX ?_ | exact wZ)
    refine call1 (left_c ub s a out len cap ha hs _ (fun w hw => hw.1)) ?_
    have hnm : (2 : Int) * ((s.length - a : Nat) : Int) = (m : Int) := by omega
    -- (2 * ((s.length - a : Nat) : Int)): the digits as the number is spelled
    (first | refine wX ?_ | exact wZ)
    refine call1 (left_c ub s a out len cap ha hs _ (fun w hw => hw.1)) ?_
    (first | refine wX ?_ | exact wZ)
    have hmin : minI (IntKind.i64.wrap (Int.tdiv (IntKind.i64.wrap ((2 * ((s.length - a : Nat) : Int)) + 1)) 2)) ((s.length - a : Nat) : Int) = ((b.length : Nat) : Int) := by
      rw [wrap_i64 (x := (2 * ((s.length - a : Nat) : Int)) + 1) (by omega), show Int.tdiv ((2 * ((s.length - a : Nat) : Int)) + 1) 2 = (((m + 1) / 2 : Nat) : Int) by rw [hnm]; exact (Int.ofNat_tdiv (m + 1) 2).symm, wrap_i64 (by omega), hbl]
      unfold minI
      split <;> omega
    rw [hmin]
    refine callG (cut_c ub s a b.length out len cap (by omega) hs) [0] rfl ⟨rfl, trivial⟩ rfl fun _ _ => ?_
    rw [hbt]
    (first | refine wX ?_ | exact wZ)
    refine call1 (Hex_c b (by omega) _) ?_
    (first | refine wX ?_ | exact wZ)
    refine ReadW.sl_h (min m (hex b).length) rfl Tryz.underlying9 rfl rfl ⟨by rw [bs_size]; unfold minI; split <;> omega, Nat.min_le_right _ _⟩ ?_
    rw [← List.take_eq_take_min]
    (first | refine wX ?_ | exact wZ)
    exact ⟨(), trivial, rfl, wkE_refl _, wkH_nil _⟩
  · have hnm : n = (m : Int) := by omega
    -- n: the digits as the number is spelled
    (first | refine wX ?_ | exact wZ)
    refine call1 (left_c ub s a out len cap ha hs _ (fun w hw => hw.1)) ?_
    (first | refine wX ?_ | exact wZ)
    have hmin : minI (IntKind.i64.wrap (Int.tdiv (IntKind.i64.wrap (n + 1)) 2)) ((s.length - a : Nat) : Int) = ((b.length : Nat) : Int) := by
      rw [wrap_i64 (x := n + 1) (by omega), show Int.tdiv (n + 1) 2 = (((m + 1) / 2 : Nat) : Int) by rw [hnm]; exact (Int.ofNat_tdiv (m + 1) 2).symm, wrap_i64 (by omega), hbl]
      unfold minI
      split <;> omega
    rw [hmin]
    refine callG (cut_c ub s a b.length out len cap (by omega) hs) [0] rfl ⟨rfl, trivial⟩ rfl fun _ _ => ?_
    rw [hbt]
    (first | refine wX ?_ | exact wZ)
    refine call1 (Hex_c b (by omega) _) ?_
    (first | refine wX ?_ | exact wZ)
    refine ReadW.sl_h (min m (hex b).length) rfl Tryz.underlying9 rfl rfl ⟨by rw [bs_size]; unfold minI; split <;> omega, Nat.min_le_right _ _⟩ ?_
    rw [← List.take_eq_take_min]
    (first | refine wX ?_ | exact wZ)
    exact ⟨(), trivial, rfl, wkE_refl _, wkH_nil _⟩
theorem tw_lt {l : List UInt8} (h : l.contains 0 = true) : (l.takeWhile (· != 0)).length + 1 ≤ l.length := by
  induction l with
  | nil => cases h
  | cons a r ih =>
    by_cases ha : a = 0
    · subst ha; simp
    · rw [List.takeWhile_cons_of_pos (by simpa using ha)]
      have hc : r.contains 0 = true := by
        rw [List.contains_cons, show ((0 : UInt8) == a) = false from beq_eq_false_iff_ne.2 (Ne.symm ha), Bool.false_or] at h
        exact h
      have := ih hc
      simp only [List.length_cons]
      omega
theorem textu_c (d : Dir) (ub : Nat) (s : List UInt8) (a : Nat) (out : Option Nat) (len cap : Nat) (hc : CntOk d.letter d.count) (ha : a ≤ s.length) (hs : s.length ≤ 1000000) :
    SpecH Tryz.prog 16 [.c (.v (.pointer (some ⟨ub, 0, none⟩))), .c (.v (dirV d))] [.fact UtfF, unE ub s a out len cap]
      (RetG (ι := Unit) (fun _ => True) (fun _ => .string (bs (cutS d (s.drop a)).1)) fun _ => [.fact UtfF, unE ub s (a + (cutS d (s.drop a)).2) out len cap]) := by
  refine ownC hm Tryz.func16 (by kernel_rfl) rfl rfl (fun _ _ => okHB_eq rfl) (fun _ _ => Nat.le_refl _) ?_
  have h72 : ((d.letter.toNat : Int) == 72) = (d.letter == 72) := u8_eq (n := 72) (by decide)
  have h90 : ((d.letter.toNat : Int) == 90) = (d.letter == 90) := u8_eq (n := 90) (by decide)
  have h65 : ((d.letter.toNat : Int) == 65) = (d.letter == 65) := u8_eq (n := 65) (by decide)
  have hzs := bs_size s
  (first | refine wX ?_ | exact wZ)
  refine brd_eq (fun hk => ?_) (fun hk => ?_)
  · have hc2 : ∀ n, cntS d n = 1 := fun n => by unfold cntS; rw [if_pos hk]
    (first | refine wX ?_ | exact wZ)
    rw [h72]
    cases e72 : d.letter == 72 with
    | true =>
      -- 1: the digits; 1: as the number is spelled; (.inr ⟨rfl, by decide⟩): that it is so
      (first | refine wX ?_ | exact wZ)
      refine callG (hexu_c ub s a out len cap (1) (1) (.inr ⟨rfl, by decide⟩) ha hs) [1] rfl ⟨rfl, trivial⟩ rfl fun _ _ => ?_
      have hcut : cutS d (s.drop a) = ((hex ((s.drop a).take ((1 + 1) / 2))).take (1), ((s.drop a).take ((1 + 1) / 2)).length) := by
        unfold cutS
        rw [if_pos e72, List.length_drop, hc2]
      (first | refine wX ?_ | exact wZ)
      exact ⟨(), trivial, by rw [hcut], by rw [hcut]; exact ⟨wkE_refl _, wkE_refl _, wkH_nil _⟩⟩
    | false =>
      have hcn := hc2 (s.drop a).length
      (first | refine wX ?_ | exact wZ)
      -- 1: the count; 1: as it is spelled; (fun h => absurd h.1 (by omega)): of cutS
      obtain ⟨b, hb⟩ : ∃ b, (s.drop a).take (1) = b := ⟨_, rfl⟩
      have hbl : b.length = min (1) (s.length - a) := by rw [← hb, List.length_take, List.length_drop]
      have hbt : (s.drop a).take b.length = b := by rw [hbl, ← hb, ← List.length_drop, ← List.take_eq_take_min]
      have hcut : cutS d (s.drop a) = (if d.letter == 65 then trimA b else if d.letter == 90 then b.takeWhile (· != 0) else b, b.length) := by
        unfold cutS
        rw [if_neg (by rw [e72]; decide), if_neg (fun h => absurd h.1 (by omega)), hcn, hb]
      -- the bytes b are cut (1: as the count is spelled), trimmed
      (first | refine wX ?_ | exact wZ)
      refine call1 (left_c ub s a out len cap ha hs _ (fun w hw => hw.2.1)) ?_
      (first | refine wX ?_ | exact wZ)
      have hmin : minI (1) ((s.length - a : Nat) : Int) = ((b.length : Nat) : Int) := by
        rw [hbl]
        unfold minI
        split <;> omega
      rw [hmin]
      refine callG (cut_c ub s a b.length out len cap (by omega) hs) [1] rfl ⟨rfl, trivial⟩ rfl fun _ _ => ?_
      rw [hbt]
      (first | refine wX ?_ | exact wZ)
      rw [h65]
      cases e65 : d.letter == 65 with
      | true =>
        rw [e65, if_pos rfl] at hcut
        (first | refine wX ?_ | exact wZ)
        refine call1 (TrimZ_c b (by omega) _) ?_
        (first | refine wX ?_ | exact wZ)
        exact ⟨(), trivial, by rw [hcut], by rw [hcut]; exact ⟨wkE_refl _, wkE_refl _, wkH_nil _⟩⟩
      | false =>
        rw [e65, if_neg (by decide)] at hcut
        (first | refine wX ?_ | exact wZ)
        rw [h90]
        cases e90 : d.letter == 90 with
        | true =>
          rw [e90, if_pos rfl] at hcut
          (first | refine wX ?_ | exact wZ)
          refine call1 (Cut_c b [0] (by omega) _ (fun w hw => hw.1.1)) ?_
          rw [cut0]
          (first | refine wX ?_ | exact wZ)
          exact ⟨(), trivial, by rw [hcut], by rw [hcut]; exact ⟨wkE_refl _, wkE_refl _, wkH_nil _⟩⟩
        | false =>
          rw [e90, if_neg (by decide)] at hcut
          (first | refine wX ?_ | exact wZ)
          exact ⟨(), trivial, by rw [hcut], by rw [hcut]; exact ⟨wkE_refl _, wkE_refl _, wkH_nil _⟩⟩
  · by_cases hk1 : d.count = -1
    · have hc2 : ∀ n, cntS d n = n := fun n => by unfold cntS; rw [if_neg hk, if_pos hk1]
      (first | refine wX ?_ | exact wZ)
      rw [h72]
      cases e72 : d.letter == 72 with
      | true =>
        -- (2 * (s.length - a)): the digits; d.count: as the number is spelled; (.inl ⟨hk1, rfl⟩): that it is so
        (first | refine wX ?_ | exact wZ)
        refine callG (hexu_c ub s a out len cap (d.count) ((2 * (s.length - a))) (.inl ⟨hk1, rfl⟩) ha hs) [1] rfl ⟨rfl, trivial⟩ rfl fun _ _ => ?_
        have hcut : cutS d (s.drop a) = ((hex ((s.drop a).take (((2 * (s.length - a)) + 1) / 2))).take ((2 * (s.length - a))), ((s.drop a).take (((2 * (s.length - a)) + 1) / 2)).length) := by
          unfold cutS
          rw [if_pos e72, List.length_drop, hc2]
        (first | refine wX ?_ | exact wZ)
        exact ⟨(), trivial, by rw [hcut], by rw [hcut]; exact ⟨wkE_refl _, wkE_refl _, wkH_nil _⟩⟩
      | false =>
        have hcn := hc2 (s.drop a).length
        rw [List.length_drop] at hcn
        have hdl := List.length_drop (l := s) (i := a)
        (first | refine wX ?_ | exact wZ)
        refine brd_eq (fun _ => ?_) (fun h => absurd hk1 h)
        (first | refine wX ?_ | exact wZ)
        refine call1 (left_c ub s a out len cap ha hs _ (fun w hw => hw.2.1)) ?_
        (first | refine wX ?_ | exact wZ)
        refine LdN.one (a := some ⟨ub, 0, none⟩) (q := 0) (.string (bs s)) rfl (fun w hw => hw.2.1) rfl ?_
        (first | refine wX ?_ | exact wZ)
        refine LdN.one (a := some ⟨ub, 0, none⟩) (q := 1) (.int .i64 (a : Int)) rfl (fun w hw => hw.2.1) rfl ?_
        (first | refine wX ?_ | exact wZ)
        refine ReadW.sl_l a rfl Tryz.underlying9 rfl rfl ⟨rfl, ha⟩ ?_
        (first | refine wX ?_ | exact wZ)
        refine callQ (IndexByte_c (s.drop a) 0 _) ?_
        rw [index0]
        by_cases hz : (s.drop a).contains 0 = true
        · rw [if_pos hz]
          obtain ⟨t, ht⟩ : ∃ t, (s.drop a).takeWhile (· != 0) = t := ⟨_, rfl⟩
          have htl : t.length + 1 ≤ s.length - a := by
            rw [← ht, ← hdl]
            exact tw_lt hz
          rw [ht]
          (first | refine wX ?_ | exact wZ)
          rw [h90]
          cases e90 : d.letter == 90 with
          | true =>
            have hcut : cutS d (s.drop a) = (t, t.length + 1) := by
              unfold cutS
              rw [if_neg (by rw [e72]; decide), if_pos ⟨hk1, e90, hz⟩, ht]
            have htk : ((s.drop a).take (t.length + 1)).take t.length = t := by rw [List.take_take, Nat.min_eq_left (by omega), ← ht]; exact take0 _
            have htk2 : ((s.drop a).take (t.length + 1)).length = t.length + 1 := by rw [List.length_take]; omega
            (first | refine wX ?_ | exact wZ)
            rw [show IntKind.i64.wrap ((t.length : Int) + 1) = ((t.length + 1 : Nat) : Int) by rw [wrap_i64 (by omega)]; omega]
            refine callG (cut_c ub s a (t.length + 1) out len cap (by omega) hs) [1] rfl ⟨rfl, trivial⟩ rfl fun _ _ => ?_
            (first | refine wX ?_ | exact wZ)
            refine ReadW.sl_h t.length rfl Tryz.underlying9 rfl rfl ⟨rfl, by omega⟩ ?_
            rw [htk]
            (first | refine wX ?_ | exact wZ)
            exact ⟨(), trivial, by rw [hcut], by rw [hcut]; exact ⟨wkE_refl _, wkE_refl _, wkH_nil _⟩⟩
          | false =>
            have hn3 : ¬ (d.count = -1 ∧ (d.letter == 90) = true ∧ (s.drop a).contains 0 = true) := fun h => by rw [e90] at h; exact absurd h.2.1 (by decide)
            (first | refine wX ?_ | exact wZ)
            obtain ⟨b, hb⟩ : ∃ b, (s.drop a).take (s.length - a) = b := ⟨_, rfl⟩
            have hbl : b.length = min (s.length - a) (s.length - a) := by rw [← hb, List.length_take, List.length_drop]
            have hbt : (s.drop a).take b.length = b := by rw [hbl, ← hb, ← List.length_drop, ← List.take_eq_take_min]
            have hcut : cutS d (s.drop a) = (if d.letter == 65 then trimA b else if d.letter == 90 then b.takeWhile (· != 0) else b, b.length) := by
              unfold cutS
              rw [if_neg (by rw [e72]; decide), if_neg hn3, hdl, hcn, hb]
            rw [e90, if_neg (show ¬ false = true by decide)] at hcut
            -- as tail, but Z is known
            (first | refine wX ?_ | exact wZ)
            refine call1 (left_c ub s a out len cap ha hs _ (fun w hw => hw.2.1)) ?_
            (first | refine wX ?_ | exact wZ)
            have hmin : minI ((s.length - a : Nat) : Int) ((s.length - a : Nat) : Int) = ((b.length : Nat) : Int) := by
              rw [hbl]
              unfold minI
              split <;> omega
            rw [hmin]
            refine callG (cut_c ub s a b.length out len cap (by omega) hs) [1] rfl ⟨rfl, trivial⟩ rfl fun _ _ => ?_
            rw [hbt]
            (first | refine wX ?_ | exact wZ)
            rw [h65]
            cases e65 : d.letter == 65 with
            | true =>
              rw [e65, if_pos rfl] at hcut
              (first | refine wX ?_ | exact wZ)
              refine call1 (TrimZ_c b (by omega) _) ?_
              (first | refine wX ?_ | exact wZ)
              exact ⟨(), trivial, by rw [hcut], by rw [hcut]; exact ⟨wkE_refl _, wkE_refl _, wkH_nil _⟩⟩
            | false =>
              rw [e65, if_neg (by decide)] at hcut
              (first | refine wX ?_ | exact wZ)
              rw [h90, e90]
              (first | refine wX ?_ | exact wZ); exact ⟨(), trivial, by rw [hcut], by rw [hcut]; exact ⟨wkE_refl _, wkE_refl _, wkH_nil _⟩⟩
        · rw [if_neg hz]
          have hn3 : ¬ (d.count = -1 ∧ (d.letter == 90) = true ∧ (s.drop a).contains 0 = true) := fun h => hz h.2.2
          (first | refine wX ?_ | exact wZ)
          rw [h90]
          cases e90 : d.letter == 90 with
          | true =>
            (first | refine wX ?_ | exact wZ)
            obtain ⟨b, hb⟩ : ∃ b, (s.drop a).take (s.length - a) = b := ⟨_, rfl⟩
            have hbl : b.length = min (s.length - a) (s.length - a) := by rw [← hb, List.length_take, List.length_drop]
            have hbt : (s.drop a).take b.length = b := by rw [hbl, ← hb, ← List.length_drop, ← List.take_eq_take_min]
            have hcut : cutS d (s.drop a) = (if d.letter == 65 then trimA b else if d.letter == 90 then b.takeWhile (· != 0) else b, b.length) := by
              unfold cutS
              rw [if_neg (by rw [e72]; decide), if_neg hn3, hdl, hcn, hb]
            rw [e90, if_pos (show true = true from rfl)] at hcut
            -- as tail, but Z is known
            (first | refine wX ?_ | exact wZ)
            refine call1 (left_c ub s a out len cap ha hs _ (fun w hw => hw.2.1)) ?_
            (first | refine wX ?_ | exact wZ)
            have hmin : minI ((s.length - a : Nat) : Int) ((s.length - a : Nat) : Int) = ((b.length : Nat) : Int) := by
              rw [hbl]
              unfold minI
              split <;> omega
            rw [hmin]
            refine callG (cut_c ub s a b.length out len cap (by omega) hs) [1] rfl ⟨rfl, trivial⟩ rfl fun _ _ => ?_
            rw [hbt]
            (first | refine wX ?_ | exact wZ)
            rw [h65]
            cases e65 : d.letter == 65 with
            | true =>
              rw [e65, if_pos rfl] at hcut
              (first | refine wX ?_ | exact wZ)
              refine call1 (TrimZ_c b (by omega) _) ?_
              (first | refine wX ?_ | exact wZ)
              exact ⟨(), trivial, by rw [hcut], by rw [hcut]; exact ⟨wkE_refl _, wkE_refl _, wkH_nil _⟩⟩
            | false =>
              rw [e65, if_neg (by decide)] at hcut
              (first | refine wX ?_ | exact wZ)
              rw [h90, e90]
              (first | refine wX ?_ | exact wZ); refine call1 (Cut_c b [0] (by omega) _ (fun w hw => hw.1.1)) ?_; rw [cut0]; (first | refine wX ?_ | exact wZ); exact ⟨(), trivial, by rw [hcut], by rw [hcut]; exact ⟨wkE_refl _, wkE_refl _, wkH_nil _⟩⟩
          | false =>
            (first | refine wX ?_ | exact wZ)
            obtain ⟨b, hb⟩ : ∃ b, (s.drop a).take (s.length - a) = b := ⟨_, rfl⟩
            have hbl : b.length = min (s.length - a) (s.length - a) := by rw [← hb, List.length_take, List.length_drop]
            have hbt : (s.drop a).take b.length = b := by rw [hbl, ← hb, ← List.length_drop, ← List.take_eq_take_min]
            have hcut : cutS d (s.drop a) = (if d.letter == 65 then trimA b else if d.letter == 90 then b.takeWhile (· != 0) else b, b.length) := by
              unfold cutS
              rw [if_neg (by rw [e72]; decide), if_neg hn3, hdl, hcn, hb]
            rw [e90, if_neg (show ¬ false = true by decide)] at hcut
            -- as tail, but Z is known
            (first | refine wX ?_ | exact wZ)
            refine call1 (left_c ub s a out len cap ha hs _ (fun w hw => hw.2.1)) ?_
            (first | refine wX ?_ | exact wZ)
            have hmin : minI ((s.length - a : Nat) : Int) ((s.length - a : Nat) : Int) = ((b.length : Nat) : Int) := by
              rw [hbl]
              unfold minI
              split <;> omega
            rw [hmin]
            refine callG (cut_c ub s a b.length out len cap (by omega) hs) [1] rfl ⟨rfl, trivial⟩ rfl fun _ _ => ?_
            rw [hbt]
            (first | refine wX ?_ | exact wZ)
            rw [h65]
            cases e65 : d.letter == 65 with
            | true =>
              rw [e65, if_pos rfl] at hcut
              (first | refine wX ?_ | exact wZ)
              refine call1 (TrimZ_c b (by omega) _) ?_
              (first | refine wX ?_ | exact wZ)
              exact ⟨(), trivial, by rw [hcut], by rw [hcut]; exact ⟨wkE_refl _, wkE_refl _, wkH_nil _⟩⟩
            | false =>
              rw [e65, if_neg (by decide)] at hcut
              (first | refine wX ?_ | exact wZ)
              rw [h90, e90]
              (first | refine wX ?_ | exact wZ); exact ⟨(), trivial, by rw [hcut], by rw [hcut]; exact ⟨wkE_refl _, wkE_refl _, wkH_nil _⟩⟩
    · obtain ⟨T, hT⟩ : ∃ T : Nat, d.count.toNat = T := ⟨_, rfl⟩
      have hT2 : d.count = (T : Int) ∧ T ≤ 1000 := by
        unfold CntOk at hc
        omega
      have hc2 : ∀ n, cntS d n = T := fun n => by unfold cntS; rw [if_neg hk, if_neg hk1]; exact hT
      (first | refine wX ?_ | exact wZ)
      rw [h72]
      cases e72 : d.letter == 72 with
      | true =>
        -- T: the digits; d.count: as the number is spelled; (.inr hT2): that it is so
        (first | refine wX ?_ | exact wZ)
        refine callG (hexu_c ub s a out len cap (d.count) (T) (.inr hT2) ha hs) [1] rfl ⟨rfl, trivial⟩ rfl fun _ _ => ?_
        have hcut : cutS d (s.drop a) = ((hex ((s.drop a).take ((T + 1) / 2))).take (T), ((s.drop a).take ((T + 1) / 2)).length) := by
          unfold cutS
          rw [if_pos e72, List.length_drop, hc2]
        (first | refine wX ?_ | exact wZ)
        exact ⟨(), trivial, by rw [hcut], by rw [hcut]; exact ⟨wkE_refl _, wkE_refl _, wkH_nil _⟩⟩
      | false =>
        have hcn := hc2 (s.drop a).length
        (first | refine wX ?_ | exact wZ)
        refine brd_eq (fun h => absurd h hk1) (fun _ => ?_)
        -- T: the count; d.count: as it is spelled; (fun h => absurd h.1 hk1): of cutS
        obtain ⟨b, hb⟩ : ∃ b, (s.drop a).take (T) = b := ⟨_, rfl⟩
        have hbl : b.length = min (T) (s.length - a) := by rw [← hb, List.length_take, List.length_drop]
        have hbt : (s.drop a).take b.length = b := by rw [hbl, ← hb, ← List.length_drop, ← List.take_eq_take_min]
        have hcut : cutS d (s.drop a) = (if d.letter == 65 then trimA b else if d.letter == 90 then b.takeWhile (· != 0) else b, b.length) := by
          unfold cutS
          rw [if_neg (by rw [e72]; decide), if_neg (fun h => absurd h.1 hk1), hcn, hb]
        -- the bytes b are cut (d.count: as the count is spelled), trimmed
        (first | refine wX ?_ | exact wZ)
        refine call1 (left_c ub s a out len cap ha hs _ (fun w hw => hw.2.1)) ?_
        (first | refine wX ?_ | exact wZ)
        have hmin : minI (d.count) ((s.length - a : Nat) : Int) = ((b.length : Nat) : Int) := by
          rw [hbl]
          unfold minI
          split <;> omega
        rw [hmin]
        refine callG (cut_c ub s a b.length out len cap (by omega) hs) [1] rfl ⟨rfl, trivial⟩ rfl fun _ _ => ?_
        rw [hbt]
        (first | refine wX ?_ | exact wZ)
        rw [h65]
        cases e65 : d.letter == 65 with
        | true =>
          rw [e65, if_pos rfl] at hcut
          (first | refine wX ?_ | exact wZ)
          refine call1 (TrimZ_c b (by omega) _) ?_
          (first | refine wX ?_ | exact wZ)
          exact ⟨(), trivial, by rw [hcut], by rw [hcut]; exact ⟨wkE_refl _, wkE_refl _, wkH_nil _⟩⟩
        | false =>
          rw [e65, if_neg (by decide)] at hcut
          (first | refine wX ?_ | exact wZ)
          rw [h90]
          cases e90 : d.letter == 90 with
          | true =>
            rw [e90, if_pos rfl] at hcut
            (first | refine wX ?_ | exact wZ)
            refine call1 (Cut_c b [0] (by omega) _ (fun w hw => hw.1.1)) ?_
            rw [cut0]
            (first | refine wX ?_ | exact wZ)
            exact ⟨(), trivial, by rw [hcut], by rw [hcut]; exact ⟨wkE_refl _, wkE_refl _, wkH_nil _⟩⟩
          | false =>
            rw [e90, if_neg (by decide)] at hcut
            (first | refine wX ?_ | exact wZ)
            exact ⟨(), trivial, by rw [hcut], by rw [hcut]; exact ⟨wkE_refl _, wkE_refl _, wkH_nil _⟩⟩
end Go.Proofs.YtjkchonpnocffaaGreatDoor

/-
  AX, thirty-second text: append(l, make([]byte, n)...): so many zeros onto a slice of bytes that grows.
-/
namespace Go.AX

theorem zeroCells_u8 (k : Nat) : (Builtin.zeroCells (Value.int .u8 0).cells k).toList = List.replicate k (Value.int .u8 0) := by
  unfold Builtin.zeroCells
  apply List.ext_getElem?
  intro i
  simp only [Value.cells, Array.toList_map, Array.toList_range, List.getElem?_map, List.getElem?_replicate]
  by_cases h : i < k
  · rw [if_pos h, List.getElem?_range (by simpa using h)]
    simp [Nat.mod_one]
  · rw [if_neg h, List.getElem?_eq_none (by simp; omega)]
    rfl
theorem run_append_room_zeros {P : Program} (w : World) (t tn ty e : TypeId) (i : TypeInfo) (kq kn : IntKind) (ht : P.underlying t = some (.slice e)) (htn : P.underlying tn = some (.int kn)) (hi : P.info? e = some i) (hz : i.zero = some (.int .u8 0)) (hs1 : i.size = 1) (hby : i.bytes = 1)
    (g sLen sCap : Nat) (cur : Array Value) (fr : Nat × Nat) (hg : w.heap[g]? = some (.cells cur e fr)) (hfr : NoFr fr cur.size) (k : Nat) (h0 : 0 < k) (hk : k ≤ 140737488355328) (hroom : sLen + k ≤ sCap) (hfit : sLen + k ≤ cur.size) :
    (Builtin.append_ #[t, tn] ty #[.slice (some ⟨g, 0, none⟩) sLen sCap, .int kq k]).run P w =
      .ok (.slice (some ⟨g, 0, none⟩) (sLen + k) sCap) (w.setRow g (cur.toList.take sLen ++ List.replicate k (Value.int .u8 0) ++ cur.toList.drop (sLen + k)).toArray) := by
  have hst := run_storeCells_no P g sLen e fr (List.replicate k (Value.int .u8 0)) 0 cur w hg hfr (by simpa using hfit) (fun v hv => by rw [(List.mem_replicate.1 hv).2]; rfl)
  simp only [Nat.add_zero, List.length_replicate] at hst
  have hw : IntKind.i64.wrap (k : Int) = k := by rw [IntKind.wrap_i64]; omega
  have hneg : ¬ ((k : Int) < 0) := by omega
  have h48i : ¬ (281474976710656 < (k : Int) * ((1 : Nat) : Int)) := by omega
  have hne : ¬ k = 0 := by omega
  have hzc := zeroCells_u8 k
  simp [Builtin.append_, run_underlying ht, run_underlying htn, sizeOf, typeInfo, zeroValue, hi, hz, hs1, hby, asInt, asIntOf, hw, hneg, hne, hroom, Addr.add_lit, hzc, hst]
  intro h; exact absurd h (by omega)
/-- append(l, make([]byte, k)...), k at least one. -/
theorem EffW.appZeros {P : Program} {o : Oper} {s : List AV} {H : List Ent} {K : AV → List Ent → Prop} {T U e : TypeId} {x y : Operand} {args : Array Operand} {ts : Array TypeId} {a : Option Addr} {n cap : Nat} {kn : IntKind} {z : Int} (i k : Nat) {xs : List Value}
    (ho : o.op = .call { callee := .builtin .append, args := args, argTypes := ts }) (ha : args.toList = [x, y]) (ht : ts.toList = [T, U])
    (hT : P.underlying T = some (.slice e)) (hU : P.underlying U = some (.int kn)) (hB : byteB P e = true)
    (hx : opv s x = .c (.v (.slice a n cap))) (hy : opv s y = .c (.v (.int .i64 z))) (hz : z = k) (he : nthE H i = some (.app e 1 xs a n cap)) (room : 1 ≤ k ∧ n + k ≤ 1000000000)
    (next : ∀ b cap' : Nat, n + k ≤ cap' → cap' ≤ maxLen → setEK H i (.app e 1 (xs ++ List.replicate k (.int .u8 0)) (some ⟨b, 0, none⟩) (n + k) cap') fun H' => K (.c (.v (.slice (some ⟨b, 0, none⟩) (n + k) cap'))) H') : EffW P o s H K := by
  subst hz
  obtain ⟨inf, hi, hz, hsz, hby⟩ := byteB_spec hB
  intro ρ S w ac hs hr
  rw [nthE_eq] at he
  have e1 : args = #[x, y] := by rw [← Array.toArray_toList (xs := args), ha]
  have e2 : ts = #[T, U] := by rw [← Array.toArray_toList (xs := ts), ht]
  subst e1; subst e2
  have hxr := opv_rel hr x
  have hyr := opv_rel hr y
  rw [hx] at hxr; rw [hy] at hyr
  have hx2 : ac.eval x = .slice a n cap := hxr
  have hy2 : ac.eval y = .int .i64 k := hyr
  have hexec : ∀ v' w', (Builtin.append_ #[T, U] o.type #[.slice a n cap, .int .i64 k]).run P w = .ok v' w' → (execOp ac.eval o).run P w = .ok (.value v') w' := fun v' w' hrun => by
    unfold execOp
    simp only [ho, resolve, invoke, builtin, Sem.run_bind, Sem.run_pure, Result.andThen_ok, List.map_toArray, List.map_cons, List.map_nil, hx2, hy2, hrun]
  have hzk := zeroCells_u8
  have hent := hs.ent i _ he
  have hge := grownCap_ge w (n + k) cap e
  have hgm := grownCap_le_maxLen w (n + k) cap e (by simp only [maxLen]; omega)
  rcases hent with ⟨rfl, rfl, rfl, rfl⟩ | ⟨g, rfl, arr, fr, ⟨hb, hfr⟩, hxl, hnc, hcm, hasz, htk⟩
  · have hrun := Lib.run_append_grow_zeros (P := P) w T U o.type e inf (.int .u8 0) .i64 kn hT hU hi hz none 0 0 [] (run_firstCells_none _ _ _ _ _) k (by omega) (by omega) (by omega) (by omega) (by rw [hby]; omega) (by rw [hby]; exact growslice_fits (by omega) (by omega))
    generalize grownCap w (0 + k) 0 e = c at hrun hge hgm
    obtain ⟨hilt, hk⟩ := setEK_spec (next w.heap.size c hge hgm)
    have hS := hs.setNil (e' := .app e 1 ([] ++ List.replicate k (.int .u8 0)) (some ⟨w.heap.size, 0, none⟩) (0 + k) c) he rfl (w' := w.drew.alloc (.cells (([] : List Value).toArray ++ Builtin.zeroCells (Value.int .u8 0).cells k ++ Builtin.zeroCells (Value.int .u8 0).cells (c - (0 + k))) e)) rfl rfl rfl rfl (fun b hb => (Option.some.inj hb).symm)
      (.inr ⟨_, rfl, _, (0, 0), ⟨heap_alloc_new w.drew _, .inl rfl⟩, by simp, hge, hgm, by simp [size_zeroCells, Value.cells]; omega, by
        simp only [Array.toList_append, hzk, Nat.mul_one, List.nil_append]
        rw [List.take_append_of_le_length (by simp), List.take_of_length_le (by simp)]⟩)
    exact ⟨_, _, hk, _, _, _, _, hexec _ _ hrun, .inl rfl, hS.1, hS.2, rfl⟩
  · rw [Nat.mul_one] at hxl hasz htk
    by_cases hroom : n + k ≤ cap
    · have hrun := run_append_room_zeros (P := P) w T U o.type e inf .i64 kn hT hU hi hz hsz hby g n cap arr fr hb hfr k (by omega) (by omega) hroom (by omega)
      obtain ⟨hilt, hk⟩ := setEK_spec (next g cap hroom hcm)
      obtain ⟨f1, f2, f3, f4, f5⟩ := setRow_facts w g (arr.toList.take n ++ List.replicate k (Value.int .u8 0) ++ arr.toList.drop (n + k)).toArray
      have hS := hs.setG (e' := .app e 1 (xs ++ List.replicate k (.int .u8 0)) (some ⟨g, 0, none⟩) (n + k) cap) he rfl (Nat.le_of_eq f1.symm) (fun k _ hne => f2 k hne) f3 f4 f5 (fun b hb => .inl (Option.some.inj hb).symm)
        (.inr ⟨g, rfl, _, fr, ⟨setRow_heap w g arr _ e _ hb, by
          have e0 : (arr.toList.take n ++ List.replicate k (Value.int .u8 0) ++ arr.toList.drop (n + k)).toArray.size = arr.size := (by simp; omega)
          rw [e0]; exact hfr⟩, by simp [hxl], hroom, hcm, by simp; omega, by
          rw [← htk, Nat.mul_one]
          have e0 : (arr.toList.take n ++ List.replicate k (Value.int .u8 0)).length = n + k := by simp; omega
          rw [List.take_append_of_le_length (by omega), ← e0, List.take_length]⟩)
      exact ⟨_, _, hk, _, _, _, _, hexec _ _ hrun, .inl rfl, hS.1, hS.2, rfl⟩
    · have holds : ∀ j v, xs[j]? = some v → w.cell? ((⟨g, 0, none⟩ : Addr).add j) = some v := fun j v hv => by
        rw [add_lit, Nat.zero_add, cell_of_row w g j arr e fr hb]
        rw [← htk, List.getElem?_take] at hv
        split at hv
        · simpa using hv
        · cases hv
      have hf := run_firstCells_some (P := P) w.drew inf.size n ⟨g, 0, none⟩ n cap xs (by rw [hsz]; omega) (fun j v hv => holds j v hv)
      have hrun := Lib.run_append_grow_zeros (P := P) w T U o.type e inf (.int .u8 0) .i64 kn hT hU hi hz (some ⟨g, 0, none⟩) n cap xs hf k (by omega) (by omega) (by omega) (by omega) (by rw [hby]; omega) (by rw [hby]; exact growslice_fits (by omega) (by omega))
      generalize grownCap w (n + k) cap e = c at hrun hge hgm
      obtain ⟨hilt, hk⟩ := setEK_spec (next w.heap.size c hge hgm)
      have hS := hs.setG (e' := .app e 1 (xs ++ List.replicate k (.int .u8 0)) (some ⟨w.heap.size, 0, none⟩) (n + k) c)
        (w' := w.drew.alloc (.cells (xs.toArray ++ Builtin.zeroCells (Value.int .u8 0).cells k ++ Builtin.zeroCells (Value.int .u8 0).cells (c - (n + k))) e)) he rfl
        (by show w.heap.size ≤ (w.heap.push _).size; simp) (fun k hk _ => by show (w.heap.push _)[k]? = _; rw [Array.getElem?_push, if_neg (by omega)]) rfl rfl rfl (fun b hb => .inr (Nat.le_of_eq (Option.some.inj hb)))
        (.inr ⟨w.heap.size, rfl, _, (0, 0), ⟨heap_alloc_new w.drew _, .inl rfl⟩, by simp [hxl], hge, hgm, by simp [size_zeroCells, Value.cells, hxl]; omega, by
          have e0 : (xs ++ List.replicate k (Value.int .u8 0)).length = n + k := by simp [hxl]
          simp only [Array.toList_append, hzk, Nat.mul_one]
          rw [← e0]; exact List.take_left⟩)
      exact ⟨_, _, hk, _, _, _, _, hexec _ _ hrun, .inl rfl, hS.1, hS.2, rfl⟩
/-- .. and of none. -/
theorem EffW.appZeros0 {P : Program} {o : Oper} {s : List AV} {H : List Ent} {K : AV → List Ent → Prop} {T U e : TypeId} {x y : Operand} {args : Array Operand} {ts : Array TypeId} {a : Option Addr} {n cap : Nat} {kn : IntKind} {z : Int}
    (ho : o.op = .call { callee := .builtin .append, args := args, argTypes := ts }) (ha : args.toList = [x, y]) (ht : ts.toList = [T, U])
    (hT : P.underlying T = some (.slice e)) (hU : P.underlying U = some (.int kn)) (hB : byteB P e = true)
    (hx : opv s x = .c (.v (.slice a n cap))) (hy : opv s y = .c (.v (.int .i64 z))) (hz : z = 0) (hn : n ≤ cap) (next : K (.c (.v (.slice a n cap))) H) : EffW P o s H K := by
  subst hz
  obtain ⟨inf, hi, hz, hsz, hby⟩ := byteB_spec hB
  intro ρ S w ac hs hr
  have e1 : args = #[x, y] := by rw [← Array.toArray_toList (xs := args), ha]
  have e2 : ts = #[T, U] := by rw [← Array.toArray_toList (xs := ts), ht]
  subst e1; subst e2
  have hxr := opv_rel hr x
  have hyr := opv_rel hr y
  rw [hx] at hxr; rw [hy] at hyr
  have hx2 : ac.eval x = .slice a n cap := hxr
  have hy2 : ac.eval y = .int .i64 0 := hyr
  have hw : IntKind.i64.wrap 0 = 0 := by rw [IntKind.wrap_i64]; omega
  have hrun : (Builtin.append_ #[T, U] o.type #[.slice a n cap, .int .i64 0]).run P w = .ok (.slice a n cap) w := by
    cases a <;> simp [Builtin.append_, run_underlying hT, run_underlying hU, sizeOf, typeInfo, hi, hby, asInt, asIntOf, hw, hn, storeCells]
  refine ⟨_, _, next, _, _, _, _, ?_, .inl rfl, hs, Ev.refl _ _ _ _, rfl⟩
  unfold execOp
  simp only [ho, resolve, invoke, builtin, Sem.run_bind, Sem.run_pure, Result.andThen_ok, List.map_toArray, List.map_cons, List.map_nil, hx2, hy2, hrun]
end Go.AX

/-
  AX, thirty-third text: readings that are the same in all worlds of a kind.
-/
namespace Go.AX

theorem ReadC.load {P : Program} {C : World → Prop} {o : Oper} {s : List AV} {K : AV → Prop} {T : TypeId} {x : Operand} {p : Addr} (v : Value) (ho : o.op = .load T x) (hx : opv s x = .c (.v (.pointer (some p)))) (hF : ∀ w, C w → (loadVar T p).run P w = .ok v w) (hk : K (.c (.v v))) : ∃ x, ReadC P C o s K x :=
  ⟨v, fun cs b e => (by rw [ho] at e; cases e), by rw [ho]; show allPlain s [x] = true; simp [allPlain, hx], fun w hw => by
    have hx2 : plainEv s x = .pointer (some p) := by unfold plainEv; rw [hx]
    unfold execOp
    simp [ho, hx2, Instr.loadAt, Instr.sureAddr, hF w hw], hk⟩
/-- A load of one cell. -/
theorem ReadC.one {P : Program} {C : World → Prop} {o : Oper} {s : List AV} {K : AV → Prop} {T : TypeId} {x : Operand} {a : Option Addr} {q k : Nat} {xs : List Value} (v : Value) (ho : o.op = .load T x) (hx : opv s x = .c (.v (.pointer (some (elemAddr a q))))) (hT : shapeT P T = some none)
    (hF : ∀ w, C w → SlAt a k xs w) (hv : xs[q]? = some v) (hk : K (.c (.v v))) : ∃ x, ReadC P C o s K x :=
  ReadC.load v ho hx (fun w hw => loadVar_cell hT ((hF w hw).cell hv)) hk
/-- A load of a struct. -/
theorem ReadC.agg {P : Program} {C : World → Prop} {o : Oper} {s : List AV} {K : AV → Prop} {T : TypeId} {x : Operand} {a : Option Addr} {q n k : Nat} {xs : List Value} (ys : List Value) (ho : o.op = .load T x) (hx : opv s x = .c (.v (.pointer (some (elemAddr a q))))) (hT : shapeT P T = some (some n))
    (hF : ∀ w, C w → SlAt a k xs w) (hl : ys.length = n) (hv : ∀ j, j < n → xs[q + j]? = ys[j]?) (hk : K (.c (.v (.agg ys.toArray)))) : ∃ x, ReadC P C o s K x :=
  ReadC.load (.agg ys.toArray) ho hx (fun w hw => loadVar_cells hT hl fun j v hj => by
    have hjn : j < n := by rw [← hl]; exact (List.getElem?_eq_some_iff.1 hj).1
    rw [elemAddr, Addr.add_add]
    exact (hF w hw).cell ((hv j hjn).trans hj)) hk
theorem ReadC.nil {P : Program} {C : World → Prop} {o : Oper} {s : List AV} {K : AV → Prop} {x : Operand} {p : Addr} (ho : o.op = .nilCheck x) (hx : opv s x = .c (.v (.pointer (some p)))) (hk : K (.c (.v (.pointer (some p))))) : ∃ x, ReadC P C o s K x :=
  ⟨.pointer (some p), fun cs b e => (by rw [ho] at e; cases e), by rw [ho]; show allPlain s [x] = true; simp [allPlain, hx], fun w _ => by
    have hx2 : plainEv s x = .pointer (some p) := by unfold plainEv; rw [hx]
    unfold execOp
    simp [ho, hx2], hk⟩
end Go.AX

/-
  Contracts: Bytes, Unpack (program).
-/
namespace Go.Proofs.YtjkchonpnocffaaGreatDoor
open Go.AX Go.RowKit Go.Pack
set_option maxRecDepth 20000

theorem unS_cons (whole : List UInt8) (d : Dir) (l : List Dir) (s : List UInt8) (out : List Pack.Item) : unS whole (d :: l) s out =
    if d.letter == 64 then if d.count > whole.length then .error 14 else unS whole l (whole.drop (max 0 d.count).toNat) out
    else if d.letter == 120 then if (max 1 d.count).toNat > s.length then .error 14 else unS whole l (s.drop (max 1 d.count).toNat) out
    else if isStr d.letter then unS whole l (s.drop (cutS d s).2) (out ++ [⟨true, 0, (cutS d s).1⟩])
    else match numsS d s with
      | .error e => .error e
      | .ok (ns, r) => unS whole l r (out ++ ns.map intI) := rfl
theorem cutS_le (d : Dir) (s : List UInt8) : (cutS d s).2 ≤ s.length := by
  unfold cutS
  split
  · simp only [List.length_take]; omega
  split
  · rename_i h
    exact tw_lt h.2.2
  · simp only [List.length_take]; omega
/-- What Unpack gives: an error, or items in memory. -/
def UnR (r : Except Int (List Pack.Item)) (v : Value) (G : World → Prop) : Prop := match r with
  | .error e => v = .tuple #[.slice none 0 0, .int .i64 e]
  | .ok l => ∃ ob cap, v = .tuple #[.slice (at0 ob) l.length cap, .int .i64 0] ∧ (ob = none → l = []) ∧ ∀ w, G w → SlAt (at0 ob) (l.length * 3) (itemsC l) w
theorem Unpack_c (form s : List UInt8) (hf : form.length ≤ 100000) (hs : s.length ≤ 1000000) : SpecF Tryz.prog 6 [.string (bs form), .string (bs s)] UtfF (UnR (unpackS form s)) := by
  refine specF hm Tryz.func6 (by kernel_rfl) rfl rfl ?_
  (first | refine wX ?_ | exact wZ)
  refine SpecF.call (read_c form hf) (fun w _ => trivial) fun v G hR => ?_
  unfold unpackS
  cases hfm : forms form with
  | none =>
    rw [hfm] at hR
    obtain ⟨y, n, cap, rfl⟩ := hR
    (first | refine wX ?_ | exact wZ)
    exact fin_v rfl
  | some ds =>
    rw [hfm] at hR
    obtain ⟨db, dcap, rfl, hdb, hG⟩ := hR
    obtain ⟨h50, hok⟩ := forms_ok hfm
    ((conv => whnf); (repeat ((first | refine RwN.own ?_ | refine VrN.norm (wrap_i64 (by omega)) ?_ | refine VrN.keep ?_ | refine DrawN.calm (by decide +kernel) ?_ | refine Nd.mk (by decide +kernel) ?_ | refine Nd.mk (by omega) ?_ | (refine Nd.mk ?_ ?_; focus ((repeat' (first | exact trivial | exact wkE_refl _ | refine And.intro ?_ ?_)); done)) | refine RdN.intro _ rfl (by rfl) ?_); (conv => whnf))))
    refine BoxN.known [.string (bs s), .int .i64 0, .slice none 0 0] rfl fun ub => ?_
    (first | refine wX ?_ | exact wZ)
    refine LoopN.intro (Nat × Nat × List Pack.Item × Option Nat × Nat) (fun ⟨i, a, l, ob, cap⟩ => i ≤ ds.length ∧ a ≤ s.length ∧ l.length ≤ 1000001 * i ∧ ((ob = none → l = [] ∧ cap = 0) ∧ l.length ≤ cap) ∧ unS s (ds.drop i) (s.drop a) l = unS s ds s [])
      (fun ⟨i, _, _, _, _⟩ => mkS Tryz.f6.ntmps 0 [(1, .c (.v (.string (bs s)))), (8, .c (.v (.pointer (some ⟨ub, 0, none⟩)))), (23, .c (.v (.slice (at0 db) ds.length dcap))), (24, .c (.v (.int .i64 (ds.length : Int)))), (25, .c (.v (.int .i64 (i : Int))))])
      (fun ⟨_, a, l, ob, cap⟩ => [.fact UtfF, .fact G, unE ub s a ob l.length cap, itemsE l ob cap]) (fun ⟨i, _, _, _, _⟩ => ds.length - i) [.app 0 0 [] none 0 0] rfl
      (fun _ => rfl) (fun _ => rfl) (fun _ _ => okHB_eq rfl) ⟨(0, 0, [], none, 0), ⟨Nat.zero_le _, Nat.zero_le _, Nat.zero_le _, ⟨fun _ => ⟨rfl, rfl⟩, Nat.le_refl _⟩, rfl⟩, ?_, ?_⟩ ?_
    · (repeat' (first | exact trivial | refine And.intro (by with_reducible rfl) ?_ | (with_reducible exact wkC_refl _) | (with_reducible exact wkCs_refl _) | refine And.intro ?_ ?_))
      all_goals rfl
    · exact ⟨wkE_refl _, wkE_refl _, wkE_refl _, wkE_nil, wkH_nil _⟩
    rintro ⟨i, a, l, ob, cap⟩ ⟨hid, ha, hll, hob, hrun⟩
    (first | refine wX ?_ | exact wZ)
    refine brd_dec (fun h1 => ?_) (fun h1 => ?_)
    · obtain ⟨d, hd⟩ : ∃ d, ds[i]? = some d := ⟨_, List.getElem?_eq_getElem (by omega)⟩
      have hdok := hok d (List.mem_of_getElem? hd)
      obtain ⟨db, rfl⟩ : ∃ g, db = some g := by
        cases db with
        | none => rw [hdb rfl] at hd; cases hd
        | some g => exact ⟨g, rfl⟩
      have hc1 : d.count ≤ 1000 := by
        have := hdok.2
        unfold CntOk at this
        omega
      have hll2 : l.length ≤ 51000000 := Nat.le_trans hll (by omega)
      have hzs := bs_size s
      have h64 : ((d.letter.toNat : Int) == 64) = (d.letter == 64) := u8_eq (n := 64) (by decide)
      have h120 : ((d.letter.toNat : Int) == 120) = (d.letter == 120) := u8_eq (n := 120) (by decide)
      have hdr : unS s (ds.drop i) (s.drop a) l = unS s (d :: ds.drop (i + 1)) (s.drop a) l := by
        rw [List.drop_eq_getElem_cons (by omega), (List.getElem?_eq_some_iff.1 hd).2]
      rw [hdr, unS_cons] at hrun
      cases hst : isStr d.letter with
      | true =>
        have e64 : (d.letter == 64) = false := by
          cases h : d.letter == 64 with
          | false => rfl
          | true => rw [show d.letter = 64 by simpa using h] at hst; exact absurd hst (by decide)
        have e120 : (d.letter == 120) = false := by
          cases h : d.letter == 120 with
          | false => rfl
          | true => rw [show d.letter = 120 by simpa using h] at hst; exact absurd hst (by decide)
        rw [e64, if_neg (by decide), e120, if_neg (by decide), if_pos hst, List.drop_drop] at hrun
        have hcl : a + (cutS d (s.drop a)).2 ≤ s.length := by
          have := cutS_le d (s.drop a)
          rw [List.length_drop] at this
          omega
        (first | refine wX ?_ | exact wZ)
        refine Nd.mk ⟨rfl, by omega, by omega⟩ ?_
        (first | refine wX ?_ | exact wZ)
        refine LdN.agg (dirC d) rfl (fun w hw => hG w hw.2.1) rfl (fun j hj => by
          rw [Int.toNat_natCast]
          exact dirsC_get ds i j hj hd) ?_
        ((conv => whnf); (repeat ((first | refine RwN.own ?_ | refine VrN.norm (wrap_i64 (by omega)) ?_ | refine VrN.keep ?_ | refine DrawN.calm (by decide +kernel) ?_ | refine Nd.mk (by decide +kernel) ?_ | refine Nd.mk (by omega) ?_ | (refine Nd.mk ?_ ?_; focus ((repeat' (first | exact trivial | exact wkE_refl _ | refine And.intro ?_ ?_)); done)) | refine RdN.intro _ rfl (by rfl) ?_); (conv => whnf))))
        refine BoxN.known [.int .u8 0, .bool false, .int .i64 0] rfl fun dk => ?_
        (first | refine wX ?_ | exact wZ)
        refine EffW.appTo (i := 4) (q := 0) (ys := dirC d) (dirC d) 3 rfl rfl rfl rfl rfl rfl rfl (Nat.le_of_ble_eq_true rfl) rfl rfl ?_
        (first | refine wX ?_ | exact wZ)
        refine LdN.one (a := some ⟨dk, 0, none⟩) (q := 0) (.int .u8 (d.letter.toNat : Int)) rfl (fun w hw => hw.2.2.2.2.1) rfl ?_
        (first | refine wX ?_ | exact wZ)
        rw [h64, e64]
        (first | refine wX ?_ | exact wZ)
        refine LdN.one (a := some ⟨dk, 0, none⟩) (q := 0) (.int .u8 (d.letter.toNat : Int)) rfl (fun w hw => hw.2.2.2.2.1) rfl ?_
        (first | refine wX ?_ | exact wZ)
        rw [h120, e120]
        (first | refine wX ?_ | exact wZ)
        refine LdN.agg (a := some ⟨dk, 0, none⟩) (q := 0) (dirC d) rfl (fun w hw => hw.2.2.2.2.1) rfl (fun j _ => by rw [Nat.zero_add]) ?_
        (first | refine wX ?_ | exact wZ)
        refine call1 (isString_c d _) ?_
        rw [hst]
        (first | refine wX ?_ | exact wZ)
        refine DrawN.planC (fun w => w.cell? ⟨ub, 2, none⟩ = some (.slice (at0 ob) l.length cap) ∧ SlAt (some ⟨dk, 0, none⟩) 3 (dirC d) w) [0, 1, 5] [(2, 2), (3, 2), (4, 1), (6, 1), (7, 0), (8, 0), (9, 0)] [(10, 0), (11, 0), (12, 0), (13, 0)] (by decide +kernel) (fun w hw => ⟨(hw.2.2.1).cell (q := 2) rfl, hw.2.2.2.2.1⟩) ?_
        (first | refine wX ?_ | exact wZ)
        refine ReadC.load (.slice (at0 ob) l.length cap) rfl rfl (fun w hw => loadVar_cell rfl hw.1) ?_
        (first | refine wX ?_ | exact wZ)
        refine ReadC.agg (a := some ⟨dk, 0, none⟩) (q := 0) (dirC d) rfl rfl rfl (fun w hw => hw.2) rfl (fun j _ => by rw [Nat.zero_add]) ?_
        refine callG (textu_c d ub s a ob l.length cap hdok.2 ha hs) [0, 2] rfl ⟨rfl, rfl, trivial⟩ rfl fun _ _ => ?_
        (conv => whnf)
        refine Nd.mk (fun w hw => ⟨(hw.2.2.1).cell (q := 2) rfl, hw.2.2.2.2.1⟩) ?_
        (first | refine wX ?_ | exact wZ)
        refine Nd.mk (fun w hw => ⟨(hw.2.2.1).cell (q := 2) rfl, hw.2.2.2.2.1⟩) ?_
        (first | refine wX ?_ | exact wZ)
        refine Nd.mk (fun w hw => ⟨(hw.2.2.1).cell (q := 2) rfl, hw.2.2.2.2.1⟩) ?_
        (first | refine wX ?_ | exact wZ)
        refine Nd.mk ⟨Nat.le_refl 1, rfl, rfl⟩ ?_
        (conv => whnf)
        refine AppN.grow 3 (itemsC l) (itemC ⟨true, 0, (cutS d (s.drop a)).1⟩) rfl rfl ⟨Nat.le_refl 1, ⟨by show (l.length + 1) * 32 ≤ _; omega, by omega⟩, by show 3 ≠ 0; omega⟩ fun b' cap2 h11 h12 => ?_
        (first | refine wX ?_ | exact wZ)
        refine EffW.appTo (i := 2) (q := 2) (ys := [_]) (unC s (a + (cutS d (s.drop a)).2) (some b') (l.length + 1) cap2) 3 rfl rfl rfl rfl rfl rfl rfl (Nat.le_of_ble_eq_true rfl) rfl rfl ?_
        (first | refine wX ?_ | exact wZ)
        refine ⟨(i + 1, a + (cutS d (s.drop a)).2, l ++ [⟨true, 0, (cutS d (s.drop a)).1⟩], some b', cap2), ⟨by omega, hcl, by simp; omega, ⟨fun h => (by cases h), by rw [List.length_append]; exact h11⟩, hrun⟩, by show ds.length - (i + 1) < ds.length - i; omega, ?_, ?_⟩
        · (repeat' (first | exact trivial | refine And.intro (by with_reducible rfl) ?_ | (with_reducible exact wkC_refl _) | (with_reducible exact wkCs_refl _) | refine And.intro ?_ ?_))
          all_goals first | rfl | exact av_int (by rw [wrap_i64 (by omega)]; omega)
        · refine ⟨wkE_refl _, wkE_refl _, ?_, ?_, wkH_nil _⟩
          · show wkE (.app _ _ _ _ _ _) (unE ub s (a + (cutS d (s.drop a)).2) (some b') (l ++ [(⟨true, 0, (cutS d (s.drop a)).1⟩ : Pack.Item)]).length cap2)
            rw [List.length_append]
            exact wkE_refl _
          · exact .inl ⟨rfl, rfl, itemsC_snoc _ _, rfl, by rw [List.length_append]; rfl, rfl⟩
      | false =>
      (first | refine wX ?_ | exact wZ)
      refine Nd.mk ⟨rfl, by omega, by omega⟩ ?_
      (first | refine wX ?_ | exact wZ)
      refine LdN.agg (dirC d) rfl (fun w hw => hG w hw.2.1) rfl (fun j hj => by
        rw [Int.toNat_natCast]
        exact dirsC_get ds i j hj hd) ?_
      (first | refine wX ?_ | exact wZ)
      rw [h64]
      cases e64 : d.letter == 64 with
      | true =>
        rw [e64, if_pos rfl] at hrun
        (first | refine wX ?_ | exact wZ)
        rw [hzs]
        refine brd_dec (fun h2 => ?_) (fun h2 => ?_)
        · rw [if_pos h2] at hrun
          (first | refine wX ?_ | exact wZ)
          refine fin_v ?_
          show UnR (unS s ds s []) _ _
          rw [← hrun]
          rfl
        · rw [if_neg h2] at hrun
          obtain ⟨m, hm⟩ : ∃ m : Nat, (max 0 d.count).toNat = m := ⟨_, rfl⟩
          have hmx : maxI 0 d.count = (m : Int) := by unfold maxI; split <;> omega
          rw [hm] at hrun
          (first | refine wX ?_ | exact wZ)
          rw [hmx]
          (first | refine wX ?_ | exact wZ)
          refine EffW.appTo (i := 2) (q := 1) (ys := [_]) (unC s m ob l.length cap) 3 rfl rfl rfl rfl rfl rfl rfl (Nat.le_of_ble_eq_true rfl) rfl rfl ?_
          (first | refine wX ?_ | exact wZ)
          refine ⟨(i + 1, m, l, ob, cap), ⟨by omega, by omega, by omega, hob, hrun⟩, by show ds.length - (i + 1) < ds.length - i; omega, ?_, ?_⟩
          · (repeat' (first | exact trivial | refine And.intro (by with_reducible rfl) ?_ | (with_reducible exact wkC_refl _) | (with_reducible exact wkCs_refl _) | refine And.intro ?_ ?_))
            all_goals first | rfl | exact av_int (by rw [wrap_i64 (by omega)]; omega)
          · exact ⟨wkE_refl _, wkE_refl _, wkE_refl _, wkE_refl _, wkH_nil _⟩
      | false =>
        rw [e64, if_neg (by decide)] at hrun
        (first | refine wX ?_ | exact wZ)
        rw [h120]
        cases e120 : d.letter == 120 with
        | true =>
          rw [e120, if_pos rfl] at hrun
          obtain ⟨m, hm⟩ : ∃ m : Nat, (max 1 d.count).toNat = m := ⟨_, rfl⟩
          have hmx : maxI 1 d.count = (m : Int) := by unfold maxI; split <;> omega
          rw [hm, List.length_drop] at hrun
          (first | refine wX ?_ | exact wZ)
          rw [hmx]
          (first | refine wX ?_ | exact wZ)
          refine call1 (left_c ub s a ob l.length cap ha hs _ (fun w hw => hw.2.2.1)) ?_
          (first | refine wX ?_ | exact wZ)
          refine brd_dec (fun h2 => ?_) (fun h2 => ?_)
          · rw [if_pos (by omega)] at hrun
            (first | refine wX ?_ | exact wZ)
            refine fin_v ?_
            show UnR (unS s ds s []) _ _
            rw [← hrun]
            rfl
          · rw [if_neg (by omega), List.drop_drop] at hrun
            (first | refine wX ?_ | exact wZ)
            refine DrawN.plan [0, 4] [(1, 1), (2, 1), (3, 1), (5, 1), (6, 1), (7, 1), (8, 1), (9, 1)] [(10, 0)] (by decide +kernel) ?_
            (first | refine wX ?_ | exact wZ)
            refine LdN.one (a := some ⟨ub, 0, none⟩) (q := 1) (.int .i64 (a : Int)) rfl (fun w hw => hw.2.2.1) rfl ?_
            (first | refine wX ?_ | exact wZ)
            rw [hmx]
            (first | refine wX ?_ | exact wZ)
            refine EffW.appTo (i := 2) (q := 1) (ys := [_]) (unC s (a + m) ob l.length cap) 3 rfl rfl rfl rfl rfl rfl rfl (Nat.le_of_ble_eq_true rfl) (by
              show [_, Value.int .i64 _, _] = [_, Value.int .i64 _, _]
              first | rfl | (rw [wrap_i64 (by omega)]; rfl)) rfl ?_
            (first | refine wX ?_ | exact wZ)
            refine ⟨(i + 1, a + m, l, ob, cap), ⟨by omega, by omega, by omega, hob, hrun⟩, by show ds.length - (i + 1) < ds.length - i; omega, ?_, ?_⟩
            · (repeat' (first | exact trivial | refine And.intro (by with_reducible rfl) ?_ | (with_reducible exact wkC_refl _) | (with_reducible exact wkCs_refl _) | refine And.intro ?_ ?_))
              all_goals first | rfl | exact av_int (by rw [wrap_i64 (by omega)]; omega)
            · exact ⟨wkE_refl _, wkE_refl _, wkE_refl _, wkE_refl _, wkH_nil _⟩
        | false =>
          rw [e120, if_neg (by decide)] at hrun
          (first | refine wX ?_ | exact wZ)
          refine call1 (isString_c d _) ?_
          cases hstr : isStr d.letter with
          | true => rw [hstr] at hst; cases hst
          | false =>
            rw [hstr, if_neg (by decide)] at hrun
            have hpl : isPl d.letter = false := by unfold isPl; rw [e120, e64]; rfl
            (first | refine wX ?_ | exact wZ)
            refine callG (numbers_c d ub s a l ob cap hdok.1 hstr hpl hdok.2 hob (by omega) ha hs) [0, 2, 3] rfl ⟨rfl, rfl, rfl, trivial⟩ rfl ?_
            rintro ⟨l2, ob2, cap2, at2, e2⟩ ⟨n1, n2, n3, n4, n5⟩
            cases hns : numsS d (s.drop a) with
            | error e =>
              rw [hns] at n5 hrun
              obtain ⟨n6, n7⟩ := n5
              simp only at n6
              subst n6
              (first | refine wX ?_ | exact wZ)
              refine brd_ne (fun _ => ?_) (fun h6 => absurd h6 n7)
              (first | refine wX ?_ | exact wZ)
              refine fin_v ?_
              show UnR (unS s ds s []) _ _
              rw [← hrun]
              rfl
            | ok x =>
              obtain ⟨ns, r⟩ := x
              rw [hns] at n5 hrun
              obtain ⟨n6, n7, n8⟩ := n5
              simp only at n6 n7 n8 n4 hrun
              subst n6
              rw [← n8, ← n7] at hrun
              (first | refine wX ?_ | exact wZ)
              refine ⟨(i + 1, at2, l2, ob2, cap2), ⟨by omega, n1, by omega, ⟨n2, n3⟩, hrun⟩, by show ds.length - (i + 1) < ds.length - i; omega, ?_, ?_⟩
              · (repeat' (first | exact trivial | refine And.intro (by with_reducible rfl) ?_ | (with_reducible exact wkC_refl _) | (with_reducible exact wkCs_refl _) | refine And.intro ?_ ?_))
                all_goals first | rfl | exact av_int (by rw [wrap_i64 (by omega)]; omega)
              · exact ⟨wkE_refl _, wkE_refl _, wkE_refl _, wkE_refl _, wkH_nil _⟩
    · have hi : i = ds.length := by omega
      subst hi
      rw [List.drop_length] at hrun
      (first | refine wX ?_ | exact wZ)
      refine LdN.one (a := some ⟨ub, 0, none⟩) (q := 2) (.slice (at0 ob) l.length cap) rfl (fun w hw => hw.2.2.1) rfl ?_
      (first | refine wX ?_ | exact wZ)
      refine fin_p (fun w => SlAt (at0 ob) (l.length * 3) (itemsC l) w) ?_ (fun w hw => hw.2.2.2.1)
      show UnR (unS s ds s []) _ _
      rw [← hrun]
      exact ⟨ob, cap, rfl, fun h => (hob.1 h).1, fun w hw => hw⟩
end Go.Proofs.YtjkchonpnocffaaGreatDoor

/-
  Contracts: Hex and Bytes (document).
-/
namespace Go.Proofs.YtjkchonpnocffaaGreatDoor
open Go.AX Go.RowKit Go.Pack
set_option maxRecDepth 20000

theorem Hex_r (s : List UInt8) (hs : s.length ≤ 1000000) : ∀ H, SpecH Tryz.prog 11 (pvs [.string (bs s)]) H (Ret (.string (bs (hex s))) H) := by
  refine pureC hm Tryz.func11 (by kernel_rfl) rfl rfl ?_
  have hzs := bs_size s
  (first | refine wX ?_ | exact wZ)
  refine LoopN.intro (Nat × Option Nat × Nat) (fun ⟨j, ob, cap⟩ => j ≤ s.length ∧ (ob = none → hex (s.take j) = [] ∧ cap = 0))
    (fun ⟨j, ob, cap⟩ => mkS Tryz.f11.ntmps 0 [(0, .c (.v (.string (bs s)))), (3, .c (.v (.slice (at0 ob) (hex (s.take j)).length cap))), (4, .c (.v (.int .i64 (j : Int))))])
    (fun ⟨j, ob, cap⟩ => [.app 5 1 (u8s (hex (s.take j))) (at0 ob) (hex (s.take j)).length cap]) (fun ⟨j, _, _⟩ => s.length - j) [.app 0 0 [] none 0 0] rfl
    (fun _ => rfl) (fun _ => rfl) (fun _ _ => okHB_eq rfl) ⟨(0, none, 0), ⟨Nat.zero_le _, fun _ => ⟨rfl, rfl⟩⟩, ?_, ?_⟩ ?_
  · (repeat' (first | exact trivial | refine And.intro (by with_reducible rfl) ?_ | (with_reducible exact wkC_refl _) | (with_reducible exact wkCs_refl _) | refine And.intro ?_ ?_))
    all_goals rfl
  · exact ⟨wkE_nil, wkH_nil _⟩
  rintro ⟨j, ob, cap⟩ ⟨hj, hob⟩
  (first | refine wX ?_ | exact wZ)
  rw [hzs]
  refine brd_dec (fun h1 => ?_) (fun h1 => ?_)
  · obtain ⟨c, hc⟩ : ∃ c, s[j]? = some c := ⟨_, List.getElem?_eq_getElem (by omega)⟩
    have hsn : s.take (j + 1) = s.take j ++ [c] := Pack.take_snoc hc
    have hcl := UInt8.toNat_lt c
    have hbc : byteAt (bs s) (Int.toNat (j : Int)) = (c.toNat : Int) := by rw [Int.toNat_natCast]; exact byteAt_get hc
    have hq : (c.toNat : Int).tdiv 16 = ((c.toNat / 16 : Nat) : Int) := (Int.ofNat_tdiv c.toNat 16).symm
    have hq' : IntKind.u8.wrap ((c.toNat / 16 : Nat) : Int) = ((c.toNat / 16 : Nat) : Int) := wrap_u8 (by omega)
    have hm' : (c.toNat : Int).tmod 16 = ((c.toNat % 16 : Nat) : Int) := (Int.ofNat_tmod c.toNat 16).symm
    have hx1 : byteAt { data := #[48, 49, 50, 51, 52, 53, 54, 55, 56, 57, 97, 98, 99, 100, 101, 102] } (Int.toNat ((c.toNat / 16 : Nat) : Int)) = ((hexC (c.toNat / 16)).toNat : Int) := by
      rw [Int.toNat_natCast]
      exact hexAt _ (by omega)
    have hx2 : byteAt { data := #[48, 49, 50, 51, 52, 53, 54, 55, 56, 57, 97, 98, 99, 100, 101, 102] } (Int.toNat ((c.toNat % 16 : Nat) : Int)) = ((hexC (c.toNat % 16)).toNat : Int) := by
      rw [Int.toNat_natCast]
      exact hexAt _ (by omega)
    have hhl : (hex (s.take j)).length ≤ 2000000 := by rw [hex_len, List.length_take]; omega
    (first | refine wX ?_ | exact wZ)
    refine DrawN.plan [0, 1, 2, 6, 7] [(3, 1), (4, 1), (5, 1), (8, 1), (9, 1), (10, 1), (11, 0)] [(12, 0), (13, 0)] (by decide +kernel) ?_
    (first | refine wX ?_ | exact wZ)
    rw [hbc, hq, hq']
    refine Nd.mk ⟨by omega, by show _ < (16 : Int); omega⟩ ?_
    (first | refine wX ?_ | exact wZ)
    rw [hx1]
    (first | refine wX ?_ | exact wZ)
    try rw [hbc]
    rw [hm']
    try rw [wrap_u8 (x := ((c.toNat % 16 : Nat) : Int)) (by omega)]
    refine Nd.mk ⟨by omega, by show _ < (16 : Int); omega⟩ ?_
    (first | refine wX ?_ | exact wZ)
    rw [hx2]
    (first | refine wX ?_ | exact wZ)
    refine Nd.mk ⟨by decide, rfl, rfl⟩ ?_
    (conv => whnf)
    refine AppN.grow 0 (u8s (hex (s.take j))) [_, _] rfl rfl ⟨by decide, ⟨by show ((hex (s.take j)).length + 2) * 1 ≤ _; omega, by omega⟩, by show 1 ≠ 0; omega⟩ fun b' cap2 h2 h3 => ?_
    have hnx : hex (s.take (j + 1)) = hex (s.take j) ++ [hexC (c.toNat / 16), hexC (c.toNat % 16)] := by rw [hsn, hex_app]; rfl
    have hnl : (hex (s.take (j + 1))).length = (hex (s.take j)).length + 2 := by rw [hnx, List.length_append]; rfl
    (first | refine wX ?_ | exact wZ)
    refine ⟨(j + 1, some b', cap2), ⟨by omega, fun h => (by cases h)⟩, by show s.length - (j + 1) < s.length - j; omega, ?_, ?_⟩
    · (repeat' (first | exact trivial | refine And.intro (by with_reducible rfl) ?_ | (with_reducible exact wkC_refl _) | (with_reducible exact wkCs_refl _) | refine And.intro ?_ ?_))
      all_goals first | rfl | (rw [hnl]; rfl) | exact av_int (by first | omega | (rw [wrap_i64 (by omega)]; omega))
    · exact ⟨.inl ⟨rfl, rfl, by rw [hnx]; simp [u8s], rfl, hnl.symm, rfl⟩, wkH_nil _⟩
  · have hje : s.take j = s := List.take_of_length_le (by omega)
    rw [hje]
    (first | refine wX ?_ | exact wZ)
    refine ReadW.bytes (hex s) rfl rfl rfl rfl rfl rfl (fun w hw => by simpa using hw.1) ?_
    (first | refine wX ?_ | exact wZ)
    rfl
end Go.Proofs.YtjkchonpnocffaaGreatDoor

/-
  Plain Lean: a number that was written is read back.
-/
namespace Go.Pack

theorem u8_lt {a b : UInt8} : a < b ↔ a.toNat < b.toNat := Iff.rfl
theorem u8_le {a b : UInt8} : a ≤ b ↔ a.toNat ≤ b.toNat := Iff.rfl

/-! ### Bytes of a fixed size -/
theorem beN_snoc (l : B) (c : UInt8) : beN (l ++ [c]) = beN l * 256 + c.toNat := by simp [beN]
def fixed (c : UInt8) : Bool := c == 67 || c == 99 || c == 83 || c == 115 || c == 110 || c == 76 || c == 108 || c == 78 || c == 81 || c == 113
end Go.Pack

/-
  Plain Lean: groups of 7 bits, and characters, are read back.
-/
namespace Go.Pack

end Go.Pack

/-
  Plain Lean: forms and items that are read back whole.
-/
namespace Go.Pack

end Go.Pack

/-
  Plain Lean: two forms one behind the other.
-/
namespace Go.Pack

/-- What ends a count: no sign, no star, no digit ahead. -/
def stop (b : B) : Prop := ∀ c, b.head? = some c → c ≠ 62 ∧ c ≠ 42 ∧ dig c = false
theorem head_app {r b : B} : (r ++ b).head? = if r.isEmpty then b.head? else r.head? := by cases r <;> rfl
theorem tail_app {r b : B} (h : r.isEmpty = false) : (r ++ b).tail = r.tail ++ b := by cases r <;> first | rfl | cases h
theorem takeW_app {b : B} (hb : stop b) : ∀ r : B, (r ++ b).takeWhile dig = r.takeWhile dig ∧ (r ++ b).dropWhile dig = r.dropWhile dig ++ b
  | [] => by
    cases b with
    | nil => exact ⟨rfl, rfl⟩
    | cons c b =>
      have h := (hb c rfl).2.2
      simp [h]
  | c :: r => by
    have ih := takeW_app hb r
    cases h : dig c with
    | true => simp [h, ih.1, ih.2]
    | false => simp [h]
theorem cnt_app {c : UInt8} {r b : B} {x : Int × B} (hb : stop b) (h : cnt c r = some x) : cnt c (r ++ b) = some (x.1, x.2 ++ b) := by
  obtain ⟨h1, h2⟩ := takeW_app hb r
  unfold cnt at h ⊢
  have hh : ((r ++ b).head? == some 42) = (r.head? == some 42) := by
    rw [head_app]
    cases r with
    | nil =>
      cases b with
      | nil => rfl
      | cons c b =>
        have := (hb c rfl).2.1
        simp [this]
    | cons _ _ => rfl
  rw [hh, h1, h2]
  split at h
  · rename_i hs
    have hne : r.isEmpty = false := by cases r <;> first | rfl | simp at hs
    rw [if_pos hs, tail_app hne]
    split at h
    · cases h
    · rename_i hx
      cases h
      rw [if_neg hx]
  rename_i hs
  rw [if_neg hs]
  split at h
  · rename_i he
    cases h
    rw [if_pos he]
  rename_i he
  rw [if_neg he]
  split at h
  · rename_i hf
    cases h
    rw [if_pos hf]
  · cases h
theorem one_app {c : UInt8} {r b : B} {x : Dir × B} (hb : stop b) (h : one c r = some x) : one c (r ++ b) = some (x.1, x.2 ++ b) := by
  unfold one at h ⊢
  have hh : ((r ++ b).head? == some 62) = (r.head? == some 62) := by
    rw [head_app]
    cases r with
    | nil =>
      cases b with
      | nil => rfl
      | cons c b =>
        have := (hb c rfl).1
        simp [this]
    | cons _ _ => rfl
  rw [hh]
  split at h
  · rename_i hl
    rw [if_pos hl]
    split at h
    · rename_i hs
      have hne : r.isEmpty = false := by cases r <;> first | rfl | simp at hs
      rw [if_pos hs, tail_app hne]
      split at h
      · rename_i hg
        rw [if_pos hg]
        cases hc : cnt c r.tail with
        | none => rw [hc] at h; cases h
        | some y => rw [hc] at h; cases h; rw [cnt_app hb hc]; rfl
      · cases h
    · rename_i hs
      rw [if_neg hs]
      cases hc : cnt c r with
      | none => rw [hc] at h; cases h
      | some y => rw [hc] at h; cases h; rw [cnt_app hb hc]; rfl
  · cases h
theorem dirs_app {b : B} (hb : stop b) : ∀ (n : Nat) (a : B) (l : List Dir), a.length ≤ n → dirs a = some l → dirs (a ++ b) = (dirs b).map (l ++ ·)
  | _, [], l, _, h => by
    rw [dirs_nil] at h
    cases h
    show dirs b = _
    cases dirs b <;> rfl
  | 0, _ :: _, _, hn, _ => by simp at hn
  | n + 1, c :: r, l, hn, h => by
    simp only [List.length_cons] at hn
    by_cases h32 : c = 32
    · subst h32
      rw [dirs_space] at h
      rw [List.cons_append, dirs_space]
      exact dirs_app hb n r l (by omega) h
    · rw [dirs_cons h32] at h
      rw [List.cons_append, dirs_cons h32]
      cases ho : one c r with
      | none => rw [ho] at h; cases h
      | some x =>
        have hlen := one_len ho
        rw [ho] at h
        rw [one_app hb ho]
        simp only at h ⊢
        cases hx : dirs x.2 with
        | none => rw [hx] at h; cases h
        | some l' =>
          rw [hx] at h
          cases h
          rw [dirs_app hb n x.2 l' (by omega) hx]
          cases dirs b <;> rfl
theorem stop_letter {c : UInt8} (h : letters.contains c = true) (b : B) : stop (c :: b) := fun d hd => by
  cases hd
  have : ∀ c ∈ letters, c ≠ 62 ∧ c ≠ 42 ∧ dig c = false := by decide
  exact this c (by simpa using h)

/-! ### Packing one behind the other -/
end Go.Pack

/-
  Plain Lean: what two forms write, one behind the other.
-/
namespace Go.Pack

def plainD (d : Dir) : Prop := d.letter ≠ 64 ∧ d.count ≠ -1
end Go.Pack

/-
  Plain Lean: what is packed has its size.
-/
namespace Go.Pack
set_option maxRecDepth 4000
theorem numS_len {d : Dir} {n : Int} {r : B} (h1 : d.letter ≠ 119) (h2 : d.letter ≠ 85) (h : numS d n = .ok r) : r.length = sz d.letter := by
  unfold numS at h
  rw [if_neg (by simpa using h1), if_neg (by simpa using h2)] at h
  split at h
  · cases h
    split
    · rw [List.length_reverse, le_len]
    · rw [le_len]
  · cases h
theorem textS_len {d : Dir} {s r : B} (hc : d.count ≠ -1) (h : textS d s = .ok r) : r.length = if d.letter == 72 then (cntS d 0 + 1) / 2 else cntS d 0 := by
  have hcc : ∀ n, cntS d n = cntS d 0 := fun n => by unfold cntS; rw [if_neg hc, if_neg hc]
  unfold textS at h
  split at h
  · rename_i h72
    rw [if_pos h72, hexS_len h, hcc]
  · rename_i h72
    rw [if_neg h72]
    try rw [if_neg hc] at h
    simp only at h
    cases h
    split
    · rw [List.length_set, List.length_append, List.length_take, List.length_replicate]
      omega
    · rw [List.length_append, List.length_take, List.length_replicate]
      omega
/-- How much longer one item makes it. -/
def oneLen (d : Dir) : Nat := if d.letter == 72 then (cntS d 0 + 1) / 2 else if isStr d.letter || d.letter == 120 then cntS d 0 else sz d.letter
theorem fin_len {o l : B} {v : Nat} {r : B × Nat} (h : (if o.length + l.length > 100000 then Except.error 5 else .ok (o ++ l, v) : Except Int (B × Nat)) = .ok r) : r.1.length = o.length + l.length := by
  split at h
  · cases h
  · cases h
    rw [List.length_append]
theorem oneS_len {d : Dir} {items : List Item} {out : B} {used : Nat} {r : B × Nat} (hok : CntOk d.letter d.count) (h64 : d.letter ≠ 64) (hc : d.count ≠ -1) (h119 : d.letter ≠ 119) (h85 : d.letter ≠ 85) (h : oneS d items out used = .ok r) : r.1.length = out.length + oneLen d := by
  unfold oneS at h
  simp only at h
  split at h
  · rename_i h120
    rw [fin_len h, List.length_replicate]
    have h72 : ¬ (d.letter == 72) = true := by rw [show d.letter = 120 by simpa using h120]; decide
    unfold oneLen
    rw [if_neg h72, if_pos (by rw [h120]; simp)]
    unfold cntS
    rw [if_neg hc]
    have hl : d.letter = 120 := by simpa using h120
    unfold CntOk at hok
    rw [hl] at hok
    split
    · omega
    · rcases hok with h | h | h
      · exact absurd h.1 hc
      · omega
      · have := h.2.2 (by decide)
        omega
  · rename_i h120
    rw [if_neg (show ¬ (d.letter == 64) = true by simpa using h64)] at h
    split at h
    · cases h
    · split at h
      · cases h
      · split at h
        · cases h
        · rename_i l hl
          rw [fin_len h]
          unfold oneLen
          cases hs : isStr d.letter with
          | true =>
            rw [hs, if_pos rfl] at hl
            rw [textS_len hc hl]
            split <;> simp
          | false =>
            rw [hs, if_neg (by decide)] at hl
            rw [numS_len h119 h85 hl, if_neg (fun h => by rw [show d.letter = 72 by simpa using h] at hs; cases hs), if_neg (by simpa using h120)]
theorem timesS_len {d : Dir} {items : List Item} (hok : CntOk d.letter d.count) (h64 : d.letter ≠ 64) (hc : d.count ≠ -1) (h119 : d.letter ≠ 119) (h85 : d.letter ≠ 85) : ∀ (k : Nat) {out : B} {used : Nat} {r : B × Nat}, timesS d items k out used = .ok r → r.1.length = out.length + k * oneLen d
  | 0, out, used, r, h => by
    cases h
    simp
  | k + 1, out, used, r, h => by
    unfold timesS at h
    cases h1 : oneS d items out used with
    | error e => rw [h1] at h; cases h
    | ok x =>
      rw [h1] at h
      have h2 := oneS_len hok h64 hc h119 h85 h1
      have h3 := timesS_len hok h64 hc h119 h85 k h
      rw [h3, h2, Nat.succ_mul]
      omega
theorem timesS_step {d : Dir} {items : List Item} {out : B} {used left m : Nat} {r : B × Nat} (hok : CntOk d.letter d.count) (h : timesS d items (times d left) out used = .ok r) (hm : szStep d out.length = some m) : r.1.length = m := by
  unfold szStep at hm
  split at hm
  · rename_i h64
    cases hm
    have hl : d.letter = 64 := by simpa using h64
    have ht : times d left = 1 := by unfold times isPl; rw [h64]; simp
    rw [ht] at h
    unfold timesS at h
    cases h1 : oneS d items out used with
    | error e => rw [h1] at h; cases h
    | ok x =>
      rw [h1] at h
      cases h
      unfold oneS at h1
      simp only at h1
      rw [hl, if_neg (by decide), if_pos (by decide)] at h1
      rw [fin_len h1, List.length_replicate, List.length_take]
      omega
  split at hm
  · cases hm
  · rename_i h64 h9
    simp only [Bool.or_eq_true, decide_eq_true_eq, beq_iff_eq, not_or] at h9
    have h64' : d.letter ≠ 64 := by simpa using h64
    have h3 := timesS_len hok h64' h9.1.1 h9.1.2 h9.2 _ h
    have hcc : ∀ n, cntS d n = cntS d 0 := fun n => by unfold cntS; rw [if_neg h9.1.1, if_neg h9.1.1]
    rw [h3]
    unfold oneLen
    split at hm
    · rename_i h72
      cases hm
      have ht : times d left = 1 := by unfold times isStr; rw [h72]; simp
      rw [ht, if_pos h72, Nat.one_mul]
    split at hm
    · rename_i h72 hsx
      cases hm
      have ht : times d left = 1 := by
        unfold times isPl
        rw [Bool.or_eq_true] at hsx
        rcases hsx with h | h <;> rw [h] <;> simp
      rw [ht, if_neg h72, if_pos hsx, Nat.one_mul]
    · rename_i h72 hsx
      cases hm
      rw [Bool.or_eq_true, not_or] at hsx
      have ht : times d left = cntS d left := by
        unfold times isPl
        rw [if_neg]
        intro h
        rw [Bool.or_eq_true, Bool.or_eq_true] at h
        rcases h with h | h | h
        · exact hsx.1 h
        · exact hsx.2 h
        · exact h64 h
      rw [ht, hcc, if_neg h72, if_neg (by rw [Bool.or_eq_true, not_or]; exact hsx)]
theorem runS_len {items : List Item} : ∀ (l : List Dir) {out : B} {used n : Nat} {r : B × Nat}, (∀ d ∈ l, CntOk d.letter d.count) → runS items l out used = .ok r → sizeS l out.length = some n → r.1.length = n
  | [], out, used, n, r, _, h, hn => by
    cases h
    cases hn
    rfl
  | d :: l, out, used, n, r, hok, h, hn => by
    unfold runS at h
    rw [sizeS_cons] at hn
    cases h1 : timesS d items (times d (items.length - used)) out used with
    | error e => rw [h1] at h; cases h
    | ok x =>
      obtain ⟨o, u⟩ := x
      rw [h1] at h
      cases hm : szStep d out.length with
      | none => rw [hm] at hn; cases hn
      | some m =>
        rw [hm] at hn
        have h2 := timesS_step (hok d (List.mem_cons_self ..)) h1 hm
        have h3 : o.length = m := h2
        exact runS_len l (fun x hx => hok x (List.mem_cons_of_mem _ hx)) h (by rw [h3]; exact hn)
theorem packS_len {form : B} {items : List Item} {r : B × Nat} {ds : List Dir} {n : Nat} (hf : forms form = some ds) (h : packS form items = .ok r) (hn : sizeS ds 0 = some n) : r.1.length = n := by
  unfold packS at h
  rw [hf] at h
  exact runS_len ds (fun d hd => ((forms_ok hf).2 d hd).2) h hn
end Go.Pack

/-
  Plain Lean: forms that are put together of directives.
-/
namespace Go.Pack
set_option maxRecDepth 20000
/-- The counts that are written, and what is left of one. -/
def cts : List B := [[], [49], [50], [51], [42], [55], [48], [49, 50]]
def letter18 (k : Nat) : UInt8 := letters.getD k 0
def cntW (k j : Nat) : B := if (cts.getD j [] == [48] && letter18 k != 64) || (cts.getD j [] == [42] && decide (16 ≤ k)) then [] else cts.getD j []
def bigW (g : Bool) (k : Nat) : B := if g && decide (2 ≤ k) && decide (k < 8) then [62] else []
def piece (k : Nat) (g : Bool) (j : Nat) (sp : Bool) : B := letter18 k :: (bigW g k ++ cntW k j ++ if sp then [32] else [])
def pure2 (s : B) : Bool := s.all fun c => c != 64 && c != 42
def pieceOk (k : Nat) (g : Bool) (j : Nat) (sp : Bool) : Bool := match dirs (piece k g j sp) with
  | some [d] => decide (d.count ≤ 12) && (!pure2 (piece k g j sp) || (d.letter != 64 && decide (d.count ≠ -1))) && decide ((piece k g j sp).length ≤ 5) && letters.contains (letter18 k)
  | _ => false
theorem piece_tab : ∀ (k : Fin 18) (g : Bool) (j : Fin 8) (sp : Bool), pieceOk k.val g j.val sp = true := by decide +kernel
structure FormOk (i : Nat) (form : B) (ds : List Dir) : Prop where
  dirs : dirs form = some ds
  len : ds.length = i
  size : form.length ≤ 5 * i
  cnt : ∀ d ∈ ds, d.count ≤ 12
  pl : pure2 form = true → ∀ d ∈ ds, plainD d
theorem FormOk.nil : FormOk 0 [] [] := ⟨by rfl, rfl, Nat.zero_le _, fun _ h => by simp at h, fun _ _ h => by simp at h⟩
theorem FormOk.step {i : Nat} {form : B} {ds : List Dir} (h : FormOk i form ds) (k j : Nat) (g sp : Bool) (hk : k < 18) (hj : j < 8) : ∃ ds', FormOk (i + 1) (form ++ piece k g j sp) ds' := by
  have ht := piece_tab ⟨k, hk⟩ g ⟨j, hj⟩ sp
  unfold pieceOk at ht
  simp only at ht
  split at ht
  · rename_i d hd
    simp only [Bool.and_eq_true, decide_eq_true_eq] at ht
    obtain ⟨⟨⟨h1, h2⟩, h3⟩, h4⟩ := ht
    have hs : stop (piece k g j sp) := stop_letter h4 _
    have ha := dirs_app hs form.length form ds (Nat.le_refl _) h.dirs
    rw [hd] at ha
    refine ⟨ds ++ [d], ha, by rw [List.length_append, h.len]; rfl, by rw [List.length_append]; have := h.size; omega, fun x hx => ?_, fun hp x hx => ?_⟩
    · rcases List.mem_append.1 hx with hx | hx
      · exact h.cnt x hx
      · rw [List.mem_singleton.1 hx]; exact h1
    · have hp2 : pure2 form = true ∧ pure2 (piece k g j sp) = true := by
        unfold pure2 at hp ⊢
        rw [List.all_append, Bool.and_eq_true] at hp
        exact hp
      rcases List.mem_append.1 hx with hx | hx
      · exact h.pl hp2.1 x hx
      · rw [List.mem_singleton.1 hx]
        rw [hp2.2] at h2
        simpa [plainD] using h2
  · cases ht
end Go.Pack

/-
  AX, thirty-fifth text: an executor whose arms may come together again.
-/
namespace Go.AX

/-- What is behind a statement whose arms come together: a family of states. -/
def joinK {ι : Type} (inv : ι → Prop) (sl : ι → List AV) (hp : ι → List Ent) (K : Ex → List AV → List Ent → Prop) (e : Ex) (s' : List AV) (H' : List Ent) : Prop :=
  match e with
  | .normal => ∃ i, inv i ∧ wkS s' (sl i) ∧ wkH H' (hp i)
  | .exit n => K (.exit n) s' H'
  | .ret => K .ret s' H'
  | .pan c => K (.pan c) s' H'
/-- One statement and another: straight on; or all that the first one leaves is a family of states. -/
inductive SeqN (ia ib : List AV → List Ent → (Ex → List AV → List Ent → Prop) → Prop) (s : List AV) (H : List Ent) (K : Ex → List AV → List Ent → Prop) : Prop where
  | plain (h : ia s H (seqK ib K))
  | join (ι : Type) (inv : ι → Prop) (sl : ι → List AV) (hp : ι → List Ent) (len : ∀ i, inv i → H.length ≤ (hp i).length) (oks : ∀ i, inv i → okSB (hp i).length (sl i) = true) (okh : ∀ i, inv i → okH (hp i).length (hp i))
      (h : ia s H (joinK inv sl hp K)) (next : ∀ i, inv i → forceS (sl i) fun s => forceH (hp i) fun H => ib s H K)
def execJ (P : Program) (c : Code) : List AV → List Ent → (Ex → List AV → List Ent → Prop) → Prop :=
  Code.rec (motive := fun _ => List AV → List Ent → (Ex → List AV → List Ent → Prop) → Prop)
    (fun s H K => K .normal s H)
    (fun _ ops draw s H K => regionK P ops draw s H K)
    (fun _ _ ia ib s H K => SeqN ia ib s H K)
    (fun c _ _ ia ib s H K => condK c s (fun s => ia s H K) (fun s => ib s H K))
    (fun id _ ib s H K => ib s H (blockK id K))
    (fun _ ib s H K => LoopN ib s H K)
    (fun _ _ _ _ _ _ _ _ _ => False)
    (fun id s H K => K (.exit id) s H)
    (fun _ _ _ _ _ => False)
    (fun _ s H K => K .normal s H)
    (fun _ _ _ _ => False)
    (fun s H K => K .ret s H)
    (fun _ _ _ _ => False)
    c
theorem execJ_sound {P : Program} (hm : P.follows .mixedOrders = true) : ∀ (c : Code) (s : List AV) (H : List Ent) (K : Ex → List AV → List Ent → Prop), execJ P c s H K →
    ∀ (ρ : List Loc) (S : Nat → Prop) (w : World) (a : Act), Sat ρ S H w → RelS ρ s a.tmps.toList → c.wp P (Post ρ S H w a.defers K) a w := by
  intro c
  induction c with
  | skip => intro s H K h ρ S w a hs hr; exact wp_skip ⟨ρ, S, s, H, .normal, hs, Ev.refl _ _ _ _, hr, rfl, trivial, h⟩
  | label l => intro s H K h ρ S w a hs hr; exact wp_label ⟨ρ, S, s, H, .normal, hs, Ev.refl _ _ _ _, hr, rfl, trivial, h⟩
  | exit id => intro s H K h ρ S w a hs hr; exact wp_exit ⟨ρ, S, s, H, .exit id, hs, Ev.refl _ _ _ _, hr, rfl, rfl, h⟩
  | ret => intro s H K h ρ S w a hs hr; exact wp_ret ⟨ρ, S, s, H, .ret, hs, Ev.refl _ _ _ _, hr, rfl, trivial, h⟩
  | goto l => intro s H K h; exact h.elim
  | refuse y => intro s H K h; exact h.elim
  | scope b ih => intro s H K h; exact h.elim
  | rangeFunc f ps _ b _ _ => intro s H K h; exact h.elim
  | region id ops draw =>
    intro s H K h0 ρ S w a hs hr
    have h : regionK P ops draw s H K := h0
    clear h0
    unfold regionK at h
    split at h
    · exact wp_region_list (execOps_sound _ _ _ h ρ S w a hs hr)
    · have h0 : Cls ρ S H w { w with drawn := w.drawn + 1 } := ⟨S, hs.heap rfl, Ev.drew _ _ _ _⟩
      rcases h with ⟨hB, h⟩ | ⟨pre, hd, tl, hB, h⟩ | ⟨pre, hd, tl, hB, h⟩ | ⟨C, pre, hd, tl, hB, hC, h⟩
      · refine wp_region_quiet (C := Cls ρ S H w) hm hB h0 ?_
        have hq := execQ_sound ⟨_, h0⟩ _ _ h a hr
        refine exec_sound.wpQuiet_mono (fun a' ⟨s', hK, hr', hd⟩ w' ⟨S', hs', hev⟩ => ?_) _ _ hq
        exact ⟨ρ, S', s', H, .normal, hs', hev, hr', hd, trivial, hK⟩
      · exact plan_sound hm hB h hs hr
      · exact planQ_sound hm hB h hs hr
      · exact planC_sound hm hB hC h hs hr
  | seq x y ihx ihy =>
    intro s H K h0 ρ S w a hs hr
    have h : SeqN (execJ P x) (execJ P y) s H K := h0
    have key : ∀ K2 : Ex → List AV → List Ent → Prop, execJ P x s H K2 → (∀ (e : Ex) (s1 : List AV) (H1 : List Ent) (ρ1 : List Loc) (S1 : Nat → Prop) (w1 : World) (a1 : Act), K2 e s1 H1 → Sat ρ1 S1 H1 w1 → Ev ρ S H w ρ1 S1 H1 w1 → relX e ρ1 s1 a1.tmps.toList → ∃ s2 H2 ρ2 S2, Sat ρ2 S2 H2 w1 ∧ Ev ρ S H w ρ2 S2 H2 w1 ∧ relX e ρ2 s2 a1.tmps.toList ∧ seqK (execJ P y) K e s2 H2) → (Code.seq x y).wp P (Post ρ S H w a.defers K) a w := by
      intro K2 h2 hk
      refine wp_seq (wp_mono (ihx s H K2 h2 ρ S w a hs hr) fun e a' w' hp => ?_)
      obtain ⟨ρ0, S0, s0, H0, ex, hs0, hev0, hr0, hd, hex, hK0⟩ := hp
      obtain ⟨s1, H1, ρ1, S1, hs1, hev, hr1, hK⟩ := hk ex s0 H0 ρ0 S0 w' a' hK0 hs0 hev0 hr0
      cases ex with
      | normal =>
        cases e <;> first | exact hex.elim | skip
        refine wp_mono (ihy s1 H1 K hK ρ1 S1 w' a' hs1 hr1) fun e2 a2 w2 hp2 => ?_
        rw [hd] at hp2
        exact hp2.from hev
      | exit n => cases e <;> first | exact hex.elim | exact ⟨ρ1, S1, s1, H1, .exit n, hs1, hev, hr1, hd, hex, hK⟩
      | ret => cases e <;> first | exact hex.elim | exact ⟨ρ1, S1, s1, H1, .ret, hs1, hev, hr1, hd, hex, hK⟩
      | pan n => cases e <;> first | exact hex.elim | exact ⟨ρ1, S1, s1, H1, .pan n, hs1, hev, hr1, hd, hex, hK⟩
    rcases h with h | ⟨ι, inv, sl, hp, hlen, hoks, hokh, h, hnext⟩
    · exact key _ h fun e s1 H1 ρ1 S1 w1 a1 hK hs1 hev hr1 => ⟨s1, H1, ρ1, S1, hs1, hev, hr1, hK⟩
    · simp only [forceS_eq, forceH_eq] at hnext
      refine key _ h fun e s1 H1 ρ1 S1 w1 a1 hK hs1 hev hr1 => ?_
      cases e with
      | normal =>
        obtain ⟨j, hij, hws, hwh⟩ := hK
        have hw := hs1.weak hwh (hokh j hij)
        refine ⟨sl j, hp j, ρ1.take (hp j).length, S1, hw.1, ⟨?_, hev.os, hev.tape, hev.output, hev.size, hev.keep, hev.imm, fun b hb => hev.own b (hw.2 b hb)⟩, wkS_rel hws (hoks j hij) hr1, hnext j hij⟩
        obtain ⟨t, ht⟩ := hev.pre
        refine ⟨t.take ((hp j).length - ρ.length), ?_⟩
        rw [ht, List.take_append, List.take_of_length_le (by rw [hs.len]; exact hlen j hij)]
      | exit n => exact ⟨s1, H1, ρ1, S1, hs1, hev, hr1, hK⟩
      | ret => exact ⟨s1, H1, ρ1, S1, hs1, hev, hr1, hK⟩
      | pan n => exact ⟨s1, H1, ρ1, S1, hs1, hev, hr1, hK⟩
  | cond c x y ihx ihy =>
    intro s H K h0 ρ S w a hs hr
    have h : condK c s (fun s => execJ P x s H K) (fun s => execJ P y s H K) := h0
    obtain ⟨b, hb, hc⟩ := condK_spec h hr
    refine wp_cond hb ?_
    rcases hc with ⟨rfl, s', hK, hr'⟩ | ⟨rfl, s', hK, hr'⟩
    · exact ihx s' H K hK ρ S w a hs hr'
    · exact ihy s' H K hK ρ S w a hs hr'
  | block id b ih =>
    intro s H K h ρ S w a hs hr
    refine wp_block (wp_mono (ih s H (blockK id K) h ρ S w a hs hr) fun e a' w' hp => ?_)
    obtain ⟨ρ1, S1, s1, H1, ex, hs1, hev, hr1, hd, hex, hK⟩ := hp
    cases ex with
    | normal => cases e <;> first | exact hex.elim | exact ⟨ρ1, S1, s1, H1, .normal, hs1, hev, hr1, hd, trivial, hK⟩
    | ret => cases e <;> first | exact hex.elim | exact ⟨ρ1, S1, s1, H1, .ret, hs1, hev, hr1, hd, trivial, hK⟩
    | pan n => cases e <;> first | exact hex.elim | exact ⟨ρ1, S1, s1, H1, .pan n, hs1, hev, hr1, hd, hex, hK⟩
    | exit n =>
      cases e <;> first | exact hex.elim | skip
      rename_i m
      have hnm : n = m := hex
      subst hnm
      by_cases hid : n = id
      · subst hid
        simp only [Exit.inBlock, if_true]
        have hK' : K .normal s1 H1 := by simpa [blockK] using hK
        exact ⟨ρ1, S1, s1, H1, .normal, hs1, hev, hr1, hd, trivial, hK'⟩
      · simp only [Exit.inBlock, if_neg hid]
        have hbq : Nat.beq n id = false := by cases hq : Nat.beq n id with | false => rfl | true => exact absurd (Nat.eq_of_beq_eq_true hq) hid
        have hK' : K (.exit n) s1 H1 := by simpa [blockK, hbq] using hK
        exact ⟨ρ1, S1, s1, H1, .exit n, hs1, hev, hr1, hd, rfl, hK'⟩
  | loop b ih =>
    intro s H K h0 ρ S w a hs hr
    have h : LoopN (execJ P b) s H K := h0
    rcases h with ⟨ι, inv, sl, hp, μ, pad, hpad, hlen, hoks, hokh, ⟨i0, hi0, hst, hsh⟩, hround⟩ | ⟨n, hU⟩
    · obtain ⟨t0, hs0, hev0⟩ := Sat.pad pad hpad hs
      have hr0 := RelS_pre t0 hr
      refine wp_mono (P := P) (c := .loop b) (Q := Post (ρ ++ t0) S (H ++ pad) w a.defers K) ?_ fun e a' w' hp => hp.from hev0
      clear hs hr h0
      have hs := hs0
      have hr := hr0
      clear hs0 hr0
      generalize ρ ++ t0 = ρ at *
      generalize H ++ pad = H at *
      simp only [forceS_eq, forceH_eq] at hround
      refine wp_loop_by (fun n a' w' => ∃ i ρ' S', inv i ∧ μ i = n ∧ Sat ρ' S' (hp i) w' ∧ Ev ρ S H w ρ' S' (hp i) w' ∧ RelS ρ' (sl i) a'.tmps.toList ∧ a'.defers = a.defers) ?_ (μ i0) a w ?_
      · rintro n a' w' ⟨i, ρ', S', hinv, rfl, hs', hev, hr', hd⟩
        refine wp_mono (ih (sl i) (hp i) _ (hround i hinv) ρ' S' w' a' hs' hr') fun e a2 w2 hq => ?_
        obtain ⟨ρ2, S2, s2, H2, ex, hs2, hev2, hr2, hd2, hex, hK⟩ := hq
        cases ex with
        | normal =>
          cases e <;> first | exact hex.elim | skip
          obtain ⟨j, hij, hj, hws, hwh⟩ := hK
          have hw := hs2.weak hwh (by rw [hlen]; exact hokh j hij)
          refine ⟨μ j, hj, j, ρ2.take (hp j).length, S2, hij, rfl, hw.1, ?_, ?_, hd2.trans hd⟩
          · have h12 := hev.trans hev2
            refine ⟨?_, h12.os, h12.tape, h12.output, h12.size, h12.keep, h12.imm, fun b hb => h12.own b (hw.2 b hb)⟩
            obtain ⟨t, ht⟩ := h12.pre
            refine ⟨t.take ((hp j).length - ρ.length), ?_⟩
            rw [ht, List.take_append, List.take_of_length_le (by rw [hs.len, hlen]; omega)]
          · rw [hlen]; exact wkS_rel hws (hoks j) hr2
        | exit n => cases e <;> first | exact hex.elim | exact ⟨ρ2, S2, s2, H2, .exit n, hs2, hev.trans hev2, hr2, hd2.trans hd, hex, hK⟩
        | ret => cases e <;> first | exact hex.elim | exact ⟨ρ2, S2, s2, H2, .ret, hs2, hev.trans hev2, hr2, hd2.trans hd, trivial, hK⟩
        | pan n => cases e <;> first | exact hex.elim | exact ⟨ρ2, S2, s2, H2, .pan n, hs2, hev.trans hev2, hr2, hd2.trans hd, hex, hK⟩
      · have hw := hs.weak hsh (by rw [hlen]; exact hokh i0 hi0)
        have hρ : ρ.take (hp i0).length = ρ := List.take_of_length_le (by rw [hs.len, hlen]; omega)
        rw [hρ] at hw
        refine ⟨i0, ρ, S, hi0, rfl, hw.1, ⟨⟨[], by simp⟩, rfl, rfl, rfl, Nat.le_refl _, fun _ _ _ => rfl, fun b hb => .inl hb, fun b hb => .inl (hw.2 b hb)⟩, ?_, rfl⟩
        have := wkS_rel hst (hoks i0) hr
        rw [← hlen i0, hρ] at this
        exact this
    · refine wp_loop_by (fun n a' w' => ∃ s' H' ρ' S', LoopU (execJ P b) K n s' H' ∧ Sat ρ' S' H' w' ∧ Ev ρ S H w ρ' S' H' w' ∧ RelS ρ' s' a'.tmps.toList ∧ a'.defers = a.defers) ?_ n a w ⟨s, H, ρ, S, hU, hs, Ev.refl _ _ _ _, hr, rfl⟩
      rintro n a' w' ⟨s', H', ρ', S', hU, hs', hev, hr', hd⟩
      cases n with
      | zero => exact hU.elim
      | succ n =>
        refine wp_mono (ih s' H' _ hU ρ' S' w' a' hs' hr') fun e a2 w2 hq => ?_
        obtain ⟨ρ2, S2, s2, H2, ex, hs2, hev2, hr2, hd2, hex, hK⟩ := hq
        cases ex with
        | normal =>
          cases e <;> first | exact hex.elim | skip
          exact ⟨n, Nat.lt_succ_self n, s2, H2, ρ2, S2, hK, hs2, hev.trans hev2, hr2, hd2.trans hd⟩
        | exit n => cases e <;> first | exact hex.elim | exact ⟨ρ2, S2, s2, H2, .exit n, hs2, hev.trans hev2, hr2, hd2.trans hd, hex, hK⟩
        | ret => cases e <;> first | exact hex.elim | exact ⟨ρ2, S2, s2, H2, .ret, hs2, hev.trans hev2, hr2, hd2.trans hd, trivial, hK⟩
        | pan n => cases e <;> first | exact hex.elim | exact ⟨ρ2, S2, s2, H2, .pan n, hs2, hev.trans hev2, hr2, hd2.trans hd, hex, hK⟩
/-- What the executor shows of a function's body holds of its calls. -/
theorem specJ_of_exec {P : Program} (hm : P.follows .mixedOrders = true) {f : FuncId} {fn : Func} {c : Code} (hf : P.funcs[f]? = some fn) (hn : (fn.name == "runtime.NumGoroutine") = false) (hb : fn.body = some c)
    {args : List AV} (hl : Nat.ble args.length fn.ntmps = true) {H : List Ent} {K : Out → List Ent → Prop} (h : initK fn.ntmps args fun s => execJ P c s H (endK P fn.results.toList K)) : SpecH P f args H K := by
  refine ⟨⟨fn, hf, hn, by rw [hb]; rfl⟩, fun ρ S w vs hs hr => ?_⟩
  have hvl := RelS_len hr
  obtain ⟨s0, h, hs0⟩ := initK_rel h (Nat.le_of_ble_eq_true hl)
  have hinit : RelS ρ s0 (vs.toArray ++ Array.replicate (fn.ntmps - vs.toArray.size) undef).toList := by
    have := hs0 ρ vs hr
    simpa [hvl] using this
  refine calls_of_wp hf hb (wp_mono (execJ_sound hm c _ H _ h ρ S w ⟨_, []⟩ hs hinit) ?_)
  · intro e a w' hp
    obtain ⟨ρ1, S1, s1, H1, ex, hs1, hev, hr1, hd, hex, hK⟩ := hp
    have fin : RelS ρ1 s1 a.tmps.toList → ∀ {K' : Out → Prop}, resK P fn.results.toList s1 H1 K' → (∀ out, K' out → K out H1) → ∃ v, (results fn a.tmps).run P w' = .ok v w' ∧
        ∃ ρ' S' H' out, Sat ρ' S' H' w' ∧ Ev ρ S H w ρ' S' H' w' ∧ OutOk ρ' out (.returned v) ∧ K out H' := fun hr2 {_} hK1 hK2 => by
      obtain ⟨out, hK3, hres⟩ := resK_sound hK1
      obtain ⟨v, hrun, hv⟩ := hres ρ1 S1 w' a.tmps hs1 hr2
      exact ⟨v, hrun, ρ1, S1, H1, out, hs1, hev, hv, hK2 out hK3⟩
    cases ex with
    | normal =>
      cases e <;> first | exact hex.elim | skip
      obtain ⟨v, hrun, hR⟩ := fin hr1 (K' := fun out => K out H1) hK fun _ h => h
      exact ⟨hd, v, hrun, hR⟩
    | ret =>
      cases e <;> first | exact hex.elim | skip
      obtain ⟨v, hrun, hR⟩ := fin hr1 (K' := fun out => K out H1) hK fun _ h => h
      exact ⟨hd, v, hrun, hR⟩
    | exit n => exact hK.elim
    | pan ch =>
      cases e <;> first | exact hex.elim | skip
      have : ch = _ := hex
      subst this
      exact ⟨hd, ρ1, S1, H1, .pan ch, hs1, hev, rfl, hK⟩
theorem specFJ {P : Program} (hm : P.follows .mixedOrders = true) {f : FuncId} {fn : Func} {c : Code} (hf : P.funcs[f]? = some fn) (hn : (fn.name == "runtime.NumGoroutine") = false) (hb : fn.body = some c)
    {xs : List Value} (hl : Nat.ble (pvs xs).length fn.ntmps = true) {F : World → Prop} {R : Value → (World → Prop) → Prop} (h : initK fn.ntmps (pvs xs) fun s => execJ P c s [.fact F] (endK P fn.results.toList fun out H' => notPan out ∧ Fin R out H')) : SpecF P f xs F R :=
  specF_of (specJ_of_exec hm hf hn hb hl h)
end Go.AX

/-
  Contract: a form of picks, and items (law).
-/
namespace Go.Proofs.YtjkchonpnocffaaGreatDoor
open Go.AX Go.RowKit Go.Pack
set_option maxRecDepth 20000

/-- A pick. -/
structure PickV where
  letter : Int
  count : Int
  int : Int
  great : Bool
  text : List UInt8
def pickC (p : PickV) : List Value := [.int .i64 p.letter, .int .i64 p.count, .int .i64 p.int, .bool p.great, .string (bs p.text)]
def picksC (l : List PickV) : List Value := l.flatMap pickC
theorem picksC_get (l : List PickV) (i j : Nat) (hj : j < 5) {p : PickV} (hp : l[i]? = some p) : (picksC l)[i * 5 + j]? = (pickC p)[j]? := by
  unfold picksC
  rw [flat_get (g := pickC) (m := 5) (fun _ => rfl) l i j hj, hp]
  rfl
def PicksF (a : Option Addr) (l : List PickV) (w : World) : Prop := SlAt a (l.length * 5) (picksC l) w
/-- Items as formed makes them. -/
def ItOk (x : Pack.Item) : Prop := x.text.length ≤ 100 ∧ -9223372036854775808 ≤ x.int ∧ x.int < 9223372036854775808
def FormedR (n : Nat) (v : Value) (G : World → Prop) : Prop := ∃ (form : List UInt8) (ds : List Dir) (i : Nat) (items : List Pack.Item) (ob : Option Nat) (cap : Nat),
  v = .tuple #[.string (bs form), .slice (at0 ob) items.length cap] ∧ i ≤ 20 ∧ i ≤ n ∧ FormOk i form ds ∧ items.length ≤ 60 ∧ (∀ x ∈ items, ItOk x) ∧ (ob = none → items = []) ∧ items.length ≤ cap ∧ ∀ w, G w → SlAt (at0 ob) (items.length * 3) (itemsC items) w
def ctsC : List Value := [.string (bs []), .string (bs [49]), .string (bs [50]), .string (bs [51]), .string (bs [42]), .string (bs [55]), .string (bs [48]), .string (bs [49, 50])]
theorem cts_get {j : Nat} (h : j < 8) : ctsC[j]? = some (.string (bs (cts.getD j []))) := by
  have h2 : j = 0 ∨ j = 1 ∨ j = 2 ∨ j = 3 ∨ j = 4 ∨ j = 5 ∨ j = 6 ∨ j = 7 := by omega
  rcases h2 with rfl | rfl | rfl | rfl | rfl | rfl | rfl | rfl <;> rfl
theorem wrap_u64m (n : Int) : IntKind.u64.wrap n = n % 18446744073709551616 := by
  simp [IntKind.wrap, IntKind.bits, IntKind.signed]
/-- A number without its sign, by its bits. -/
theorem u_nat (n : Int) : ∃ U : Nat, IntKind.u64.wrap n = (U : Int) ∧ U < 18446744073709551616 := ⟨(n % 18446744073709551616).toNat, by rw [wrap_u64m]; omega, by omega⟩
theorem lt18 (k : Nat) (h : k < 18) : (letters.take (k + 1)).drop k = [letter18 k] := by
  have h2 : k = 0 ∨ k = 1 ∨ k = 2 ∨ k = 3 ∨ k = 4 ∨ k = 5 ∨ k = 6 ∨ k = 7 ∨ k = 8 ∨ k = 9 ∨ k = 10 ∨ k = 11 ∨ k = 12 ∨ k = 13 ∨ k = 14 ∨ k = 15 ∨ k = 16 ∨ k = 17 := by omega
  rcases h2 with rfl | rfl | rfl | rfl | rfl | rfl | rfl | rfl | rfl | rfl | rfl | rfl | rfl | rfl | rfl | rfl | rfl | rfl <;> rfl
theorem big_le (g : Bool) (k : Nat) : (bigW g k).length ≤ 1 := by
  unfold bigW
  split <;> simp
theorem cnt_le (k : Nat) {j : Nat} (h : j < 8) : (cntW k j).length ≤ 2 := by
  have h2 : j = 0 ∨ j = 1 ∨ j = 2 ∨ j = 3 ∨ j = 4 ∨ j = 5 ∨ j = 6 ∨ j = 7 := by omega
  unfold cntW
  split
  · simp
  · rcases h2 with rfl | rfl | rfl | rfl | rfl | rfl | rfl | rfl <;> decide
theorem wrap_rng (x : Int) : -9223372036854775808 ≤ IntKind.i64.wrap x ∧ IntKind.i64.wrap x < 9223372036854775808 := by
  rw [wrap_eq]
  split <;> omega
theorem av_bs {a b : List UInt8} (h : a = b) : AV.c (.v (.string (bs a))) = AV.c (.v (.string (bs b))) := by rw [h]
set_option maxHeartbeats 4000000 in
theorem formed_c (ia : Option Addr) (l : List PickV) (pcap : Nat) (ha : l ≠ [] → ia.isSome = true) (hr : ∀ p ∈ l, -9223372036854775808 ≤ p.int ∧ p.int < 9223372036854775808) :
    SpecF Tryz.prog 4 [.slice ia l.length pcap] (PicksF ia l) (FormedR l.length) := by
  refine specFJ hm Tryz.func4 (by kernel_rfl) rfl rfl ?_
  ((conv => whnf); (repeat ((first | refine BoxN.own ?_ | refine VrN.norm (wrap_i64 (by omega)) ?_ | refine VrN.keep ?_ | refine DrawN.calm (by decide +kernel) ?_ | refine Nd.mk (by decide +kernel) ?_ | refine Nd.mk (by omega) ?_ | (refine Nd.mk ?_ ?_; focus ((repeat' (first | exact trivial | exact wkE_refl _ | refine And.intro ?_ ?_)); done)) | refine RdN.intro _ rfl (by rfl) ?_); (conv => whnf))))
  repeat (refine SeqN.plain ?_; ((conv => whnf); (repeat ((first | refine BoxN.own ?_ | refine VrN.norm (wrap_i64 (by omega)) ?_ | refine VrN.keep ?_ | refine DrawN.calm (by decide +kernel) ?_ | refine Nd.mk (by decide +kernel) ?_ | refine Nd.mk (by omega) ?_ | (refine Nd.mk ?_ ?_; focus ((repeat' (first | exact trivial | exact wkE_refl _ | refine And.intro ?_ ?_)); done)) | refine RdN.intro _ rfl (by rfl) ?_); (conv => whnf)))))
  refine RwN.known ctsC rfl fun cb => ?_
  ((conv => whnf); (repeat ((first | refine SeqN.plain ?_ | refine BoxN.own ?_ | refine RwN.own ?_ | refine VrN.norm (wrap_i64 (by omega)) ?_ | refine VrN.keep ?_ | refine DrawN.calm (by decide +kernel) ?_ | refine Nd.mk (by decide +kernel) ?_ | refine Nd.mk (by omega) ?_ | (refine Nd.mk ?_ ?_; focus ((repeat' (first | exact trivial | exact wkE_refl _ | refine And.intro ?_ ?_)); done)) | refine RdN.intro _ rfl (by rfl) ?_); (conv => whnf))))
  refine LoopN.intro (Nat × List UInt8 × List Dir × List Pack.Item × Option Nat × Nat) (fun ⟨i, form, ds, items, ob, cap⟩ => i ≤ 20 ∧ i ≤ l.length ∧ FormOk i form ds ∧ items.length ≤ 3 * i ∧ (∀ x ∈ items, ItOk x) ∧ ((ob = none → items = [] ∧ cap = 0) ∧ items.length ≤ cap))
    (fun ⟨i, form, _, items, ob, cap⟩ => mkS Tryz.f4.ntmps 0 [(0, .c (.v (.slice ia l.length pcap))), (4, .c (.v (.string (bs form)))), (5, .c (.v (.slice (at0 ob) items.length cap))), (6, .c (.v (.slice (some ⟨cb, 0, none⟩) 8 8))), (7, .c (.v (.int .i64 (i : Int))))])
    (fun ⟨_, _, _, items, ob, cap⟩ => [.fact (PicksF ia l), .app 9 1 ctsC (some ⟨cb, 0, none⟩) 8 8, .app 44 3 (itemsC items) (at0 ob) items.length cap]) (fun ⟨i, _, _, _, _, _⟩ => 20 - i) [.app 0 0 [] none 0 0] rfl
    (fun _ => rfl) (fun _ => rfl) (fun _ _ => okHB_eq rfl) ⟨(0, [], [], [], none, 0), ⟨Nat.zero_le _, Nat.zero_le _, FormOk.nil, Nat.zero_le _, fun _ h => (by cases h), ⟨fun _ => ⟨rfl, rfl⟩, Nat.le_refl _⟩⟩, ?_, ?_⟩ ?_
  · (repeat' (first | exact trivial | refine And.intro (by with_reducible rfl) ?_ | (with_reducible exact wkC_refl _) | (with_reducible exact wkCs_refl _) | refine And.intro ?_ ?_))
    all_goals rfl
  · exact ⟨wkE_refl _, wkE_refl _, wkE_nil, wkH_nil _⟩
  rintro ⟨i, form, ds, items, ob, cap⟩ ⟨hi20, hil, hfo, hit, hio, hob⟩
  ((conv => whnf); (repeat ((first | refine SeqN.plain ?_ | refine BoxN.own ?_ | refine RwN.own ?_ | refine VrN.norm (wrap_i64 (by omega)) ?_ | refine VrN.keep ?_ | refine DrawN.calm (by decide +kernel) ?_ | refine Nd.mk (by decide +kernel) ?_ | refine Nd.mk (by omega) ?_ | (refine Nd.mk ?_ ?_; focus ((repeat' (first | exact trivial | exact wkE_refl _ | refine And.intro ?_ ?_)); done)) | refine RdN.intro _ rfl (by rfl) ?_); (conv => whnf))))
  refine brd_dec (fun h1 => ?_) (fun h1 => ?_)
  · ((conv => whnf); (repeat ((first | refine SeqN.plain ?_ | refine BoxN.own ?_ | refine RwN.own ?_ | refine VrN.norm (wrap_i64 (by omega)) ?_ | refine VrN.keep ?_ | refine DrawN.calm (by decide +kernel) ?_ | refine Nd.mk (by decide +kernel) ?_ | refine Nd.mk (by omega) ?_ | (refine Nd.mk ?_ ?_; focus ((repeat' (first | exact trivial | exact wkE_refl _ | refine And.intro ?_ ?_)); done)) | refine RdN.intro _ rfl (by rfl) ?_); (conv => whnf))))
    refine brd_dec (fun h2 => ?_) (fun h2 => ?_)
    · obtain ⟨p, hp⟩ : ∃ p, l[i]? = some p := ⟨_, List.getElem?_eq_getElem (by omega)⟩
      have hpr := hr p (List.mem_of_getElem? hp)
      have hsa : ia.isSome = true := ha (fun h => by rw [h] at hp; cases hp)
      obtain ⟨U, hU, hUl⟩ := u_nat p.letter
      obtain ⟨V, hV, hVl⟩ := u_nat p.count
      have hU18 : (U : Int).tmod 18 = ((U % 18 : Nat) : Int) := (Int.ofNat_tmod U 18).symm
      have hV8 : (V : Int).tmod 8 = ((V % 8 : Nat) : Int) := (Int.ofNat_tmod V 8).symm
      have hV16 : (V : Int).tmod 16 = ((V % 16 : Nat) : Int) := (Int.ofNat_tmod V 16).symm
      have hi3 : (i : Int).tmod 3 = ((i % 3 : Nat) : Int) := (Int.ofNat_tmod i 3).symm
      have hk18 : U % 18 < 18 := Nat.mod_lt _ (by decide)
      have hj8 : V % 8 < 8 := Nat.mod_lt _ (by decide)
      have hK : IntKind.i64.wrap ((IntKind.u64.wrap p.letter).tmod 18) = ((U % 18 : Nat) : Int) := by rw [hU, hU18, wrap_i64 (by omega)]
      have hJ : IntKind.i64.wrap ((IntKind.u64.wrap p.count).tmod 8) = ((V % 8 : Nat) : Int) := by rw [hV, hV8, wrap_i64 (by omega)]
      have hS : (IntKind.u64.wrap p.count).tmod 16 = ((V % 16 : Nat) : Int) := by rw [hV, hV16]
      clear hU18 hV8 hV16 hU hV
      generalize hkk : U % 18 = k at *
      generalize hjj : V % 8 = j at *
      have hlt := lt18 k hk18
      have hfs := hfo.size
      ((conv => whnf); (repeat ((first | refine SeqN.plain ?_ | refine BoxN.own ?_ | refine RwN.own ?_ | refine VrN.norm (wrap_i64 (by omega)) ?_ | refine VrN.keep ?_ | refine DrawN.calm (by decide +kernel) ?_ | refine Nd.mk (by decide +kernel) ?_ | refine Nd.mk (by omega) ?_ | (refine Nd.mk ?_ ?_; focus ((repeat' (first | exact trivial | exact wkE_refl _ | refine And.intro ?_ ?_)); done)) | refine RdN.intro _ rfl (by rfl) ?_); (conv => whnf))))
      refine Nd.mk ⟨hsa, by omega, by omega⟩ ?_
      (first | refine wX ?_ | exact wZ)
      refine LdN.fld (.int .i64 p.letter) rfl (fun w hw => hw.1) (by rw [Int.toNat_natCast]; exact picksC_get l i 0 (by decide) hp) ?_
      (first | refine wX ?_ | exact wZ)
      rw [hK]
      ((conv => whnf); (repeat ((first | refine SeqN.plain ?_ | refine BoxN.own ?_ | refine RwN.own ?_ | refine VrN.norm (wrap_i64 (by omega)) ?_ | refine VrN.keep ?_ | refine DrawN.calm (by decide +kernel) ?_ | refine Nd.mk (by decide +kernel) ?_ | refine Nd.mk (by omega) ?_ | (refine Nd.mk ?_ ?_; focus ((repeat' (first | exact trivial | exact wkE_refl _ | refine And.intro ?_ ?_)); done)) | refine RdN.intro _ rfl (by rfl) ?_); (conv => whnf))))
      refine ReadW.sl_lh k (k + 1) rfl Tryz.underlying9 rfl rfl rfl ⟨rfl, by first | omega | (rw [wrap_i64 (by omega)]; omega), by omega, by show k + 1 ≤ 18; omega⟩ ?_
      rw [show List.drop k (List.take (k + 1) [67, 99, 83, 115, 76, 108, 81, 113, 110, 78, 119, 85, 97, 65, 90, 72, 120, 64]) = [letter18 k] from hlt]
      ((conv => whnf); (repeat ((first | refine SeqN.plain ?_ | refine BoxN.own ?_ | refine RwN.own ?_ | refine VrN.norm (wrap_i64 (by omega)) ?_ | refine VrN.keep ?_ | refine DrawN.calm (by decide +kernel) ?_ | refine Nd.mk (by decide +kernel) ?_ | refine Nd.mk (by omega) ?_ | (refine Nd.mk ?_ ?_; focus ((repeat' (first | exact trivial | exact wkE_refl _ | refine And.intro ?_ ?_)); done)) | refine RdN.intro _ rfl (by rfl) ?_); (conv => whnf))))
      refine Nd.mk (by rw [bs_size, bs_size]; show form.length + 1 < _; omega) ?_
      rw [bs_app]
      (first | refine wX ?_ | exact wZ)
      refine SeqN.join Unit (fun _ => True) (fun _ => mkS Tryz.f4.ntmps 0 [(0, .c (.v (.slice ia l.length pcap))), (4, .c (.v (.string (bs (form ++ [letter18 k] ++ bigW p.great k))))), (5, .c (.v (.slice (at0 ob) items.length cap))), (6, .c (.v (.slice (some ⟨cb, 0, none⟩) 8 8))), (7, .c (.v (.int .i64 (i : Int)))), (8, .c (.v (.int .i64 (k : Int)))), (9, .c (.v (.string (bs [letter18 k]))))]) (fun _ => [.fact (PicksF ia l), .app 9 1 ctsC (some ⟨cb, 0, none⟩) 8 8, .app 44 3 (itemsC items) (at0 ob) items.length cap]) (fun _ _ => Nat.le_refl _) (fun _ _ => rfl) (fun _ _ => okHB_eq rfl) ?_ ?_
      · ((conv => whnf); (repeat ((first | refine SeqN.plain ?_ | refine BoxN.own ?_ | refine RwN.own ?_ | refine VrN.norm (wrap_i64 (by omega)) ?_ | refine VrN.keep ?_ | refine DrawN.calm (by decide +kernel) ?_ | refine Nd.mk (by decide +kernel) ?_ | refine Nd.mk (by omega) ?_ | (refine Nd.mk ?_ ?_; focus ((repeat' (first | exact trivial | exact wkE_refl _ | refine And.intro ?_ ?_)); done)) | refine RdN.intro _ rfl (by rfl) ?_); (conv => whnf))))
        refine Nd.mk ⟨hsa, by omega, by omega⟩ ?_
        (first | refine wX ?_ | exact wZ)
        refine LdN.fld (.bool p.great) rfl (fun w hw => hw.1) (by rw [Int.toNat_natCast]; exact picksC_get l i 3 (by decide) hp) ?_
        (first | refine wX ?_ | exact wZ)
        cases hg : p.great with
        | false =>
          ((conv => whnf); (repeat ((first | refine SeqN.plain ?_ | refine BoxN.own ?_ | refine RwN.own ?_ | refine VrN.norm (wrap_i64 (by omega)) ?_ | refine VrN.keep ?_ | refine DrawN.calm (by decide +kernel) ?_ | refine Nd.mk (by decide +kernel) ?_ | refine Nd.mk (by omega) ?_ | (refine Nd.mk ?_ ?_; focus ((repeat' (first | exact trivial | exact wkE_refl _ | refine And.intro ?_ ?_)); done)) | refine RdN.intro _ rfl (by rfl) ?_); (conv => whnf))))
          refine ⟨(), trivial, ?_, ⟨wkE_refl _, wkE_refl _, wkE_refl _, wkH_nil _⟩⟩
          (repeat' (first | exact trivial | refine And.intro (by with_reducible rfl) ?_ | (with_reducible exact wkC_refl _) | (with_reducible exact wkCs_refl _) | refine And.intro ?_ ?_))
          all_goals first | rfl | exact av_bs (by simp [bigW])
        | true =>
          ((conv => whnf); (repeat ((first | refine SeqN.plain ?_ | refine BoxN.own ?_ | refine RwN.own ?_ | refine VrN.norm (wrap_i64 (by omega)) ?_ | refine VrN.keep ?_ | refine DrawN.calm (by decide +kernel) ?_ | refine Nd.mk (by decide +kernel) ?_ | refine Nd.mk (by omega) ?_ | (refine Nd.mk ?_ ?_; focus ((repeat' (first | exact trivial | exact wkE_refl _ | refine And.intro ?_ ?_)); done)) | refine RdN.intro _ rfl (by rfl) ?_); (conv => whnf))))
          refine brd_dec (fun h3 => ?_) (fun h3 => ?_)
          · ((conv => whnf); (repeat ((first | refine SeqN.plain ?_ | refine BoxN.own ?_ | refine RwN.own ?_ | refine VrN.norm (wrap_i64 (by omega)) ?_ | refine VrN.keep ?_ | refine DrawN.calm (by decide +kernel) ?_ | refine Nd.mk (by decide +kernel) ?_ | refine Nd.mk (by omega) ?_ | (refine Nd.mk ?_ ?_; focus ((repeat' (first | exact trivial | exact wkE_refl _ | refine And.intro ?_ ?_)); done)) | refine RdN.intro _ rfl (by rfl) ?_); (conv => whnf))))
            refine brd_dec (fun h4 => ?_) (fun h4 => ?_)
            · ((conv => whnf); (repeat ((first | refine SeqN.plain ?_ | refine BoxN.own ?_ | refine RwN.own ?_ | refine VrN.norm (wrap_i64 (by omega)) ?_ | refine VrN.keep ?_ | refine DrawN.calm (by decide +kernel) ?_ | refine Nd.mk (by decide +kernel) ?_ | refine Nd.mk (by omega) ?_ | (refine Nd.mk ?_ ?_; focus ((repeat' (first | exact trivial | exact wkE_refl _ | refine And.intro ?_ ?_)); done)) | refine RdN.intro _ rfl (by rfl) ?_); (conv => whnf))))
              refine Nd.mk (by rw [bs_size]; simp only [List.length_append, List.length_cons, List.length_nil]; show form.length + 1 + 1 < _; omega) ?_
              rw [show (⟨#[62]⟩ : ByteArray) = bs [62] from rfl, bs_app]
              ((conv => whnf); (repeat ((first | refine SeqN.plain ?_ | refine BoxN.own ?_ | refine RwN.own ?_ | refine VrN.norm (wrap_i64 (by omega)) ?_ | refine VrN.keep ?_ | refine DrawN.calm (by decide +kernel) ?_ | refine Nd.mk (by decide +kernel) ?_ | refine Nd.mk (by omega) ?_ | (refine Nd.mk ?_ ?_; focus ((repeat' (first | exact trivial | exact wkE_refl _ | refine And.intro ?_ ?_)); done)) | refine RdN.intro _ rfl (by rfl) ?_); (conv => whnf))))
              refine ⟨(), trivial, ?_, ⟨wkE_refl _, wkE_refl _, wkE_refl _, wkH_nil _⟩⟩
              (repeat' (first | exact trivial | refine And.intro (by with_reducible rfl) ?_ | (with_reducible exact wkC_refl _) | (with_reducible exact wkCs_refl _) | refine And.intro ?_ ?_))
              all_goals first | rfl | exact av_bs (by simp [bigW, show 2 ≤ k by omega, show k < 8 by omega])
            · ((conv => whnf); (repeat ((first | refine SeqN.plain ?_ | refine BoxN.own ?_ | refine RwN.own ?_ | refine VrN.norm (wrap_i64 (by omega)) ?_ | refine VrN.keep ?_ | refine DrawN.calm (by decide +kernel) ?_ | refine Nd.mk (by decide +kernel) ?_ | refine Nd.mk (by omega) ?_ | (refine Nd.mk ?_ ?_; focus ((repeat' (first | exact trivial | exact wkE_refl _ | refine And.intro ?_ ?_)); done)) | refine RdN.intro _ rfl (by rfl) ?_); (conv => whnf))))
              refine ⟨(), trivial, ?_, ⟨wkE_refl _, wkE_refl _, wkE_refl _, wkH_nil _⟩⟩
              (repeat' (first | exact trivial | refine And.intro (by with_reducible rfl) ?_ | (with_reducible exact wkC_refl _) | (with_reducible exact wkCs_refl _) | refine And.intro ?_ ?_))
              all_goals first | rfl | exact av_bs (by simp [bigW, show ¬ k < 8 by omega])
          · ((conv => whnf); (repeat ((first | refine SeqN.plain ?_ | refine BoxN.own ?_ | refine RwN.own ?_ | refine VrN.norm (wrap_i64 (by omega)) ?_ | refine VrN.keep ?_ | refine DrawN.calm (by decide +kernel) ?_ | refine Nd.mk (by decide +kernel) ?_ | refine Nd.mk (by omega) ?_ | (refine Nd.mk ?_ ?_; focus ((repeat' (first | exact trivial | exact wkE_refl _ | refine And.intro ?_ ?_)); done)) | refine RdN.intro _ rfl (by rfl) ?_); (conv => whnf))))
            refine ⟨(), trivial, ?_, ⟨wkE_refl _, wkE_refl _, wkE_refl _, wkH_nil _⟩⟩
            (repeat' (first | exact trivial | refine And.intro (by with_reducible rfl) ?_ | (with_reducible exact wkC_refl _) | (with_reducible exact wkCs_refl _) | refine And.intro ?_ ?_))
            all_goals first | rfl | exact av_bs (by simp [bigW, show ¬ 2 ≤ k by omega])
      intro _ _
      ((conv => whnf); (repeat ((first | refine SeqN.plain ?_ | refine BoxN.own ?_ | refine RwN.own ?_ | refine VrN.norm (wrap_i64 (by omega)) ?_ | refine VrN.keep ?_ | refine DrawN.calm (by decide +kernel) ?_ | refine Nd.mk (by decide +kernel) ?_ | refine Nd.mk (by omega) ?_ | (refine Nd.mk ?_ ?_; focus ((repeat' (first | exact trivial | exact wkE_refl _ | refine And.intro ?_ ?_)); done)) | refine RdN.intro _ rfl (by rfl) ?_); (conv => whnf))))
      refine Nd.mk ⟨hsa, by omega, by omega⟩ ?_
      (first | refine wX ?_ | exact wZ)
      refine LdN.fld (.int .i64 p.count) rfl (fun w hw => hw.1) (by rw [Int.toNat_natCast]; exact picksC_get l i 1 (by decide) hp) ?_
      (first | refine wX ?_ | exact wZ)
      try rw [hJ]
      refine Nd.mk ⟨rfl, by first | omega | (rw [hJ]; omega), by first | (show (j : Int) < 8; omega) | (rw [hJ]; show (j : Int) < 8; omega)⟩ ?_
      (first | refine wX ?_ | exact wZ)
      refine LdN.one (.string (bs (cts.getD j []))) rfl (fun w hw => hw.2.1) (by show ctsC[Int.toNat _ * 1]? = _; (first | rw [Int.toNat_natCast, Nat.mul_one] | rw [hJ, Int.toNat_natCast, Nat.mul_one]); exact cts_get hj8) ?_
      (first | refine wX ?_ | exact wZ)
      refine SeqN.join Unit (fun _ => True) (fun _ => mkS Tryz.f4.ntmps 0 [(0, .c (.v (.slice ia l.length pcap))), (4, .c (.v (.string (bs (form ++ [letter18 k] ++ bigW p.great k))))), (5, .c (.v (.slice (at0 ob) items.length cap))), (6, .c (.v (.slice (some ⟨cb, 0, none⟩) 8 8))), (7, .c (.v (.int .i64 (i : Int)))), (8, .c (.v (.int .i64 (k : Int)))), (9, .c (.v (.string (bs [letter18 k])))), (10, .c (.v (.string (bs (cntW k j)))))]) (fun _ => [.fact (PicksF ia l), .app 9 1 ctsC (some ⟨cb, 0, none⟩) 8 8, .app 44 3 (itemsC items) (at0 ob) items.length cap]) (fun _ _ => Nat.le_refl _) (fun _ _ => rfl) (fun _ _ => okHB_eq rfl) ?_ ?_
      · have h8 : j = 0 ∨ j = 1 ∨ j = 2 ∨ j = 3 ∨ j = 5 ∨ j = 7 ∨ j = 4 ∨ j = 6 := by omega
        clear hjj hJ hj8
        rcases h8 with rfl | rfl | rfl | rfl | rfl | rfl | rfl | rfl
        iterate 6
          · ((conv => whnf); (repeat ((first | refine SeqN.plain ?_ | refine BoxN.own ?_ | refine RwN.own ?_ | refine VrN.norm (wrap_i64 (by omega)) ?_ | refine VrN.keep ?_ | refine DrawN.calm (by decide +kernel) ?_ | refine Nd.mk (by decide +kernel) ?_ | refine Nd.mk (by omega) ?_ | (refine Nd.mk ?_ ?_; focus ((repeat' (first | exact trivial | exact wkE_refl _ | refine And.intro ?_ ?_)); done)) | refine RdN.intro _ rfl (by rfl) ?_); (conv => whnf))))
            refine ⟨(), trivial, ?_, ⟨wkE_refl _, wkE_refl _, wkE_refl _, wkH_nil _⟩⟩
            (repeat' (first | exact trivial | refine And.intro (by with_reducible rfl) ?_ | (with_reducible exact wkC_refl _) | (with_reducible exact wkCs_refl _) | refine And.intro ?_ ?_))
            all_goals first | rfl | exact av_bs (by simp [cntW, cts])
        · ((conv => whnf); (repeat ((first | refine SeqN.plain ?_ | refine BoxN.own ?_ | refine RwN.own ?_ | refine VrN.norm (wrap_i64 (by omega)) ?_ | refine VrN.keep ?_ | refine DrawN.calm (by decide +kernel) ?_ | refine Nd.mk (by decide +kernel) ?_ | refine Nd.mk (by omega) ?_ | (refine Nd.mk ?_ ?_; focus ((repeat' (first | exact trivial | exact wkE_refl _ | refine And.intro ?_ ?_)); done)) | refine RdN.intro _ rfl (by rfl) ?_); (conv => whnf))))
          refine brd_dec (fun h3 => ?_) (fun h3 => ?_)
          · ((conv => whnf); (repeat ((first | refine SeqN.plain ?_ | refine BoxN.own ?_ | refine RwN.own ?_ | refine VrN.norm (wrap_i64 (by omega)) ?_ | refine VrN.keep ?_ | refine DrawN.calm (by decide +kernel) ?_ | refine Nd.mk (by decide +kernel) ?_ | refine Nd.mk (by omega) ?_ | (refine Nd.mk ?_ ?_; focus ((repeat' (first | exact trivial | exact wkE_refl _ | refine And.intro ?_ ?_)); done)) | refine RdN.intro _ rfl (by rfl) ?_); (conv => whnf))))
            refine ⟨(), trivial, ?_, ⟨wkE_refl _, wkE_refl _, wkE_refl _, wkH_nil _⟩⟩
            (repeat' (first | exact trivial | refine And.intro (by with_reducible rfl) ?_ | (with_reducible exact wkC_refl _) | (with_reducible exact wkCs_refl _) | refine And.intro ?_ ?_))
            all_goals first | rfl | exact av_bs (by simp [cntW, cts, show 16 ≤ k by omega])
          · ((conv => whnf); (repeat ((first | refine SeqN.plain ?_ | refine BoxN.own ?_ | refine RwN.own ?_ | refine VrN.norm (wrap_i64 (by omega)) ?_ | refine VrN.keep ?_ | refine DrawN.calm (by decide +kernel) ?_ | refine Nd.mk (by decide +kernel) ?_ | refine Nd.mk (by omega) ?_ | (refine Nd.mk ?_ ?_; focus ((repeat' (first | exact trivial | exact wkE_refl _ | refine And.intro ?_ ?_)); done)) | refine RdN.intro _ rfl (by rfl) ?_); (conv => whnf))))
            refine ⟨(), trivial, ?_, ⟨wkE_refl _, wkE_refl _, wkE_refl _, wkH_nil _⟩⟩
            (repeat' (first | exact trivial | refine And.intro (by with_reducible rfl) ?_ | (with_reducible exact wkC_refl _) | (with_reducible exact wkCs_refl _) | refine And.intro ?_ ?_))
            all_goals first | rfl | exact av_bs (by simp [cntW, cts, show ¬ 16 ≤ k by omega])
        · by_cases he : letter18 k = 64
          · have hc : cntW k 6 = [48] := by unfold cntW; rw [he]; rfl
            rw [he, hc]
            ((conv => whnf); (repeat ((first | refine SeqN.plain ?_ | refine BoxN.own ?_ | refine RwN.own ?_ | refine VrN.norm (wrap_i64 (by omega)) ?_ | refine VrN.keep ?_ | refine DrawN.calm (by decide +kernel) ?_ | refine Nd.mk (by decide +kernel) ?_ | refine Nd.mk (by omega) ?_ | (refine Nd.mk ?_ ?_; focus ((repeat' (first | exact trivial | exact wkE_refl _ | refine And.intro ?_ ?_)); done)) | refine RdN.intro _ rfl (by rfl) ?_); (conv => whnf))))
            refine ⟨(), trivial, ?_, ⟨wkE_refl _, wkE_refl _, wkE_refl _, wkH_nil _⟩⟩
            (repeat' (first | exact trivial | refine And.intro (by with_reducible rfl) ?_ | (with_reducible exact wkC_refl _) | (with_reducible exact wkCs_refl _) | refine And.intro ?_ ?_))
            all_goals first | rfl | exact av_bs (by simp [cts])
          · have hc : cntW k 6 = [] := by simp [cntW, cts, he]
            rw [hc]
            ((conv => whnf); (repeat ((first | refine SeqN.plain ?_ | refine BoxN.own ?_ | refine RwN.own ?_ | refine VrN.norm (wrap_i64 (by omega)) ?_ | refine VrN.keep ?_ | refine DrawN.calm (by decide +kernel) ?_ | refine Nd.mk (by decide +kernel) ?_ | refine Nd.mk (by omega) ?_ | (refine Nd.mk ?_ ?_; focus ((repeat' (first | exact trivial | exact wkE_refl _ | refine And.intro ?_ ?_)); done)) | refine RdN.intro _ rfl (by rfl) ?_); (conv => whnf))))
            refine brdT (show (!([letter18 k] == [(64 : UInt8)])) = true by simp [he]) ?_
            ((conv => whnf); (repeat ((first | refine SeqN.plain ?_ | refine BoxN.own ?_ | refine RwN.own ?_ | refine VrN.norm (wrap_i64 (by omega)) ?_ | refine VrN.keep ?_ | refine DrawN.calm (by decide +kernel) ?_ | refine Nd.mk (by decide +kernel) ?_ | refine Nd.mk (by omega) ?_ | (refine Nd.mk ?_ ?_; focus ((repeat' (first | exact trivial | exact wkE_refl _ | refine And.intro ?_ ?_)); done)) | refine RdN.intro _ rfl (by rfl) ?_); (conv => whnf))))
            refine ⟨(), trivial, ?_, ⟨wkE_refl _, wkE_refl _, wkE_refl _, wkH_nil _⟩⟩
            (repeat' (first | exact trivial | refine And.intro (by with_reducible rfl) ?_ | (with_reducible exact wkC_refl _) | (with_reducible exact wkCs_refl _) | refine And.intro ?_ ?_))
            all_goals first | rfl | exact av_bs (by rfl)
      intro _ _
      have hbl := big_le p.great k
      have hcl := cnt_le k hj8
      (first | refine wX ?_ | exact wZ)
      refine SeqN.plain ?_
      (first | refine wX ?_ | exact wZ)
      refine Nd.mk (by rw [bs_size, bs_size]; simp only [List.length_append, List.length_cons, List.length_nil]; omega) ?_
      rw [bs_app]
      (first | refine wX ?_ | exact wZ)
      refine SeqN.join Unit (fun _ => True) (fun _ => mkS Tryz.f4.ntmps 0 [(0, .c (.v (.slice ia l.length pcap))), (6, .c (.v (.slice (some ⟨cb, 0, none⟩) 8 8))), (7, .c (.v (.int .i64 (i : Int)))), (8, .c (.v (.int .i64 (k : Int)))), (9, .c (.v (.string (bs [letter18 k])))), (4, .c (.v (.string (bs (form ++ piece k p.great j (decide (i % 3 = 1))))))), (5, .c (.v (.slice (at0 ob) items.length cap))), (10, .c (.v (.string (bs (cntW k j)))))]) (fun _ => [.fact (PicksF ia l), .app 9 1 ctsC (some ⟨cb, 0, none⟩) 8 8, .app 44 3 (itemsC items) (at0 ob) items.length cap]) (fun _ _ => Nat.le_refl _) (fun _ _ => rfl) (fun _ _ => okHB_eq rfl) ?_ ?_
      · ((conv => whnf); (repeat ((first | refine SeqN.plain ?_ | refine BoxN.own ?_ | refine RwN.own ?_ | refine VrN.norm (wrap_i64 (by omega)) ?_ | refine VrN.keep ?_ | refine DrawN.calm (by decide +kernel) ?_ | refine Nd.mk (by decide +kernel) ?_ | refine Nd.mk (by omega) ?_ | (refine Nd.mk ?_ ?_; focus ((repeat' (first | exact trivial | exact wkE_refl _ | refine And.intro ?_ ?_)); done)) | refine RdN.intro _ rfl (by rfl) ?_); (conv => whnf))))
        rw [hi3]
        refine brd_eq (fun h3 => ?_) (fun h3 => ?_)
        · ((conv => whnf); (repeat ((first | refine SeqN.plain ?_ | refine BoxN.own ?_ | refine RwN.own ?_ | refine VrN.norm (wrap_i64 (by omega)) ?_ | refine VrN.keep ?_ | refine DrawN.calm (by decide +kernel) ?_ | refine Nd.mk (by decide +kernel) ?_ | refine Nd.mk (by omega) ?_ | (refine Nd.mk ?_ ?_; focus ((repeat' (first | exact trivial | exact wkE_refl _ | refine And.intro ?_ ?_)); done)) | refine RdN.intro _ rfl (by rfl) ?_); (conv => whnf))))
          refine Nd.mk (by rw [bs_size]; simp only [List.length_append, List.length_cons, List.length_nil]; show _ + 1 < _; omega) ?_
          rw [show (⟨#[32]⟩ : ByteArray) = bs [32] from rfl, bs_app]
          ((conv => whnf); (repeat ((first | refine SeqN.plain ?_ | refine BoxN.own ?_ | refine RwN.own ?_ | refine VrN.norm (wrap_i64 (by omega)) ?_ | refine VrN.keep ?_ | refine DrawN.calm (by decide +kernel) ?_ | refine Nd.mk (by decide +kernel) ?_ | refine Nd.mk (by omega) ?_ | (refine Nd.mk ?_ ?_; focus ((repeat' (first | exact trivial | exact wkE_refl _ | refine And.intro ?_ ?_)); done)) | refine RdN.intro _ rfl (by rfl) ?_); (conv => whnf))))
          refine ⟨(), trivial, ?_, ⟨wkE_refl _, wkE_refl _, wkE_refl _, wkH_nil _⟩⟩
          (repeat' (first | exact trivial | refine And.intro (by with_reducible rfl) ?_ | (with_reducible exact wkC_refl _) | (with_reducible exact wkCs_refl _) | refine And.intro ?_ ?_))
          all_goals first | rfl | exact av_bs (by simp [piece, show i % 3 = 1 by omega])
        · ((conv => whnf); (repeat ((first | refine SeqN.plain ?_ | refine BoxN.own ?_ | refine RwN.own ?_ | refine VrN.norm (wrap_i64 (by omega)) ?_ | refine VrN.keep ?_ | refine DrawN.calm (by decide +kernel) ?_ | refine Nd.mk (by decide +kernel) ?_ | refine Nd.mk (by omega) ?_ | (refine Nd.mk ?_ ?_; focus ((repeat' (first | exact trivial | exact wkE_refl _ | refine And.intro ?_ ?_)); done)) | refine RdN.intro _ rfl (by rfl) ?_); (conv => whnf))))
          refine ⟨(), trivial, ?_, ⟨wkE_refl _, wkE_refl _, wkE_refl _, wkH_nil _⟩⟩
          (repeat' (first | exact trivial | refine And.intro (by with_reducible rfl) ?_ | (with_reducible exact wkC_refl _) | (with_reducible exact wkCs_refl _) | refine And.intro ?_ ?_))
          all_goals first | rfl | exact av_bs (by simp [piece, show ¬ i % 3 = 1 by omega])
      intro _ _
      obtain ⟨ds2, hfo2⟩ := hfo.step k j p.great (decide (i % 3 = 1)) hk18 hj8
      generalize form ++ piece k p.great j (decide (i % 3 = 1)) = F at *
      generalize cntW k j = C at *
      (first | refine wX ?_ | exact wZ)
      refine SeqN.plain ?_
      ((conv => whnf); (repeat ((first | refine SeqN.plain ?_ | refine BoxN.own ?_ | refine RwN.own ?_ | refine VrN.norm (wrap_i64 (by omega)) ?_ | refine VrN.keep ?_ | refine DrawN.calm (by decide +kernel) ?_ | refine Nd.mk (by decide +kernel) ?_ | refine Nd.mk (by omega) ?_ | (refine Nd.mk ?_ ?_; focus ((repeat' (first | exact trivial | exact wkE_refl _ | refine And.intro ?_ ?_)); done)) | refine RdN.intro _ rfl (by rfl) ?_); (conv => whnf))))
      refine brd_dec (fun h3 => ?_) (fun h3 => ?_)
      · ((conv => whnf); (repeat ((first | refine SeqN.plain ?_ | refine BoxN.own ?_ | refine RwN.own ?_ | refine VrN.norm (wrap_i64 (by omega)) ?_ | refine VrN.keep ?_ | refine DrawN.calm (by decide +kernel) ?_ | refine Nd.mk (by decide +kernel) ?_ | refine Nd.mk (by omega) ?_ | (refine Nd.mk ?_ ?_; focus ((repeat' (first | exact trivial | exact wkE_refl _ | refine And.intro ?_ ?_)); done)) | refine RdN.intro _ rfl (by rfl) ?_); (conv => whnf))))
        refine ⟨(i + 1, F, ds2, items, ob, cap), ⟨by omega, by omega, hfo2, by omega, hio, hob⟩, by show 20 - (i + 1) < 20 - i; omega, ?_, ⟨wkE_refl _, wkE_refl _, wkE_refl _, wkH_nil _⟩⟩
        (repeat' (first | exact trivial | refine And.intro (by with_reducible rfl) ?_ | (with_reducible exact wkC_refl _) | (with_reducible exact wkCs_refl _) | refine And.intro ?_ ?_))
        all_goals first | rfl | exact av_int (by first | omega | (rw [wrap_i64 (by omega)]; omega))
      · (first | refine wX ?_ | exact wZ)
        refine SeqN.plain ?_
        (first | refine wX ?_ | exact wZ)
        refine Nd.mk ⟨hsa, by omega, by omega⟩ ?_
        (first | refine wX ?_ | exact wZ)
        refine LdN.fld (.int .i64 p.int) rfl (fun w hw => hw.1) (by rw [Int.toNat_natCast]; exact picksC_get l i 2 (by decide) hp) ?_
        (first | refine wX ?_ | exact wZ)
        refine SeqN.join Int (fun n => -9223372036854775808 ≤ n ∧ n < 9223372036854775808) (fun n => mkS Tryz.f4.ntmps 0 [(0, .c (.v (.slice ia l.length pcap))), (6, .c (.v (.slice (some ⟨cb, 0, none⟩) 8 8))), (7, .c (.v (.int .i64 (i : Int)))), (8, .c (.v (.int .i64 (k : Int)))), (9, .c (.v (.string (bs [letter18 k])))), (4, .c (.v (.string (bs F)))), (5, .c (.v (.slice (at0 ob) items.length cap))), (10, .c (.v (.string (bs C)))), (11, .c (.v (.int .i64 n)))]) (fun _ => [.fact (PicksF ia l), .app 9 1 ctsC (some ⟨cb, 0, none⟩) 8 8, .app 44 3 (itemsC items) (at0 ob) items.length cap]) (fun _ _ => Nat.le_refl _) (fun _ _ => rfl) (fun _ _ => okHB_eq rfl) ?_ ?_
        · ((conv => whnf); (repeat ((first | refine SeqN.plain ?_ | refine BoxN.own ?_ | refine RwN.own ?_ | refine VrN.norm (wrap_i64 (by omega)) ?_ | refine VrN.keep ?_ | refine DrawN.calm (by decide +kernel) ?_ | refine Nd.mk (by decide +kernel) ?_ | refine Nd.mk (by omega) ?_ | (refine Nd.mk ?_ ?_; focus ((repeat' (first | exact trivial | exact wkE_refl _ | refine And.intro ?_ ?_)); done)) | refine RdN.intro _ rfl (by rfl) ?_); (conv => whnf))))
          refine brd_dec (fun h4 => ?_) (fun h4 => ?_)
          · ((conv => whnf); (repeat ((first | refine SeqN.plain ?_ | refine BoxN.own ?_ | refine RwN.own ?_ | refine VrN.norm (wrap_i64 (by omega)) ?_ | refine VrN.keep ?_ | refine DrawN.calm (by decide +kernel) ?_ | refine Nd.mk (by decide +kernel) ?_ | refine Nd.mk (by omega) ?_ | (refine Nd.mk ?_ ?_; focus ((repeat' (first | exact trivial | exact wkE_refl _ | refine And.intro ?_ ?_)); done)) | refine RdN.intro _ rfl (by rfl) ?_); (conv => whnf))))
            refine Nd.mk ⟨hsa, by omega, by omega⟩ ?_
            (first | refine wX ?_ | exact wZ)
            refine LdN.fld (.int .i64 p.count) rfl (fun w hw => hw.1) (by rw [Int.toNat_natCast]; exact picksC_get l i 1 (by decide) hp) ?_
            (first | refine wX ?_ | exact wZ)
            refine brd_intro (fun _ => ?_) (fun _ => ?_)
            · ((conv => whnf); (repeat ((first | refine SeqN.plain ?_ | refine BoxN.own ?_ | refine RwN.own ?_ | refine VrN.norm (wrap_i64 (by omega)) ?_ | refine VrN.keep ?_ | refine DrawN.calm (by decide +kernel) ?_ | refine Nd.mk (by decide +kernel) ?_ | refine Nd.mk (by omega) ?_ | (refine Nd.mk ?_ ?_; focus ((repeat' (first | exact trivial | exact wkE_refl _ | refine And.intro ?_ ?_)); done)) | refine RdN.intro _ rfl (by rfl) ?_); (conv => whnf))))
              refine ⟨(IntKind.i64.wrap ((BitVec.ofInt IntKind.i64.bits p.int &&& BitVec.ofInt IntKind.i64.bits 127).toNat : Int)), wrap_rng _, ?_, ⟨wkE_refl _, wkE_refl _, wkE_refl _, wkH_nil _⟩⟩
              (repeat' (first | exact trivial | refine And.intro (by with_reducible rfl) ?_ | (with_reducible exact wkC_refl _) | (with_reducible exact wkCs_refl _) | refine And.intro ?_ ?_))
              all_goals rfl
            · ((conv => whnf); (repeat ((first | refine SeqN.plain ?_ | refine BoxN.own ?_ | refine RwN.own ?_ | refine VrN.norm (wrap_i64 (by omega)) ?_ | refine VrN.keep ?_ | refine DrawN.calm (by decide +kernel) ?_ | refine Nd.mk (by decide +kernel) ?_ | refine Nd.mk (by omega) ?_ | (refine Nd.mk ?_ ?_; focus ((repeat' (first | exact trivial | exact wkE_refl _ | refine And.intro ?_ ?_)); done)) | refine RdN.intro _ rfl (by rfl) ?_); (conv => whnf))))
              refine ⟨p.int, hpr, ?_, ⟨wkE_refl _, wkE_refl _, wkE_refl _, wkH_nil _⟩⟩
              (repeat' (first | exact trivial | refine And.intro (by with_reducible rfl) ?_ | (with_reducible exact wkC_refl _) | (with_reducible exact wkCs_refl _) | refine And.intro ?_ ?_))
              all_goals rfl
          · ((conv => whnf); (repeat ((first | refine SeqN.plain ?_ | refine BoxN.own ?_ | refine RwN.own ?_ | refine VrN.norm (wrap_i64 (by omega)) ?_ | refine VrN.keep ?_ | refine DrawN.calm (by decide +kernel) ?_ | refine Nd.mk (by decide +kernel) ?_ | refine Nd.mk (by omega) ?_ | (refine Nd.mk ?_ ?_; focus ((repeat' (first | exact trivial | exact wkE_refl _ | refine And.intro ?_ ?_)); done)) | refine RdN.intro _ rfl (by rfl) ?_); (conv => whnf))))
            refine ⟨p.int, hpr, ?_, ⟨wkE_refl _, wkE_refl _, wkE_refl _, wkH_nil _⟩⟩
            (repeat' (first | exact trivial | refine And.intro (by with_reducible rfl) ?_ | (with_reducible exact wkC_refl _) | (with_reducible exact wkCs_refl _) | refine And.intro ?_ ?_))
            all_goals rfl
        intro n hn
        (first | refine wX ?_ | exact wZ)
        refine SeqN.plain ?_
        (first | refine wX ?_ | exact wZ)
        refine Nd.mk ⟨hsa, by omega, by omega⟩ ?_
        (first | refine wX ?_ | exact wZ)
        refine LdN.fld (.string (bs p.text)) rfl (fun w hw => hw.1) (by rw [Int.toNat_natCast]; exact picksC_get l i 4 (by decide) hp) ?_
        (first | refine wX ?_ | exact wZ)
        have hzt := bs_size p.text
        refine SeqN.join (List UInt8) (fun t => t.length ≤ 50) (fun t => mkS Tryz.f4.ntmps 0 [(0, .c (.v (.slice ia l.length pcap))), (6, .c (.v (.slice (some ⟨cb, 0, none⟩) 8 8))), (7, .c (.v (.int .i64 (i : Int)))), (8, .c (.v (.int .i64 (k : Int)))), (9, .c (.v (.string (bs [letter18 k])))), (4, .c (.v (.string (bs F)))), (5, .c (.v (.slice (at0 ob) items.length cap))), (10, .c (.v (.string (bs C)))), (11, .c (.v (.int .i64 n))), (12, .c (.v (.string (bs t))))]) (fun _ => [.fact (PicksF ia l), .app 9 1 ctsC (some ⟨cb, 0, none⟩) 8 8, .app 44 3 (itemsC items) (at0 ob) items.length cap]) (fun _ _ => Nat.le_refl _) (fun _ _ => rfl) (fun _ _ => okHB_eq rfl) ?_ ?_
        · ((conv => whnf); (repeat ((first | refine SeqN.plain ?_ | refine BoxN.own ?_ | refine RwN.own ?_ | refine VrN.norm (wrap_i64 (by omega)) ?_ | refine VrN.keep ?_ | refine DrawN.calm (by decide +kernel) ?_ | refine Nd.mk (by decide +kernel) ?_ | refine Nd.mk (by omega) ?_ | (refine Nd.mk ?_ ?_; focus ((repeat' (first | exact trivial | exact wkE_refl _ | refine And.intro ?_ ?_)); done)) | refine RdN.intro _ rfl (by rfl) ?_); (conv => whnf))))
          rw [hzt]
          refine brd_dec (fun h4 => ?_) (fun h4 => ?_)
          · ((conv => whnf); (repeat ((first | refine SeqN.plain ?_ | refine BoxN.own ?_ | refine RwN.own ?_ | refine VrN.norm (wrap_i64 (by omega)) ?_ | refine VrN.keep ?_ | refine DrawN.calm (by decide +kernel) ?_ | refine Nd.mk (by decide +kernel) ?_ | refine Nd.mk (by omega) ?_ | (refine Nd.mk ?_ ?_; focus ((repeat' (first | exact trivial | exact wkE_refl _ | refine And.intro ?_ ?_)); done)) | refine RdN.intro _ rfl (by rfl) ?_); (conv => whnf))))
            refine ReadW.sl_h 50 rfl Tryz.underlying9 rfl rfl ⟨rfl, by omega⟩ ?_
            ((conv => whnf); (repeat ((first | refine SeqN.plain ?_ | refine BoxN.own ?_ | refine RwN.own ?_ | refine VrN.norm (wrap_i64 (by omega)) ?_ | refine VrN.keep ?_ | refine DrawN.calm (by decide +kernel) ?_ | refine Nd.mk (by decide +kernel) ?_ | refine Nd.mk (by omega) ?_ | (refine Nd.mk ?_ ?_; focus ((repeat' (first | exact trivial | exact wkE_refl _ | refine And.intro ?_ ?_)); done)) | refine RdN.intro _ rfl (by rfl) ?_); (conv => whnf))))
            refine ⟨(p.text.take 50), (by show (p.text.take 50).length ≤ 50; rw [List.length_take]; omega), ?_, ⟨wkE_refl _, wkE_refl _, wkE_refl _, wkH_nil _⟩⟩
            (repeat' (first | exact trivial | refine And.intro (by with_reducible rfl) ?_ | (with_reducible exact wkC_refl _) | (with_reducible exact wkCs_refl _) | refine And.intro ?_ ?_))
            all_goals rfl
          · ((conv => whnf); (repeat ((first | refine SeqN.plain ?_ | refine BoxN.own ?_ | refine RwN.own ?_ | refine VrN.norm (wrap_i64 (by omega)) ?_ | refine VrN.keep ?_ | refine DrawN.calm (by decide +kernel) ?_ | refine Nd.mk (by decide +kernel) ?_ | refine Nd.mk (by omega) ?_ | (refine Nd.mk ?_ ?_; focus ((repeat' (first | exact trivial | exact wkE_refl _ | refine And.intro ?_ ?_)); done)) | refine RdN.intro _ rfl (by rfl) ?_); (conv => whnf))))
            refine ⟨p.text, (by show p.text.length ≤ 50; omega), ?_, ⟨wkE_refl _, wkE_refl _, wkE_refl _, wkH_nil _⟩⟩
            (repeat' (first | exact trivial | refine And.intro (by with_reducible rfl) ?_ | (with_reducible exact wkC_refl _) | (with_reducible exact wkCs_refl _) | refine And.intro ?_ ?_))
            all_goals rfl
        intro t ht
        have ht2 : t.length ≤ 50 := ht
        (first | refine wX ?_ | exact wZ)
        refine SeqN.join (List UInt8) (fun t => t.length ≤ 100) (fun t => mkS Tryz.f4.ntmps 0 [(0, .c (.v (.slice ia l.length pcap))), (6, .c (.v (.slice (some ⟨cb, 0, none⟩) 8 8))), (7, .c (.v (.int .i64 (i : Int)))), (8, .c (.v (.int .i64 (k : Int)))), (9, .c (.v (.string (bs [letter18 k])))), (4, .c (.v (.string (bs F)))), (5, .c (.v (.slice (at0 ob) items.length cap))), (10, .c (.v (.string (bs C)))), (11, .c (.v (.int .i64 n))), (12, .c (.v (.string (bs t))))]) (fun _ => [.fact (PicksF ia l), .app 9 1 ctsC (some ⟨cb, 0, none⟩) 8 8, .app 44 3 (itemsC items) (at0 ob) items.length cap]) (fun _ _ => Nat.le_refl _) (fun _ _ => rfl) (fun _ _ => okHB_eq rfl) ?_ ?_
        · ((conv => whnf); (repeat ((first | refine SeqN.plain ?_ | refine BoxN.own ?_ | refine RwN.own ?_ | refine VrN.norm (wrap_i64 (by omega)) ?_ | refine VrN.keep ?_ | refine DrawN.calm (by decide +kernel) ?_ | refine Nd.mk (by decide +kernel) ?_ | refine Nd.mk (by omega) ?_ | (refine Nd.mk ?_ ?_; focus ((repeat' (first | exact trivial | exact wkE_refl _ | refine And.intro ?_ ?_)); done)) | refine RdN.intro _ rfl (by rfl) ?_); (conv => whnf))))
          refine brd_intro (fun _ => ?_) (fun _ => ?_)
          · ((conv => whnf); (repeat ((first | refine SeqN.plain ?_ | refine BoxN.own ?_ | refine RwN.own ?_ | refine VrN.norm (wrap_i64 (by omega)) ?_ | refine VrN.keep ?_ | refine DrawN.calm (by decide +kernel) ?_ | refine Nd.mk (by decide +kernel) ?_ | refine Nd.mk (by omega) ?_ | (refine Nd.mk ?_ ?_; focus ((repeat' (first | exact trivial | exact wkE_refl _ | refine And.intro ?_ ?_)); done)) | refine RdN.intro _ rfl (by rfl) ?_); (conv => whnf))))
            refine Nd.mk ⟨hsa, by omega, by omega⟩ ?_
            (first | refine wX ?_ | exact wZ)
            refine LdN.fld (.int .i64 p.count) rfl (fun w hw => hw.1) (by rw [Int.toNat_natCast]; exact picksC_get l i 1 (by decide) hp) ?_
            (first | refine wX ?_ | exact wZ)
            refine brd_intro (fun _ => ?_) (fun _ => ?_)
            · ((conv => whnf); (repeat ((first | refine SeqN.plain ?_ | refine BoxN.own ?_ | refine RwN.own ?_ | refine VrN.norm (wrap_i64 (by omega)) ?_ | refine VrN.keep ?_ | refine DrawN.calm (by decide +kernel) ?_ | refine Nd.mk (by decide +kernel) ?_ | refine Nd.mk (by omega) ?_ | (refine Nd.mk ?_ ?_; focus ((repeat' (first | exact trivial | exact wkE_refl _ | refine And.intro ?_ ?_)); done)) | refine RdN.intro _ rfl (by rfl) ?_); (conv => whnf))))
              refine call1 (Hex_r t (by omega) _) ?_
              ((conv => whnf); (repeat ((first | refine SeqN.plain ?_ | refine BoxN.own ?_ | refine RwN.own ?_ | refine VrN.norm (wrap_i64 (by omega)) ?_ | refine VrN.keep ?_ | refine DrawN.calm (by decide +kernel) ?_ | refine Nd.mk (by decide +kernel) ?_ | refine Nd.mk (by omega) ?_ | (refine Nd.mk ?_ ?_; focus ((repeat' (first | exact trivial | exact wkE_refl _ | refine And.intro ?_ ?_)); done)) | refine RdN.intro _ rfl (by rfl) ?_); (conv => whnf))))
              refine ⟨(hex t), (by show (hex t).length ≤ 100; rw [hex_len]; omega), ?_, ⟨wkE_refl _, wkE_refl _, wkE_refl _, wkH_nil _⟩⟩
              (repeat' (first | exact trivial | refine And.intro (by with_reducible rfl) ?_ | (with_reducible exact wkC_refl _) | (with_reducible exact wkCs_refl _) | refine And.intro ?_ ?_))
              all_goals rfl
            · ((conv => whnf); (repeat ((first | refine SeqN.plain ?_ | refine BoxN.own ?_ | refine RwN.own ?_ | refine VrN.norm (wrap_i64 (by omega)) ?_ | refine VrN.keep ?_ | refine DrawN.calm (by decide +kernel) ?_ | refine Nd.mk (by decide +kernel) ?_ | refine Nd.mk (by omega) ?_ | (refine Nd.mk ?_ ?_; focus ((repeat' (first | exact trivial | exact wkE_refl _ | refine And.intro ?_ ?_)); done)) | refine RdN.intro _ rfl (by rfl) ?_); (conv => whnf))))
              refine ⟨t, (by show t.length ≤ 100; omega), ?_, ⟨wkE_refl _, wkE_refl _, wkE_refl _, wkH_nil _⟩⟩
              (repeat' (first | exact trivial | refine And.intro (by with_reducible rfl) ?_ | (with_reducible exact wkC_refl _) | (with_reducible exact wkCs_refl _) | refine And.intro ?_ ?_))
              all_goals rfl
          · ((conv => whnf); (repeat ((first | refine SeqN.plain ?_ | refine BoxN.own ?_ | refine RwN.own ?_ | refine VrN.norm (wrap_i64 (by omega)) ?_ | refine VrN.keep ?_ | refine DrawN.calm (by decide +kernel) ?_ | refine Nd.mk (by decide +kernel) ?_ | refine Nd.mk (by omega) ?_ | (refine Nd.mk ?_ ?_; focus ((repeat' (first | exact trivial | exact wkE_refl _ | refine And.intro ?_ ?_)); done)) | refine RdN.intro _ rfl (by rfl) ?_); (conv => whnf))))
            refine ⟨t, (by show t.length ≤ 100; omega), ?_, ⟨wkE_refl _, wkE_refl _, wkE_refl _, wkH_nil _⟩⟩
            (repeat' (first | exact trivial | refine And.intro (by with_reducible rfl) ?_ | (with_reducible exact wkC_refl _) | (with_reducible exact wkCs_refl _) | refine And.intro ?_ ?_))
            all_goals rfl
        clear ht2 ht t
        intro t ht0
        have ht : t.length ≤ 100 := ht0
        have hn2 : -9223372036854775808 ≤ n ∧ n < 9223372036854775808 := hn
        (first | refine wX ?_ | exact wZ)
        refine SeqN.plain ?_
        (first | refine wX ?_ | exact wZ)
        try refine Nd.mk ⟨Nat.le_refl 1, rfl, rfl⟩ ?_
        (conv => whnf)
        have hx0 : ItOk ⟨decide ((k : Int) ≥ 12), n, t⟩ := ⟨ht, hn2⟩
        refine AppN.grow 2 (itemsC items) (itemC ⟨decide ((k : Int) ≥ 12), n, t⟩) rfl rfl ⟨Nat.le_refl 1, ⟨by show (items.length + 1) * 32 ≤ _; omega, by omega⟩, by show 3 ≠ 0; omega⟩ fun b1 c1 h11 h12 => ?_
        (first | refine wX ?_ | exact wZ)
        have hI1 : (items ++ [(⟨decide ((k : Int) ≥ 12), n, t⟩ : Pack.Item)]).length = items.length + 1 := by rw [List.length_append]; rfl
        have hO1 : ∀ y ∈ items ++ [(⟨decide ((k : Int) ≥ 12), n, t⟩ : Pack.Item)], ItOk y := fun y hy => by
          rcases List.mem_append.1 hy with hy | hy
          · exact hio y hy
          · rw [List.mem_singleton.1 hy]; exact hx0
        have hC1 := itemsC_snoc items ⟨decide ((k : Int) ≥ 12), n, t⟩
        generalize items ++ [(⟨decide ((k : Int) ≥ 12), n, t⟩ : Pack.Item)] = its1 at *
        refine SeqN.join (List Pack.Item × Option Nat × Nat) (fun ⟨its, o, c⟩ => its.length ≤ items.length + 2 ∧ (∀ y ∈ its, ItOk y) ∧ ((o = none → its = [] ∧ c = 0) ∧ its.length ≤ c)) (fun ⟨its, o, c⟩ => mkS Tryz.f4.ntmps 0 [(0, .c (.v (.slice ia l.length pcap))), (6, .c (.v (.slice (some ⟨cb, 0, none⟩) 8 8))), (7, .c (.v (.int .i64 (i : Int)))), (8, .c (.v (.int .i64 (k : Int)))), (9, .c (.v (.string (bs [letter18 k])))), (4, .c (.v (.string (bs F)))), (5, .c (.v (.slice (at0 o) its.length c))), (10, .c (.v (.string (bs C)))), (11, .c (.v (.int .i64 n)))]) (fun ⟨its, o, c⟩ => [.fact (PicksF ia l), .app 9 1 ctsC (some ⟨cb, 0, none⟩) 8 8, .app 44 3 (itemsC its) (at0 o) its.length c, .dead]) (fun _ _ => Nat.le_of_ble_eq_true rfl) (fun _ _ => rfl) (fun _ _ => okHB_eq rfl) ?_ ?_
        · ((conv => whnf); (repeat ((first | refine SeqN.plain ?_ | refine BoxN.own ?_ | refine RwN.own ?_ | refine VrN.norm (wrap_i64 (by omega)) ?_ | refine VrN.keep ?_ | refine DrawN.calm (by decide +kernel) ?_ | refine Nd.mk (by decide +kernel) ?_ | refine Nd.mk (by omega) ?_ | (refine Nd.mk ?_ ?_; focus ((repeat' (first | exact trivial | exact wkE_refl _ | refine And.intro ?_ ?_)); done)) | refine RdN.intro _ rfl (by rfl) ?_); (conv => whnf))))
          refine brd_dec (fun h4 => ?_) (fun h4 => ?_)
          · ((conv => whnf); (repeat ((first | refine SeqN.plain ?_ | refine BoxN.own ?_ | refine RwN.own ?_ | refine VrN.norm (wrap_i64 (by omega)) ?_ | refine VrN.keep ?_ | refine DrawN.calm (by decide +kernel) ?_ | refine Nd.mk (by decide +kernel) ?_ | refine Nd.mk (by omega) ?_ | (refine Nd.mk ?_ ?_; focus ((repeat' (first | exact trivial | exact wkE_refl _ | refine And.intro ?_ ?_)); done)) | refine RdN.intro _ rfl (by rfl) ?_); (conv => whnf))))
            refine brd_intro (fun _ => ?_) (fun _ => ?_)
            · ((conv => whnf); (repeat ((first | refine SeqN.plain ?_ | refine BoxN.own ?_ | refine RwN.own ?_ | refine VrN.norm (wrap_i64 (by omega)) ?_ | refine VrN.keep ?_ | refine DrawN.calm (by decide +kernel) ?_ | refine Nd.mk (by decide +kernel) ?_ | refine Nd.mk (by omega) ?_ | (refine Nd.mk ?_ ?_; focus ((repeat' (first | exact trivial | exact wkE_refl _ | refine And.intro ?_ ?_)); done)) | refine RdN.intro _ rfl (by rfl) ?_); (conv => whnf))))
              refine Nd.mk ⟨Nat.le_refl 1, rfl, rfl⟩ ?_
              (conv => whnf)
              have hx1 : ItOk ⟨false, IntKind.i64.wrap (n.tdiv 2), []⟩ := ⟨Nat.zero_le _, wrap_rng _⟩
              rw [hC1]
              refine AppN.grow 2 (itemsC its1) (itemC ⟨false, IntKind.i64.wrap (n.tdiv 2), []⟩) rfl rfl ⟨Nat.le_refl 1, ⟨by show (items.length + 1 + 1) * 32 ≤ _; omega, by omega⟩, by show 3 ≠ 0; omega⟩ fun b2 c2 h21 h22 => ?_
              ((conv => whnf); (repeat ((first | refine SeqN.plain ?_ | refine BoxN.own ?_ | refine RwN.own ?_ | refine VrN.norm (wrap_i64 (by omega)) ?_ | refine VrN.keep ?_ | refine DrawN.calm (by decide +kernel) ?_ | refine Nd.mk (by decide +kernel) ?_ | refine Nd.mk (by omega) ?_ | (refine Nd.mk ?_ ?_; focus ((repeat' (first | exact trivial | exact wkE_refl _ | refine And.intro ?_ ?_)); done)) | refine RdN.intro _ rfl (by rfl) ?_); (conv => whnf))))
              have hI2 : (its1 ++ [(⟨false, IntKind.i64.wrap (n.tdiv 2), []⟩ : Pack.Item)]).length = items.length + 1 + 1 := by rw [List.length_append, hI1]; rfl
              refine ⟨(its1 ++ [(⟨false, IntKind.i64.wrap (n.tdiv 2), []⟩ : Pack.Item)], some b2, c2), ⟨by omega, fun y hy => ?_, fun h => (by cases h), by omega⟩, ?_, ⟨wkE_refl _, wkE_refl _, .inl ⟨rfl, rfl, itemsC_snoc its1 _, rfl, hI2.symm, rfl⟩, trivial, wkH_nil _⟩⟩
              · rcases List.mem_append.1 hy with hy | hy
                · exact hO1 y hy
                · rw [List.mem_singleton.1 hy]; exact hx1
              · (repeat' (first | exact trivial | refine And.intro (by with_reducible rfl) ?_ | (with_reducible exact wkC_refl _) | (with_reducible exact wkCs_refl _) | refine And.intro ?_ ?_))
                all_goals first | rfl | (rw [hI2]; rfl)
            · ((conv => whnf); (repeat ((first | refine SeqN.plain ?_ | refine BoxN.own ?_ | refine RwN.own ?_ | refine VrN.norm (wrap_i64 (by omega)) ?_ | refine VrN.keep ?_ | refine DrawN.calm (by decide +kernel) ?_ | refine Nd.mk (by decide +kernel) ?_ | refine Nd.mk (by omega) ?_ | (refine Nd.mk ?_ ?_; focus ((repeat' (first | exact trivial | exact wkE_refl _ | refine And.intro ?_ ?_)); done)) | refine RdN.intro _ rfl (by rfl) ?_); (conv => whnf))))
              refine brd_intro (fun _ => ?_) (fun _ => ?_)
              · ((conv => whnf); (repeat ((first | refine SeqN.plain ?_ | refine BoxN.own ?_ | refine RwN.own ?_ | refine VrN.norm (wrap_i64 (by omega)) ?_ | refine VrN.keep ?_ | refine DrawN.calm (by decide +kernel) ?_ | refine Nd.mk (by decide +kernel) ?_ | refine Nd.mk (by omega) ?_ | (refine Nd.mk ?_ ?_; focus ((repeat' (first | exact trivial | exact wkE_refl _ | refine And.intro ?_ ?_)); done)) | refine RdN.intro _ rfl (by rfl) ?_); (conv => whnf))))
                refine Nd.mk ⟨Nat.le_refl 1, rfl, rfl⟩ ?_
                (conv => whnf)
                have hx1 : ItOk ⟨false, IntKind.i64.wrap (n.tdiv 2), []⟩ := ⟨Nat.zero_le _, wrap_rng _⟩
                rw [hC1]
                refine AppN.grow 2 (itemsC its1) (itemC ⟨false, IntKind.i64.wrap (n.tdiv 2), []⟩) rfl rfl ⟨Nat.le_refl 1, ⟨by show (items.length + 1 + 1) * 32 ≤ _; omega, by omega⟩, by show 3 ≠ 0; omega⟩ fun b2 c2 h21 h22 => ?_
                ((conv => whnf); (repeat ((first | refine SeqN.plain ?_ | refine BoxN.own ?_ | refine RwN.own ?_ | refine VrN.norm (wrap_i64 (by omega)) ?_ | refine VrN.keep ?_ | refine DrawN.calm (by decide +kernel) ?_ | refine Nd.mk (by decide +kernel) ?_ | refine Nd.mk (by omega) ?_ | (refine Nd.mk ?_ ?_; focus ((repeat' (first | exact trivial | exact wkE_refl _ | refine And.intro ?_ ?_)); done)) | refine RdN.intro _ rfl (by rfl) ?_); (conv => whnf))))
                have hI2 : (its1 ++ [(⟨false, IntKind.i64.wrap (n.tdiv 2), []⟩ : Pack.Item)]).length = items.length + 1 + 1 := by rw [List.length_append, hI1]; rfl
                refine ⟨(its1 ++ [(⟨false, IntKind.i64.wrap (n.tdiv 2), []⟩ : Pack.Item)], some b2, c2), ⟨by omega, fun y hy => ?_, fun h => (by cases h), by omega⟩, ?_, ⟨wkE_refl _, wkE_refl _, .inl ⟨rfl, rfl, itemsC_snoc its1 _, rfl, hI2.symm, rfl⟩, trivial, wkH_nil _⟩⟩
                · rcases List.mem_append.1 hy with hy | hy
                  · exact hO1 y hy
                  · rw [List.mem_singleton.1 hy]; exact hx1
                · (repeat' (first | exact trivial | refine And.intro (by with_reducible rfl) ?_ | (with_reducible exact wkC_refl _) | (with_reducible exact wkCs_refl _) | refine And.intro ?_ ?_))
                  all_goals first | rfl | (rw [hI2]; rfl)
              · ((conv => whnf); (repeat ((first | refine SeqN.plain ?_ | refine BoxN.own ?_ | refine RwN.own ?_ | refine VrN.norm (wrap_i64 (by omega)) ?_ | refine VrN.keep ?_ | refine DrawN.calm (by decide +kernel) ?_ | refine Nd.mk (by decide +kernel) ?_ | refine Nd.mk (by omega) ?_ | (refine Nd.mk ?_ ?_; focus ((repeat' (first | exact trivial | exact wkE_refl _ | refine And.intro ?_ ?_)); done)) | refine RdN.intro _ rfl (by rfl) ?_); (conv => whnf))))
                refine ⟨(its1, some b1, c1), ⟨by omega, hO1, fun h => (by cases h), by omega⟩, ?_, ⟨wkE_refl _, wkE_refl _, .inl ⟨rfl, rfl, hC1, rfl, hI1.symm, rfl⟩, trivial, wkH_nil _⟩⟩
                (repeat' (first | exact trivial | refine And.intro (by with_reducible rfl) ?_ | (with_reducible exact wkC_refl _) | (with_reducible exact wkCs_refl _) | refine And.intro ?_ ?_))
                all_goals first | rfl | (rw [hI1]; rfl)
          · ((conv => whnf); (repeat ((first | refine SeqN.plain ?_ | refine BoxN.own ?_ | refine RwN.own ?_ | refine VrN.norm (wrap_i64 (by omega)) ?_ | refine VrN.keep ?_ | refine DrawN.calm (by decide +kernel) ?_ | refine Nd.mk (by decide +kernel) ?_ | refine Nd.mk (by omega) ?_ | (refine Nd.mk ?_ ?_; focus ((repeat' (first | exact trivial | exact wkE_refl _ | refine And.intro ?_ ?_)); done)) | refine RdN.intro _ rfl (by rfl) ?_); (conv => whnf))))
            refine ⟨(its1, some b1, c1), ⟨by omega, hO1, fun h => (by cases h), by omega⟩, ?_, ⟨wkE_refl _, wkE_refl _, .inl ⟨rfl, rfl, hC1, rfl, hI1.symm, rfl⟩, trivial, wkH_nil _⟩⟩
            (repeat' (first | exact trivial | refine And.intro (by with_reducible rfl) ?_ | (with_reducible exact wkC_refl _) | (with_reducible exact wkCs_refl _) | refine And.intro ?_ ?_))
            all_goals first | rfl | (rw [hI1]; rfl)
        rintro ⟨its2, o2, c2⟩ ⟨hl2, hO2, hob2⟩
        (first | refine wX ?_ | exact wZ)
        refine SeqN.plain ?_
        ((conv => whnf); (repeat ((first | refine SeqN.plain ?_ | refine BoxN.own ?_ | refine RwN.own ?_ | refine VrN.norm (wrap_i64 (by omega)) ?_ | refine VrN.keep ?_ | refine DrawN.calm (by decide +kernel) ?_ | refine Nd.mk (by decide +kernel) ?_ | refine Nd.mk (by omega) ?_ | (refine Nd.mk ?_ ?_; focus ((repeat' (first | exact trivial | exact wkE_refl _ | refine And.intro ?_ ?_)); done)) | refine RdN.intro _ rfl (by rfl) ?_); (conv => whnf))))
        refine brd_dec (fun h4 => ?_) (fun h4 => ?_)
        · ((conv => whnf); (repeat ((first | refine SeqN.plain ?_ | refine BoxN.own ?_ | refine RwN.own ?_ | refine VrN.norm (wrap_i64 (by omega)) ?_ | refine VrN.keep ?_ | refine DrawN.calm (by decide +kernel) ?_ | refine Nd.mk (by decide +kernel) ?_ | refine Nd.mk (by omega) ?_ | (refine Nd.mk ?_ ?_; focus ((repeat' (first | exact trivial | exact wkE_refl _ | refine And.intro ?_ ?_)); done)) | refine RdN.intro _ rfl (by rfl) ?_); (conv => whnf))))
          refine brd_intro (fun _ => ?_) (fun _ => ?_)
          · ((conv => whnf); (repeat ((first | refine SeqN.plain ?_ | refine BoxN.own ?_ | refine RwN.own ?_ | refine VrN.norm (wrap_i64 (by omega)) ?_ | refine VrN.keep ?_ | refine DrawN.calm (by decide +kernel) ?_ | refine Nd.mk (by decide +kernel) ?_ | refine Nd.mk (by omega) ?_ | (refine Nd.mk ?_ ?_; focus ((repeat' (first | exact trivial | exact wkE_refl _ | refine And.intro ?_ ?_)); done)) | refine RdN.intro _ rfl (by rfl) ?_); (conv => whnf))))
            refine Nd.mk ⟨Nat.le_refl 1, rfl, rfl⟩ ?_
            (conv => whnf)
            have hx1 : ItOk ⟨false, IntKind.i64.wrap (n.tdiv 3), []⟩ := ⟨Nat.zero_le _, wrap_rng _⟩
            refine AppN.grow 2 (itemsC its2) (itemC ⟨false, IntKind.i64.wrap (n.tdiv 3), []⟩) rfl rfl ⟨Nat.le_refl 1, ⟨by show (its2.length + 1) * 32 ≤ _; omega, by omega⟩, by show 3 ≠ 0; omega⟩ fun b2 c3 h21 h22 => ?_
            ((conv => whnf); (repeat ((first | refine SeqN.plain ?_ | refine BoxN.own ?_ | refine RwN.own ?_ | refine VrN.norm (wrap_i64 (by omega)) ?_ | refine VrN.keep ?_ | refine DrawN.calm (by decide +kernel) ?_ | refine Nd.mk (by decide +kernel) ?_ | refine Nd.mk (by omega) ?_ | (refine Nd.mk ?_ ?_; focus ((repeat' (first | exact trivial | exact wkE_refl _ | refine And.intro ?_ ?_)); done)) | refine RdN.intro _ rfl (by rfl) ?_); (conv => whnf))))
            have hI2 : (its2 ++ [(⟨false, IntKind.i64.wrap (n.tdiv 3), []⟩ : Pack.Item)]).length = its2.length + 1 := by rw [List.length_append]; rfl
            refine ⟨(i + 1, F, ds2, its2 ++ [(⟨false, IntKind.i64.wrap (n.tdiv 3), []⟩ : Pack.Item)], some b2, c3), ⟨by omega, by omega, hfo2, by omega, fun y hy => ?_, ⟨fun h => (by cases h), by omega⟩⟩, by show 20 - (i + 1) < 20 - i; omega, ?_, ⟨wkE_refl _, wkE_refl _, .inl ⟨rfl, rfl, itemsC_snoc its2 _, rfl, hI2.symm, rfl⟩, wkH_nil _⟩⟩
            · rcases List.mem_append.1 hy with hy | hy
              · exact hO2 y hy
              · rw [List.mem_singleton.1 hy]; exact hx1
            · (repeat' (first | exact trivial | refine And.intro (by with_reducible rfl) ?_ | (with_reducible exact wkC_refl _) | (with_reducible exact wkCs_refl _) | refine And.intro ?_ ?_))
              all_goals first | rfl | (rw [hI2]; rfl) | exact av_int (by first | omega | (rw [wrap_i64 (by omega)]; omega))
          · ((conv => whnf); (repeat ((first | refine SeqN.plain ?_ | refine BoxN.own ?_ | refine RwN.own ?_ | refine VrN.norm (wrap_i64 (by omega)) ?_ | refine VrN.keep ?_ | refine DrawN.calm (by decide +kernel) ?_ | refine Nd.mk (by decide +kernel) ?_ | refine Nd.mk (by omega) ?_ | (refine Nd.mk ?_ ?_; focus ((repeat' (first | exact trivial | exact wkE_refl _ | refine And.intro ?_ ?_)); done)) | refine RdN.intro _ rfl (by rfl) ?_); (conv => whnf))))
            refine ⟨(i + 1, F, ds2, its2, o2, c2), ⟨by omega, by omega, hfo2, by omega, hO2, hob2⟩, by show 20 - (i + 1) < 20 - i; omega, ?_, ⟨wkE_refl _, wkE_refl _, wkE_refl _, wkH_nil _⟩⟩
            (repeat' (first | exact trivial | refine And.intro (by with_reducible rfl) ?_ | (with_reducible exact wkC_refl _) | (with_reducible exact wkCs_refl _) | refine And.intro ?_ ?_))
            all_goals first | rfl | exact av_int (by first | omega | (rw [wrap_i64 (by omega)]; omega))
        · ((conv => whnf); (repeat ((first | refine SeqN.plain ?_ | refine BoxN.own ?_ | refine RwN.own ?_ | refine VrN.norm (wrap_i64 (by omega)) ?_ | refine VrN.keep ?_ | refine DrawN.calm (by decide +kernel) ?_ | refine Nd.mk (by decide +kernel) ?_ | refine Nd.mk (by omega) ?_ | (refine Nd.mk ?_ ?_; focus ((repeat' (first | exact trivial | exact wkE_refl _ | refine And.intro ?_ ?_)); done)) | refine RdN.intro _ rfl (by rfl) ?_); (conv => whnf))))
          refine ⟨(i + 1, F, ds2, its2, o2, c2), ⟨by omega, by omega, hfo2, by omega, hO2, hob2⟩, by show 20 - (i + 1) < 20 - i; omega, ?_, ⟨wkE_refl _, wkE_refl _, wkE_refl _, wkH_nil _⟩⟩
          (repeat' (first | exact trivial | refine And.intro (by with_reducible rfl) ?_ | (with_reducible exact wkC_refl _) | (with_reducible exact wkCs_refl _) | refine And.intro ?_ ?_))
          all_goals first | rfl | exact av_int (by first | omega | (rw [wrap_i64 (by omega)]; omega))
    · ((conv => whnf); (repeat ((first | refine SeqN.plain ?_ | refine BoxN.own ?_ | refine RwN.own ?_ | refine VrN.norm (wrap_i64 (by omega)) ?_ | refine VrN.keep ?_ | refine DrawN.calm (by decide +kernel) ?_ | refine Nd.mk (by decide +kernel) ?_ | refine Nd.mk (by omega) ?_ | (refine Nd.mk ?_ ?_; focus ((repeat' (first | exact trivial | exact wkE_refl _ | refine And.intro ?_ ?_)); done)) | refine RdN.intro _ rfl (by rfl) ?_); (conv => whnf))))
      refine fin_p (fun w => SlAt (at0 ob) (items.length * 3) (itemsC items) w) ?_ (fun w hw => hw.2.2.1)
      exact ⟨form, ds, i, items, ob, cap, rfl, hi20, hil, hfo, by omega, hio, fun h => (hob.1 h).1, hob.2, fun w hw => hw⟩
  · ((conv => whnf); (repeat ((first | refine SeqN.plain ?_ | refine BoxN.own ?_ | refine RwN.own ?_ | refine VrN.norm (wrap_i64 (by omega)) ?_ | refine VrN.keep ?_ | refine DrawN.calm (by decide +kernel) ?_ | refine Nd.mk (by decide +kernel) ?_ | refine Nd.mk (by omega) ?_ | (refine Nd.mk ?_ ?_; focus ((repeat' (first | exact trivial | exact wkE_refl _ | refine And.intro ?_ ?_)); done)) | refine RdN.intro _ rfl (by rfl) ?_); (conv => whnf))))
    refine fin_p (fun w => SlAt (at0 ob) (items.length * 3) (itemsC items) w) ?_ (fun w hw => hw.2.2.1)
    exact ⟨form, ds, i, items, ob, cap, rfl, hi20, hil, hfo, by omega, hio, fun h => (hob.1 h).1, hob.2, fun w hw => hw⟩
end Go.Proofs.YtjkchonpnocffaaGreatDoor

/-
  Contracts: the examples, PackHexes (law).
-/
namespace Go.Proofs.YtjkchonpnocffaaGreatDoor
open Go.AX Go.RowKit Go.Pack
set_option maxRecDepth 20000

theorem hp1 : packV (packS [67, 110] [⟨false, 1, []⟩, ⟨false, 258, []⟩]) = .tuple #[.string (bs [1, 1, 2]), .int .i64 0] := by rfl
theorem hp2 : packV (packS [65, 51] [⟨true, 0, [120]⟩]) = .tuple #[.string (bs [120, 32, 32]), .int .i64 0] := by rfl
theorem hu1 : unpackS [119] [129, 0] = .ok [⟨false, 128, []⟩] := by rfl
theorem Pack1 (b : Nat) : ∀ H, (∀ w, Facts H w → ItemsF (some ⟨b, 0, none⟩) [⟨false, 1, []⟩, ⟨false, 258, []⟩] w) → SpecH Tryz.prog 5 (pvs [.string (bs [67, 110]), .slice (some ⟨b, 0, none⟩) 2 2]) H (Ret (.tuple #[.string (bs [1, 1, 2]), .int .i64 0]) H) := fun H hF => by
  have h := Pack_c [67, 110] (some ⟨b, 0, none⟩) [⟨false, 1, []⟩, ⟨false, 258, []⟩] 2 (by decide) (fun _ => rfl) (by decide) (by simp) H hF
  rw [hp1] at h
  exact h
theorem Pack2 (b : Nat) : ∀ H, (∀ w, Facts H w → ItemsF (some ⟨b, 0, none⟩) [⟨true, 0, [120]⟩] w) → SpecH Tryz.prog 5 (pvs [.string (bs [65, 51]), .slice (some ⟨b, 0, none⟩) 1 1]) H (Ret (.tuple #[.string (bs [120, 32, 32]), .int .i64 0]) H) := fun H hF => by
  have h := Pack_c [65, 51] (some ⟨b, 0, none⟩) [⟨true, 0, [120]⟩] 1 (by decide) (fun _ => rfl) (by decide) (by simp) H hF
  rw [hp2] at h
  exact h
theorem sane_c : ∀ H, (∀ w, Facts H w → UtfF w) → SpecH Tryz.prog 10 (pvs []) H (Ret (.bool true) H) := by
  refine factC hm Tryz.func10 (by kernel_rfl) rfl rfl ?_
  ((conv => whnf); (repeat ((first | refine BoxN.own ?_ | refine VrN.norm (wrap_i64 (by omega)) ?_ | refine VrN.keep ?_ | refine DrawN.calm (by decide +kernel) ?_ | refine Nd.mk (by decide +kernel) ?_ | refine Nd.mk (by omega) ?_ | (refine Nd.mk ?_ ?_; focus ((repeat' (first | exact trivial | exact wkE_refl _ | refine And.intro ?_ ?_)); done)) | refine RdN.intro _ rfl (by rfl) ?_); (conv => whnf))))
  refine RwN.known _ rfl fun b1 => ?_
  ((conv => whnf); (repeat ((first | refine BoxN.own ?_ | refine VrN.norm (wrap_i64 (by omega)) ?_ | refine VrN.keep ?_ | refine DrawN.calm (by decide +kernel) ?_ | refine Nd.mk (by decide +kernel) ?_ | refine Nd.mk (by omega) ?_ | (refine Nd.mk ?_ ?_; focus ((repeat' (first | exact trivial | exact wkE_refl _ | refine And.intro ?_ ?_)); done)) | refine RdN.intro _ rfl (by rfl) ?_); (conv => whnf))))
  refine call1 (Pack1 b1 _ (fun w hw => hw.2.1)) ?_
  (first | refine wX ?_ | exact wZ)
  refine SpecF.call (Unpack_c [119] [129, 0] (by decide) (by decide)) (fun w hw => hw.1) fun v G hR => ?_
  rw [hu1] at hR
  obtain ⟨ob, cap, rfl, hob, hG⟩ := hR
  obtain ⟨g, rfl⟩ : ∃ g, ob = some g := by
    cases ob with
    | none => cases hob rfl
    | some g => exact ⟨g, rfl⟩
  ((conv => whnf); (repeat ((first | refine BoxN.own ?_ | refine VrN.norm (wrap_i64 (by omega)) ?_ | refine VrN.keep ?_ | refine DrawN.calm (by decide +kernel) ?_ | refine Nd.mk (by decide +kernel) ?_ | refine Nd.mk (by omega) ?_ | (refine Nd.mk ?_ ?_; focus ((repeat' (first | exact trivial | exact wkE_refl _ | refine And.intro ?_ ?_)); done)) | refine RdN.intro _ rfl (by rfl) ?_); (conv => whnf))))
  refine RwN.known _ rfl fun b2 => ?_
  ((conv => whnf); (repeat ((first | refine BoxN.own ?_ | refine VrN.norm (wrap_i64 (by omega)) ?_ | refine VrN.keep ?_ | refine DrawN.calm (by decide +kernel) ?_ | refine Nd.mk (by decide +kernel) ?_ | refine Nd.mk (by omega) ?_ | (refine Nd.mk ?_ ?_; focus ((repeat' (first | exact trivial | exact wkE_refl _ | refine And.intro ?_ ?_)); done)) | refine RdN.intro _ rfl (by rfl) ?_); (conv => whnf))))
  refine call1 (Pack2 b2 _ (fun w hw => hw.2.2.2.1)) ?_
  (first | refine wX ?_ | exact wZ)
  refine Nd.mk ⟨rfl, by decide, by decide⟩ ?_
  (first | refine wX ?_ | exact wZ)
  refine LdN.fld (a := some ⟨g, 0, none⟩) (q := 0) (.int .i64 128) rfl (fun w hw => hG w hw.2.2.1) rfl ?_
  (first | refine wX ?_ | exact wZ)
  rfl
end Go.Proofs.YtjkchonpnocffaaGreatDoor

/-
  Plain Lean: a character, byte by byte (as the document reads it).
-/
namespace Go.Pack
set_option maxRecDepth 20000
/-- The least code that so many bytes may have. -/
def least : Nat → Nat
  | 2 => 128
  | 3 => 2048
  | 4 => 65536
  | _ => 0
/-- Some character of so many bytes begins with n bytes that have these bits. -/
def bgP (bits n long : Nat) : Prop := max (bits * 64 ^ (long - n)) (least long) ≤ min (bits * 64 ^ (long - n) + 64 ^ (long - n) - 1) 1114111 ∧ ¬ (55296 ≤ max (bits * 64 ^ (long - n)) (least long) ∧ min (bits * 64 ^ (long - n) + 64 ^ (long - n) - 1) 1114111 ≤ 57343)
instance (bits n long : Nat) : Decidable (bgP bits n long) := inferInstanceAs (Decidable (_ ∧ _))
def oneR (long : Nat) : Nat → Nat → B → Nat × Int
  | bits, n, [] => if n < long then (n, -1) else (n, (bits : Int))
  | bits, n, c :: r => if n < long ∧ cont c = true ∧ bgP (bits * 64 + (c.toNat - 128)) (n + 1) long then oneR long (bits * 64 + (c.toNat - 128)) (n + 1) r else if n < long then (n, -1) else (n, (bits : Int))
def oneT : B → Nat × Int
  | [] => (1, -1)
  | a :: r =>
    if a.toNat < 128 then (1, (a.toNat : Int))
    else if 192 ≤ a.toNat ∧ a.toNat < 224 then if bgP (a.toNat - 192) 1 2 then oneR 2 (a.toNat - 192) 1 r else (1, -1)
    else if 224 ≤ a.toNat ∧ a.toNat < 240 then if bgP (a.toNat - 224) 1 3 then oneR 3 (a.toNat - 224) 1 r else (1, -1)
    else if 240 ≤ a.toNat ∧ a.toNat < 248 then if bgP (a.toNat - 240) 1 4 then oneR 4 (a.toNat - 240) 1 r else (1, -1)
    else (1, -1)
theorem bg12 {b : Nat} (_h : b < 32) : bgP b 1 2 ↔ 2 ≤ b := by unfold bgP; show max (b * 64) 128 ≤ min (b * 64 + 64 - 1) 1114111 ∧ ¬ (55296 ≤ max (b * 64) 128 ∧ min (b * 64 + 64 - 1) 1114111 ≤ 57343) ↔ _; omega
theorem bg22 {b : Nat} (_h : b < 2048) : bgP b 2 2 ↔ 128 ≤ b := by unfold bgP; show max (b * 1) 128 ≤ min (b * 1 + 1 - 1) 1114111 ∧ ¬ (55296 ≤ max (b * 1) 128 ∧ min (b * 1 + 1 - 1) 1114111 ≤ 57343) ↔ _; omega
theorem bg13 {b : Nat} (_h : b < 16) : bgP b 1 3 := by unfold bgP; show max (b * 4096) 2048 ≤ min (b * 4096 + 4096 - 1) 1114111 ∧ ¬ (55296 ≤ max (b * 4096) 2048 ∧ min (b * 4096 + 4096 - 1) 1114111 ≤ 57343); omega
theorem bg23 {b : Nat} (_h : b < 1024) : bgP b 2 3 ↔ 32 ≤ b ∧ ¬ (864 ≤ b ∧ b ≤ 895) := by unfold bgP; show max (b * 64) 2048 ≤ min (b * 64 + 64 - 1) 1114111 ∧ ¬ (55296 ≤ max (b * 64) 2048 ∧ min (b * 64 + 64 - 1) 1114111 ≤ 57343) ↔ _; omega
theorem bg33 {b : Nat} (_h : b < 65536) : bgP b 3 3 ↔ 2048 ≤ b ∧ ¬ (55296 ≤ b ∧ b ≤ 57343) := by unfold bgP; show max (b * 1) 2048 ≤ min (b * 1 + 1 - 1) 1114111 ∧ ¬ (55296 ≤ max (b * 1) 2048 ∧ min (b * 1 + 1 - 1) 1114111 ≤ 57343) ↔ _; omega
theorem bg14 {b : Nat} (_h : b < 8) : bgP b 1 4 ↔ b ≤ 4 := by unfold bgP; show max (b * 262144) 65536 ≤ min (b * 262144 + 262144 - 1) 1114111 ∧ ¬ (55296 ≤ max (b * 262144) 65536 ∧ min (b * 262144 + 262144 - 1) 1114111 ≤ 57343) ↔ _; omega
theorem bg24 {b : Nat} (_h : b < 512) : bgP b 2 4 ↔ 16 ≤ b ∧ b ≤ 271 := by unfold bgP; show max (b * 4096) 65536 ≤ min (b * 4096 + 4096 - 1) 1114111 ∧ ¬ (55296 ≤ max (b * 4096) 65536 ∧ min (b * 4096 + 4096 - 1) 1114111 ≤ 57343) ↔ _; omega
theorem bg34 {b : Nat} (_h : b < 32768) : bgP b 3 4 ↔ 1024 ≤ b ∧ b ≤ 17407 := by unfold bgP; show max (b * 64) 65536 ≤ min (b * 64 + 64 - 1) 1114111 ∧ ¬ (55296 ≤ max (b * 64) 65536 ∧ min (b * 64 + 64 - 1) 1114111 ≤ 57343) ↔ _; omega
theorem bg44 {b : Nat} (_h : b < 2097152) : bgP b 4 4 ↔ 65536 ≤ b ∧ b ≤ 1114111 := by unfold bgP; show max (b * 1) 65536 ≤ min (b * 1 + 1 - 1) 1114111 ∧ ¬ (55296 ≤ max (b * 1) 65536 ∧ min (b * 1 + 1 - 1) 1114111 ≤ 57343) ↔ _; omega
theorem cont_nat {c : UInt8} (h : cont c = true) : 128 ≤ c.toNat ∧ c.toNat < 192 := by
  unfold cont at h
  rw [Bool.and_eq_true, decide_eq_true_eq, decide_eq_true_eq] at h
  exact ⟨UInt8.le_iff_toNat_le.1 h.1, UInt8.lt_iff_toNat_lt.1 h.2⟩
theorem oneR_end (long bits : Nat) (r : B) : oneR long bits long r = (long, (bits : Int)) := by
  cases r with
  | nil => unfold oneR; rw [if_neg (Nat.lt_irrefl _)]
  | cons c r => unfold oneR; rw [if_neg (fun h => absurd h.1 (Nat.lt_irrefl _)), if_neg (Nat.lt_irrefl _)]
theorem oneR_no {long bits n : Nat} {c : UInt8} {r : B} (hn : n < long) (h : ¬ (cont c = true ∧ bgP (bits * 64 + (c.toNat - 128)) (n + 1) long)) : oneR long bits n (c :: r) = (n, -1) := by
  unfold oneR
  rw [if_neg (fun h2 => h h2.2), if_pos hn]
theorem oneR_yes {long bits n : Nat} {c : UInt8} {r : B} (hn : n < long) (h1 : cont c = true) (h2 : bgP (bits * 64 + (c.toNat - 128)) (n + 1) long) : oneR long bits n (c :: r) = oneR long (bits * 64 + (c.toNat - 128)) (n + 1) r := by
  conv => lhs; unfold oneR
  rw [if_pos ⟨hn, h1, h2⟩]
theorem oneR_nil {long bits n : Nat} (hn : n < long) : oneR long bits n [] = (n, -1) := by unfold oneR; rw [if_pos hn]
/-- What the document's reader gives is what runeD says. -/
def OneOk (o : Option (Nat × Nat)) (x : Nat × Int) : Prop := match o with
  | some (n, k) => x = (k, (n : Int))
  | none => x.2 = -1
theorem one2 (a : UInt8) (r : B) (h1 : 192 ≤ a.toNat) (h2 : a.toNat < 224) : OneOk (match r with
      | b :: _ => if cont b && decide (128 ≤ (a.toNat - 192) * 64 + (b.toNat - 128)) then some ((a.toNat - 192) * 64 + (b.toNat - 128), 2) else none
      | _ => none) (if bgP (a.toNat - 192) 1 2 then oneR 2 (a.toNat - 192) 1 r else (1, -1)) := by
  have h0 := bg12 (b := a.toNat - 192) (by omega)
  cases r with
  | nil =>
    by_cases hg : bgP (a.toNat - 192) 1 2
    · rw [if_pos hg, oneR_nil (by decide)]; rfl
    · rw [if_neg hg]; rfl
  | cons b r =>
    simp only
    by_cases hc : cont b = true
    · have hb := cont_nat hc
      have h3 := bg22 (b := (a.toNat - 192) * 64 + (b.toNat - 128)) (by omega)
      rw [hc, Bool.true_and]
      by_cases hv : 128 ≤ (a.toNat - 192) * 64 + (b.toNat - 128)
      · rw [if_pos (decide_eq_true hv), if_pos (h0.2 (by omega)), oneR_yes (by decide) hc (h3.2 hv), oneR_end]
        rfl
      · rw [if_neg (by simpa using hv)]
        split
        · rw [oneR_no (by decide) (fun h => hv (h3.1 h.2))]; rfl
        · rfl
    · rw [if_neg (by simp [hc])]
      split
      · rw [oneR_no (by decide) (fun h => hc h.1)]; rfl
      · rfl
theorem one3 (a : UInt8) (r : B) (h1 : 224 ≤ a.toNat) (h2 : a.toNat < 240) : OneOk (match r with
      | b :: c :: _ => if cont b && cont c && decide (2048 ≤ ((a.toNat - 224) * 64 + (b.toNat - 128)) * 64 + (c.toNat - 128)) && (decide (((a.toNat - 224) * 64 + (b.toNat - 128)) * 64 + (c.toNat - 128) < 55296) || decide (57343 < ((a.toNat - 224) * 64 + (b.toNat - 128)) * 64 + (c.toNat - 128))) then some (((a.toNat - 224) * 64 + (b.toNat - 128)) * 64 + (c.toNat - 128), 3) else none
      | _ => none) (if bgP (a.toNat - 224) 1 3 then oneR 3 (a.toNat - 224) 1 r else (1, -1)) := by
  rw [if_pos (bg13 (by omega))]
  rcases r with _ | ⟨b, r⟩
  · rw [oneR_nil (by decide)]; rfl
  by_cases hb : cont b = true
  · have hb1 := cont_nat hb
    have h3 := bg23 (b := (a.toNat - 224) * 64 + (b.toNat - 128)) (by omega)
    rcases r with _ | ⟨c, r⟩
    · by_cases hv : bgP ((a.toNat - 224) * 64 + (b.toNat - 128)) 2 3
      · rw [oneR_yes (by decide) hb hv, oneR_nil (by decide)]; rfl
      · rw [oneR_no (by decide) (fun h => hv h.2)]; rfl
    · simp only
      by_cases hc : cont c = true
      · have hc1 := cont_nat hc
        have h4 := bg33 (b := ((a.toNat - 224) * 64 + (b.toNat - 128)) * 64 + (c.toNat - 128)) (by omega)
        by_cases hv : 2048 ≤ ((a.toNat - 224) * 64 + (b.toNat - 128)) * 64 + (c.toNat - 128) ∧ ¬ (55296 ≤ ((a.toNat - 224) * 64 + (b.toNat - 128)) * 64 + (c.toNat - 128) ∧ ((a.toNat - 224) * 64 + (b.toNat - 128)) * 64 + (c.toNat - 128) ≤ 57343)
        · rw [if_pos (by simp [hb, hc]; omega), oneR_yes (by decide) hb (h3.2 (by omega)), oneR_yes (by decide) hc (h4.2 hv), oneR_end]
          rfl
        · rw [if_neg (by simp [hb, hc]; omega)]
          by_cases hw : bgP ((a.toNat - 224) * 64 + (b.toNat - 128)) 2 3
          · rw [oneR_yes (by decide) hb hw, oneR_no (by decide) (fun h => hv (h4.1 h.2))]; rfl
          · rw [oneR_no (by decide) (fun h => hw h.2)]; rfl
      · rw [if_neg (by simp [hc])]
        by_cases hw : bgP ((a.toNat - 224) * 64 + (b.toNat - 128)) 2 3
        · rw [oneR_yes (by decide) hb hw, oneR_no (by decide) (fun h => hc h.1)]; rfl
        · rw [oneR_no (by decide) (fun h => hw h.2)]; rfl
  · rw [oneR_no (by decide) (fun h => hb h.1)]
    rcases r with _ | ⟨c, r⟩
    · rfl
    · simp only
      rw [if_neg (by simp [hb])]; rfl
theorem one4 (a : UInt8) (r : B) (h1 : 240 ≤ a.toNat) (h2 : a.toNat < 248) : OneOk (match r with
      | b :: c :: d :: _ => if cont b && cont c && cont d && decide (65536 ≤ (((a.toNat - 240) * 64 + (b.toNat - 128)) * 64 + (c.toNat - 128)) * 64 + (d.toNat - 128)) && decide ((((a.toNat - 240) * 64 + (b.toNat - 128)) * 64 + (c.toNat - 128)) * 64 + (d.toNat - 128) ≤ 1114111) then some ((((a.toNat - 240) * 64 + (b.toNat - 128)) * 64 + (c.toNat - 128)) * 64 + (d.toNat - 128), 4) else none
      | _ => none) (if bgP (a.toNat - 240) 1 4 then oneR 4 (a.toNat - 240) 1 r else (1, -1)) := by
  have h0 := bg14 (b := a.toNat - 240) (by omega)
  by_cases hg : bgP (a.toNat - 240) 1 4
  · rw [if_pos hg]
    rcases r with _ | ⟨b, r⟩
    · rw [oneR_nil (by decide)]; rfl
    by_cases hb : cont b = true ∧ bgP ((a.toNat - 240) * 64 + (b.toNat - 128)) 2 4
    · have hb1 := cont_nat hb.1
      have h3 := (bg24 (b := (a.toNat - 240) * 64 + (b.toNat - 128)) (by omega)).1 hb.2
      rw [oneR_yes (by decide) hb.1 hb.2]
      rcases r with _ | ⟨c, r⟩
      · rw [oneR_nil (by decide)]; rfl
      by_cases hc : cont c = true ∧ bgP (((a.toNat - 240) * 64 + (b.toNat - 128)) * 64 + (c.toNat - 128)) 3 4
      · have hc1 := cont_nat hc.1
        have h4 := (bg34 (b := ((a.toNat - 240) * 64 + (b.toNat - 128)) * 64 + (c.toNat - 128)) (by omega)).1 hc.2
        rw [oneR_yes (by decide) hc.1 hc.2]
        rcases r with _ | ⟨d, r⟩
        · rw [oneR_nil (by decide)]; rfl
        simp only
        by_cases hd : cont d = true
        · have hd1 := cont_nat hd
          have h5 := bg44 (b := (((a.toNat - 240) * 64 + (b.toNat - 128)) * 64 + (c.toNat - 128)) * 64 + (d.toNat - 128)) (by omega)
          by_cases hv : 65536 ≤ (((a.toNat - 240) * 64 + (b.toNat - 128)) * 64 + (c.toNat - 128)) * 64 + (d.toNat - 128) ∧ (((a.toNat - 240) * 64 + (b.toNat - 128)) * 64 + (c.toNat - 128)) * 64 + (d.toNat - 128) ≤ 1114111
          · rw [if_pos (by simp [hb.1, hc.1, hd]; omega), oneR_yes (by decide) hd (h5.2 hv), oneR_end]; rfl
          · rw [if_neg (by simp [hb.1, hc.1, hd]; omega), oneR_no (by decide) (fun h => hv (h5.1 h.2))]; rfl
        · rw [if_neg (by simp [hd]), oneR_no (by decide) (fun h => hd h.1)]; rfl
      · rw [oneR_no (by decide) hc]
        rcases r with _ | ⟨d, r⟩
        · rfl
        simp only
        split
        · rename_i hf
          simp only [Bool.and_eq_true, decide_eq_true_eq] at hf
          have hc1 := cont_nat hf.1.1.1.2
          have hd1 := cont_nat hf.1.1.2
          exact absurd ⟨hf.1.1.1.2, (bg34 (b := ((a.toNat - 240) * 64 + (b.toNat - 128)) * 64 + (c.toNat - 128)) (by omega)).2 (by omega)⟩ hc
        · rfl
    · rw [oneR_no (by decide) hb]
      rcases r with _ | ⟨c, _ | ⟨d, r⟩⟩
      · rfl
      · rfl
      simp only
      split
      · rename_i hf
        simp only [Bool.and_eq_true, decide_eq_true_eq] at hf
        have hb1 := cont_nat hf.1.1.1.1
        have hc1 := cont_nat hf.1.1.1.2
        have hd1 := cont_nat hf.1.1.2
        exact absurd ⟨hf.1.1.1.1, (bg24 (b := (a.toNat - 240) * 64 + (b.toNat - 128)) (by omega)).2 (by omega)⟩ hb
      · rfl
  · rw [if_neg hg]
    rcases r with _ | ⟨b, _ | ⟨c, _ | ⟨d, r⟩⟩⟩
    · rfl
    · rfl
    · rfl
    simp only
    split
    · rename_i hf
      simp only [Bool.and_eq_true, decide_eq_true_eq] at hf
      have hb1 := cont_nat hf.1.1.1.1
      have hc1 := cont_nat hf.1.1.1.2
      have hd1 := cont_nat hf.1.1.2
      exact absurd (h0.2 (by omega)) hg
    · rfl
theorem oneT_ok (s : B) (hs : s ≠ []) : OneOk (runeD s) (oneT s) := by
  cases s with
  | nil => exact absurd rfl hs
  | cons a r =>
    have e1 : (a < 128) = (a.toNat < 128) := propext UInt8.lt_iff_toNat_lt
    have e2 : (192 ≤ a) = (192 ≤ a.toNat) := propext UInt8.le_iff_toNat_le
    have e3 : (a < 224) = (a.toNat < 224) := propext UInt8.lt_iff_toNat_lt
    have e4 : (224 ≤ a) = (224 ≤ a.toNat) := propext UInt8.le_iff_toNat_le
    have e5 : (a < 240) = (a.toNat < 240) := propext UInt8.lt_iff_toNat_lt
    have e6 : (240 ≤ a) = (240 ≤ a.toNat) := propext UInt8.le_iff_toNat_le
    have e7 : (a < 248) = (a.toNat < 248) := propext UInt8.lt_iff_toNat_lt
    unfold runeD oneT
    simp only [e1, e2, e3, e4, e5, e6, e7, Bool.and_eq_true, decide_eq_true_eq]
    by_cases h1 : a.toNat < 128
    · rw [if_pos h1, if_pos h1]; rfl
    rw [if_neg h1, if_neg h1]
    by_cases h2 : 192 ≤ a.toNat ∧ a.toNat < 224
    · rw [if_pos h2, if_pos h2]
      have := one2 a r h2.1 h2.2
      rcases r with _ | ⟨b, r⟩ <;> simpa using this
    rw [if_neg h2, if_neg h2]
    by_cases h3 : 224 ≤ a.toNat ∧ a.toNat < 240
    · rw [if_pos h3, if_pos h3]
      have := one3 a r h3.1 h3.2
      rcases r with _ | ⟨b, _ | ⟨c, r⟩⟩ <;> simpa using this
    rw [if_neg h3, if_neg h3]
    by_cases h4 : 240 ≤ a.toNat ∧ a.toNat < 248
    · rw [if_pos h4, if_pos h4]
      have := one4 a r h4.1 h4.2
      rcases r with _ | ⟨b, _ | ⟨c, _ | ⟨d, r⟩⟩⟩ <;> simpa using this
    rw [if_neg h4, if_neg h4]
    rfl
end Go.Pack

/-
  Contracts: a character is read (document).
-/
namespace Go.Proofs.YtjkchonpnocffaaGreatDoor
open Go.AX Go.RowKit Go.Pack
set_option maxRecDepth 20000

theorem maxI_z (P k : Nat) (z : Int) (h : z = (k : Int)) : maxI (P : Int) z = ((max P k : Nat) : Int) := by
  subst h
  unfold maxI
  split <;> omega
theorem codes_r (b n long : Nat) (h1 : 1 ≤ n ∧ n ≤ long) (h2 : long = 2 ∨ long = 3 ∨ long = 4) (hb : b < 2097152) : ∀ H, SpecH Tryz.prog 87 (pvs [.int .i64 (b : Int), .int .i64 (n : Int), .int .i64 (long : Int)]) H
    (Ret (.tuple #[.int .i64 ((max (b * 64 ^ (long - n)) (least long) : Nat) : Int), .int .i64 ((min (b * 64 ^ (long - n) + 64 ^ (long - n) - 1) 1114111 : Nat) : Int)]) H) := by
  refine pureC hm Tryz.func87 (by kernel_rfl) rfl rfl ?_
  (first | refine wX ?_ | exact wZ)
  refine LoopN.intro Nat (fun j => n + j ≤ long) (fun j => mkS Tryz.f87.ntmps 0 [(2, .c (.v (.int .i64 (long : Int)))), (8, .c (.v (.int .i64 ((b * 64 ^ j : Nat) : Int)))), (9, .c (.v (.int .i64 ((b * 64 ^ j + 64 ^ j - 1 : Nat) : Int)))), (10, .c (.v (.int .i64 ((n + j : Nat) : Int))))])
    (fun _ => []) (fun j => long - n - j) [] rfl (fun _ => rfl) (fun _ => rfl) (fun _ _ => okHB_eq rfl) ⟨0, by omega, ?_, trivial⟩ fun j hj => ?_
  · (repeat' (first | exact trivial | refine And.intro (by with_reducible rfl) ?_ | (with_reducible exact wkC_refl _) | (with_reducible exact wkCs_refl _) | refine And.intro ?_ ?_))
    all_goals first | rfl | exact av_int (by simp)
  have hj3 : j ≤ 3 := by omega
  have hp : 64 ^ j ≤ 262144 ∧ 1 ≤ 64 ^ j := by
    rcases (by omega : j = 0 ∨ j = 1 ∨ j = 2 ∨ j = 3) with rfl | rfl | rfl | rfl <;> decide
  have hbp : b * 64 ^ j ≤ 2097152 * 262144 := Nat.mul_le_mul (by omega) hp.1
  have hnx : 64 ^ (j + 1) = 64 ^ j * 64 := Nat.pow_succ ..
  have hnb : b * 64 ^ (j + 1) = b * 64 ^ j * 64 := by rw [hnx, Nat.mul_assoc]
  (first | refine wX ?_ | exact wZ)
  refine brd_dec (fun h => ?_) (fun h => ?_)
  · (first | refine wX ?_ | exact wZ)
    refine ⟨j + 1, by omega, by omega, ?_, trivial⟩
    (repeat' (first | exact trivial | refine And.intro (by with_reducible rfl) ?_ | (with_reducible exact wkC_refl _) | (with_reducible exact wkCs_refl _) | refine And.intro ?_ ?_))
    all_goals first | rfl | exact av_int (by rw [hnb]; omega) | exact av_int (by rw [hnb, hnx]; omega) | exact av_int (by rw [wrap_i64 (by omega)]; omega) | exact av_int (by simp (disch := omega) only [wrap_i64]; rw [hnb, hnx]; omega)
  · have hje : long - n = j := by omega
    rw [hje]
    generalize hP : b * 64 ^ j = P at *
    generalize hQ : 64 ^ j = Q at *
    have hmn : minI ((P + Q - 1 : Nat) : Int) 1114111 = ((min (P + Q - 1) 1114111 : Nat) : Int) := by unfold minI; split <;> omega
    rcases h2 with rfl | rfl | rfl
    · ((conv => whnf); (repeat ((first | refine BoxN.own ?_ | refine RwN.own ?_ | refine VrN.keep ?_ | refine DrawN.calm (by decide +kernel) ?_ | refine Nd.mk (by decide +kernel) ?_ | refine Nd.mk (by omega) ?_ | (refine Nd.mk ?_ ?_; focus ((repeat' (first | exact trivial | exact wkE_refl _ | refine And.intro ?_ ?_)); done)) | refine RdN.intro _ rfl (by rfl) ?_); (conv => whnf))))
      rw [hmn]
      rw [maxI_z P 128 128 (by omega)]
      rfl
    · ((conv => whnf); (repeat ((first | refine BoxN.own ?_ | refine RwN.own ?_ | refine VrN.keep ?_ | refine DrawN.calm (by decide +kernel) ?_ | refine Nd.mk (by decide +kernel) ?_ | refine Nd.mk (by omega) ?_ | (refine Nd.mk ?_ ?_; focus ((repeat' (first | exact trivial | exact wkE_refl _ | refine And.intro ?_ ?_)); done)) | refine RdN.intro _ rfl (by rfl) ?_); (conv => whnf))))
      rw [hmn]
      rw [maxI_z P 2048 2048 (by omega)]
      rfl
    · ((conv => whnf); (repeat ((first | refine BoxN.own ?_ | refine RwN.own ?_ | refine VrN.keep ?_ | refine DrawN.calm (by decide +kernel) ?_ | refine Nd.mk (by decide +kernel) ?_ | refine Nd.mk (by omega) ?_ | (refine Nd.mk ?_ ?_; focus ((repeat' (first | exact trivial | exact wkE_refl _ | refine And.intro ?_ ?_)); done)) | refine RdN.intro _ rfl (by rfl) ?_); (conv => whnf))))
      rw [hmn]
      rw [maxI_z P 65536 65536 (by omega)]
      rfl
theorem begins_r (b n long : Nat) (h1 : 1 ≤ n ∧ n ≤ long) (h2 : long = 2 ∨ long = 3 ∨ long = 4) (hb : b < 2097152) : ∀ H, SpecH Tryz.prog 67 (pvs [.int .i64 (b : Int), .int .i64 (n : Int), .int .i64 (long : Int)]) H (Ret (.bool (decide (bgP b n long))) H) := by
  refine pureC hm Tryz.func67 (by kernel_rfl) rfl rfl ?_
  (first | refine wX ?_ | exact wZ)
  refine call1 (codes_r b n long h1 h2 hb _) ?_
  obtain ⟨lo, hlo⟩ : ∃ lo, max (b * 64 ^ (long - n)) (least long) = lo := ⟨_, rfl⟩
  obtain ⟨hi, hhi⟩ : ∃ hi, min (b * 64 ^ (long - n) + 64 ^ (long - n) - 1) 1114111 = hi := ⟨_, rfl⟩
  have hbg : bgP b n long ↔ lo ≤ hi ∧ ¬ (55296 ≤ lo ∧ hi ≤ 57343) := by unfold bgP; rw [hlo, hhi]
  rw [hlo, hhi]
  obtain ⟨zl, hzl⟩ : ∃ z : Int, (lo : Int) = z := ⟨_, rfl⟩
  obtain ⟨zh, hzh⟩ : ∃ z : Int, (hi : Int) = z := ⟨_, rfl⟩
  rw [hzl, hzh]
  (first | refine wX ?_ | exact wZ)
  refine brd_dec (fun h3 => ?_) (fun h3 => ?_)
  · (first | refine wX ?_ | exact wZ)
    refine brd_dec (fun h4 => ?_) (fun h4 => ?_)
    · (first | refine wX ?_ | exact wZ)
      by_cases h5 : zh ≤ 57343
      · rw [decide_eq_true h5, decide_eq_false (fun h => (hbg.1 h).2 ⟨by omega, by omega⟩)]
        rfl
      · rw [decide_eq_false h5, decide_eq_true (hbg.2 ⟨by omega, fun h => h5 (by omega)⟩)]
        rfl
    · (first | refine wX ?_ | exact wZ)
      rw [decide_eq_true (hbg.2 ⟨by omega, fun h => h4 (by omega)⟩)]
      try rfl
  · (first | refine wX ?_ | exact wZ)
    rw [decide_eq_false (fun h => h3 (by have := (hbg.1 h).1; omega))]
    try rfl
end Go.Proofs.YtjkchonpnocffaaGreatDoor
