/-
  PackFormsCardSaid is proved: of every list of picks and every bytes PackForms returns true and leaves its arguments as they were; the listed tables are tied to the program's text.
-/
import Derived.Test.YtjkchonpnocffaaGreatDoorCards
import Derived.Test.YtjkchonpnocffaaGreatDoorTie
import Derived.Test.YtjkchonpnocffaaGreatDoorMf8
/-
  Contract: a text is written (document).
-/
namespace Go.Proofs.YtjkchonpnocffaaGreatDoor
open Go.AX Go.RowKit Go.Pack
set_option maxRecDepth 20000

theorem SlAt.cut {a : Option Addr} {k : Nat} {xs : List Value} {w : World} (h : SlAt a k xs w) (m : Nat) (hm : m ≤ k) : SlAt a m (xs.take m) w := by
  obtain ⟨h1, h2, h3⟩ := h
  refine ⟨by rw [List.length_take]; omega, fun h => h2 (by omega), fun j hj => ?_⟩
  rw [h3 j (by omega), List.getElem?_take, if_pos hj]
theorem u8s_take (l : List UInt8) (m : Nat) : (u8s l).take m = u8s (l.take m) := by simp [u8s, List.map_take]
theorem text_r (d : Dir) (s : List UInt8) (hc : CntOk d.letter d.count) (h64 : d.letter ≠ 64) (hs : s.length ≤ 140737488351232) : SpecF Tryz.prog 70 [dirV d, .string (bs s)] (fun _ => True) (WrR (textS d s)) := by
  refine specF hm Tryz.func70 (by kernel_rfl) rfl rfl ?_
  have h72 : ((d.letter.toNat : Int) == 72) = (d.letter == 72) := u8_eq (n := 72) (by decide)
  have h90 : ((d.letter.toNat : Int) == 90) = (d.letter == 90) := u8_eq (n := 90) (by decide)
  have h65 : ((d.letter.toNat : Int) == 65) = (d.letter == 65) := u8_eq (n := 65) (by decide)
  have hzs := bs_size s
  (first | refine wX ?_ | exact wZ)
  refine brd_eq (fun hk => ?_) (fun hk => ?_)
  · have hc2 : ∀ n, cntS d n = 1 := fun n => by unfold cntS; rw [if_pos hk]
    have hk1 : d.count ≠ -1 := by omega
    (first | refine wX ?_ | exact wZ)
    rw [h72]
    cases e72 : d.letter == 72 with
    | true =>
      have hT : textS d s = hexS 1 s := by unfold textS; rw [if_pos e72, hc2]
      rw [hT]
      (first | refine wX ?_ | exact wZ)
      refine SpecF.call (hexed_r s 1 1 (.inr rfl) (by omega) (by omega)) (fun w _ => trivial) fun v G hR => ?_
      cases hx : hexS (1) s with
      | error e =>
        rw [hx] at hR
        obtain rfl := hR
        (first | refine wX ?_ | exact wZ)
        exact fin_v rfl
      | ok l =>
        rw [hx] at hR
        obtain ⟨x, rfl, ob, cap, rfl, hob, hG⟩ := hR
        (first | refine wX ?_ | exact wZ)
        exact fin_p G ⟨_, rfl, ob, cap, rfl, hob, hG⟩ (fun w hw => hw.2.1)
    | false =>
      -- the count 1; it as it is spelled: 1
      (first | refine wX ?_ | exact wZ)
      refine EffW.bytesOf (e := 5) s rfl Tryz.underlying9 (by kernel_rfl) (by kernel_rfl) rfl (by omega) fun lb lc h5 h6 => ?_
      (first | refine wX ?_ | exact wZ)
      try refine brd_eq (fun h => absurd h (by decide)) (fun _ => ?_); (first | refine wX ?_ | exact wZ)
      refine brd_dec (fun h1 => ?_) (fun h1 => ?_)
      · skip
        -- the count 1; it as it is spelled: 1; the text is longer
        have hn1 : 1 ≤ 1 := by omega
        (first | refine wX ?_ | exact wZ)
        refine ReadW.slc_h (ob := some lb) (j := 1) rfl (by kernel_rfl) rfl rfl ⟨by omega, by omega⟩ ?_
        have hjn : Int.toNat (1) = 1 := by omega
        rw [hjn]
        (first | refine wX ?_ | exact wZ)
        rw [h90]
        cases e90 : d.letter == 90 with
        | true =>
          have hT : textS d s = .ok ((s.take (1)).set (1 - 1) 0) := by
            unfold textS
            rw [if_neg (by rw [e72]; decide), if_neg hk1, hc2]
            simp only
            rw [if_pos (by rw [Bool.and_eq_true, decide_eq_true_eq]; exact ⟨e90, by omega⟩), show 1 - s.length = 0 by omega]
            simp
          rw [hT]
          have hw9 : IntKind.i64.wrap (1 - 1) = ((1 - 1 : Nat) : Int) := by rw [wrap_i64 (by omega)]; omega
          (first | refine wX ?_ | exact wZ)
          try rw [hw9]
          refine Nd.mk ⟨rfl, by omega, by omega⟩ ?_
          (first | refine wX ?_ | exact wZ)
          refine EffW.appTo (i := 2) (q := 1 - 1) (ys := [_]) (u8s (s.set (1 - 1) 0)) 1 rfl (ptr_lit rfl (by show Int.toNat _ * 1 = _; omega)) rfl rfl rfl rfl rfl (by show 1 - 1 + 1 ≤ s.length * 1; omega) (u8s_put (k := 1 - 1) 0 (by omega)) rfl ?_
          (first | refine wX ?_ | exact wZ)
          refine LoopN.unroll 1 ?_
          (first | refine wX ?_ | exact wZ)
          first | (refine brd_dec (fun h => absurd h (by omega)) (fun _ => ?_); (first | refine wX ?_ | exact wZ)) | skip
          refine fin_p (SlAt (some ⟨lb, 0, none⟩) 1 (u8s ((s.take (1)).set (1 - 1) 0))) ⟨_, rfl, some lb, lc, by rw [List.length_set, List.length_take, Nat.min_eq_left (by omega)], fun h => (by cases h), fun w hw => (by rw [List.length_set, List.length_take, Nat.min_eq_left (by omega)]; exact hw)⟩ (fun w hw => ?_)
          have h7 := SlAt.cut hw.2.1 (1) (by omega)
          rw [u8s_take, List.take_set] at h7
          exact h7
        | false =>
          have hT : textS d s = .ok (s.take (1)) := by
            unfold textS
            rw [if_neg (by rw [e72]; decide), if_neg hk1, hc2]
            simp only
            rw [if_neg (by rw [Bool.and_eq_true]; intro h; rw [e90] at h; exact absurd h.1 (by decide)), show 1 - s.length = 0 by omega]
            simp
          rw [hT]
          (first | refine wX ?_ | exact wZ)
          refine LoopN.unroll 1 ?_
          (first | refine wX ?_ | exact wZ)
          first | (refine brd_dec (fun h => absurd h (by omega)) (fun _ => ?_); (first | refine wX ?_ | exact wZ)) | skip
          refine fin_p (SlAt (some ⟨lb, 0, none⟩) 1 (u8s (s.take (1)))) ⟨_, rfl, some lb, lc, by rw [List.length_take, Nat.min_eq_left (by omega)], fun h => (by cases h), fun w hw => (by rw [List.length_take, Nat.min_eq_left (by omega)]; exact hw)⟩ (fun w hw => ?_)
          have h7 := SlAt.cut hw.2.1 (1) (by omega)
          rw [u8s_take] at h7
          exact h7
      · skip
        -- the count 1; it as it is spelled: 1; the text is not longer
        have hT : textS d s = .ok (s ++ List.replicate (1 - s.length) (if d.letter == 65 then 32 else 0)) := by
          unfold textS
          rw [if_neg (by rw [e72]; decide), if_neg hk1, hc2]
          simp only
          rw [if_neg (by rw [Bool.and_eq_true, decide_eq_true_eq]; omega), List.take_of_length_le (by omega)]
        rw [hT]
        obtain ⟨c0, hc0⟩ : ∃ c0 : UInt8, (if d.letter == 65 then 32 else 0) = c0 := ⟨_, rfl⟩
        rw [hc0]
        (first | refine wX ?_ | exact wZ)
        refine LoopN.intro (Nat × Nat × Nat) (fun ⟨j, _, cap⟩ => s.length + j ≤ 1 ∧ s.length + j ≤ cap)
          (fun ⟨j, b, cap⟩ => mkS Tryz.f70.ntmps 0 [(2, .c (.lp 1 0)), (6, .c (.v (.int .i64 (1)))), (7, .c (.v (.slice (some ⟨b, 0, none⟩) (s.length + j) cap)))])
          (fun ⟨j, b, cap⟩ => [.fact fun _ => True, .blk 66 [.v (.int .u8 (d.letter.toNat : Int)), .v (.bool d.big), .v (.int .i64 d.count)], .app 5 1 (u8s (s ++ List.replicate j c0)) (some ⟨b, 0, none⟩) (s.length + j) cap]) (fun ⟨j, _, _⟩ => 1 - (s.length + j)) [] rfl
          (fun _ => rfl) (fun _ => rfl) (fun _ _ => okHB_eq rfl) ⟨(0, lb, lc), ⟨by omega, h5⟩, ?_, ?_⟩ ?_
        · (repeat' (first | exact trivial | refine And.intro (by with_reducible rfl) ?_ | (with_reducible exact wkC_refl _) | (with_reducible exact wkCs_refl _) | refine And.intro ?_ ?_))
          all_goals first | rfl | exact av_int (by omega)
        · refine ⟨wkE_refl _, wkE_refl _, .inl ⟨rfl, rfl, by simp [u8s], rfl, rfl, rfl⟩, wkH_nil _⟩
        rintro ⟨j, b, cap⟩ ⟨hj, hjc⟩
        (first | refine wX ?_ | exact wZ)
        refine brd_dec (fun h1 => ?_) (fun h1 => ?_)
        · have hg : ∀ (b' cap' : Nat) (v : Int) (hv : v = (c0.toNat : Int)), wkE (.app 5 1 (u8s (s ++ List.replicate j c0) ++ [.int .u8 v]) (some ⟨b', 0, none⟩) (s.length + j + 1) cap') (.app 5 1 (u8s (s ++ List.replicate (j + 1) c0)) (some ⟨b', 0, none⟩) (s.length + (j + 1)) cap') := fun b' cap' v hv => .inl ⟨rfl, rfl, by rw [hv, List.replicate_succ', ← List.append_assoc]; simp [u8s], rfl, rfl, rfl⟩
          (first | refine wX ?_ | exact wZ)
          rw [h65]
          cases e65 : d.letter == 65 with
          | true =>
            rw [e65] at hc0
            (first | refine wX ?_ | exact wZ)
            try refine Nd.mk ⟨Nat.le_refl 1, rfl, rfl⟩ ?_
            (conv => whnf)
            refine AppN.grow 2 (u8s (s ++ List.replicate j c0)) [_] rfl rfl ⟨Nat.le_refl 1, ⟨by show (s.length + j + 1) * 1 ≤ _; omega, by omega⟩, by show 1 ≠ 0; omega⟩ fun b' cap2 h2 h3 => ?_
            (first | refine wX ?_ | exact wZ)
            refine ⟨(j + 1, b', cap2), ⟨by omega, h2⟩, by show 1 - (s.length + (j + 1)) < 1 - (s.length + j); omega, ?_, ?_⟩
            · (repeat' (first | exact trivial | refine And.intro (by with_reducible rfl) ?_ | (with_reducible exact wkC_refl _) | (with_reducible exact wkCs_refl _) | refine And.intro ?_ ?_))
              all_goals first | rfl | exact av_int (by omega)
            · exact ⟨wkE_refl _, wkE_refl _, hg _ _ _ (by rw [← hc0]; rfl), wkH_nil _⟩
          | false =>
            rw [e65] at hc0
            (first | refine wX ?_ | exact wZ)
            try refine Nd.mk ⟨Nat.le_refl 1, rfl, rfl⟩ ?_
            (conv => whnf)
            refine AppN.grow 2 (u8s (s ++ List.replicate j c0)) [_] rfl rfl ⟨Nat.le_refl 1, ⟨by show (s.length + j + 1) * 1 ≤ _; omega, by omega⟩, by show 1 ≠ 0; omega⟩ fun b' cap2 h2 h3 => ?_
            (first | refine wX ?_ | exact wZ)
            refine ⟨(j + 1, b', cap2), ⟨by omega, h2⟩, by show 1 - (s.length + (j + 1)) < 1 - (s.length + j); omega, ?_, ?_⟩
            · (repeat' (first | exact trivial | refine And.intro (by with_reducible rfl) ?_ | (with_reducible exact wkC_refl _) | (with_reducible exact wkCs_refl _) | refine And.intro ?_ ?_))
              all_goals first | rfl | exact av_int (by omega)
            · exact ⟨wkE_refl _, wkE_refl _, hg _ _ _ (by rw [← hc0]; rfl), wkH_nil _⟩
        · have hj2 : j = 1 - s.length := by omega
          subst hj2
          (first | refine wX ?_ | exact wZ)
          exact fin_p (SlAt (some ⟨b, 0, none⟩) ((s.length + (1 - s.length)) * 1) (u8s (s ++ List.replicate (1 - s.length) c0))) ⟨_, rfl, bytesR_cells (by simp) rfl⟩ (fun w hw => hw.2.1)
  · by_cases hk1 : d.count = -1
    · have hc2 : ∀ n, cntS d n = n := fun n => by unfold cntS; rw [if_neg hk, if_pos hk1]
      (first | refine wX ?_ | exact wZ)
      rw [h72]
      cases e72 : d.letter == 72 with
      | true =>
        have hT : textS d s = hexS s.length s := by unfold textS; rw [if_pos e72, hc2]
        rw [hT]
        (first | refine wX ?_ | exact wZ)
        refine SpecF.call (hexed_r s d.count s.length (.inl ⟨hk1, rfl⟩) (by omega) (by omega)) (fun w _ => trivial) fun v G hR => ?_
        cases hx : hexS (s.length) s with
        | error e =>
          rw [hx] at hR
          obtain rfl := hR
          (first | refine wX ?_ | exact wZ)
          exact fin_v rfl
        | ok l =>
          rw [hx] at hR
          obtain ⟨x, rfl, ob, cap, rfl, hob, hG⟩ := hR
          (first | refine wX ?_ | exact wZ)
          exact fin_p G ⟨_, rfl, ob, cap, rfl, hob, hG⟩ (fun w hw => hw.2.1)
      | false =>
        (first | refine wX ?_ | exact wZ)
        refine EffW.bytesOf (e := 5) s rfl Tryz.underlying9 (by kernel_rfl) (by kernel_rfl) rfl (by omega) fun lb lc h5 h6 => ?_
        (first | refine wX ?_ | exact wZ)
        refine brd_eq (fun _ => ?_) (fun h => absurd hk1 h)
        (first | refine wX ?_ | exact wZ)
        rw [h90]
        cases e90 : d.letter == 90 with
        | true =>
          have hT : textS d s = .ok (s ++ [0]) := by unfold textS; rw [if_neg (by rw [e72]; decide), if_pos hk1, if_pos e90]
          rw [hT]
          (first | refine wX ?_ | exact wZ)
          try refine Nd.mk ⟨Nat.le_refl 1, rfl, rfl⟩ ?_
          (conv => whnf)
          refine AppN.grow 2 (u8s s) [_] rfl rfl ⟨Nat.le_refl 1, ⟨by show (s.length + 1) * 1 ≤ _; omega, by omega⟩, by show 1 ≠ 0; omega⟩ fun b' cap2 h2 h3 => ?_
          (first | refine wX ?_ | exact wZ)
          exact fin_p (SlAt (some ⟨b', 0, none⟩) ((s.length + 1) * 1) (u8s s ++ [Value.int .u8 0])) ⟨_, rfl, bytesR_cells (by simp) (by simp [u8s])⟩ (fun w hw => hw.2.1)
        | false =>
          have hT : textS d s = .ok s := by unfold textS; rw [if_neg (by rw [e72]; decide), if_pos hk1, if_neg (by rw [e90]; decide)]
          rw [hT]
          (first | refine wX ?_ | exact wZ)
          exact fin_p (SlAt (some ⟨lb, 0, none⟩) (s.length * 1) (u8s s)) ⟨_, rfl, bytesR_cells rfl rfl⟩ (fun w hw => hw.2.1)
    · obtain ⟨T, hT0⟩ : ∃ T : Nat, d.count.toNat = T := ⟨_, rfl⟩
      have hT2 : d.count = (T : Int) ∧ 1 ≤ T ∧ T ≤ 1000 := by
        rcases hc with h | h | ⟨h1, h2, h3⟩
        · exact absurd h.1 hk1
        · exact absurd h hk
        · have := h3 h64
          omega
      have hc2 : ∀ n, cntS d n = T := fun n => by unfold cntS; rw [if_neg hk, if_neg hk1]; exact hT0
      (first | refine wX ?_ | exact wZ)
      rw [h72]
      cases e72 : d.letter == 72 with
      | true =>
        have hT : textS d s = hexS T s := by unfold textS; rw [if_pos e72, hc2]
        rw [hT]
        (first | refine wX ?_ | exact wZ)
        refine SpecF.call (hexed_r s d.count T (.inr hT2.1) (by omega) (by omega)) (fun w _ => trivial) fun v G hR => ?_
        cases hx : hexS (T) s with
        | error e =>
          rw [hx] at hR
          obtain rfl := hR
          (first | refine wX ?_ | exact wZ)
          exact fin_v rfl
        | ok l =>
          rw [hx] at hR
          obtain ⟨x, rfl, ob, cap, rfl, hob, hG⟩ := hR
          (first | refine wX ?_ | exact wZ)
          exact fin_p G ⟨_, rfl, ob, cap, rfl, hob, hG⟩ (fun w hw => hw.2.1)
      | false =>
        -- the count T; it as it is spelled: d.count
        (first | refine wX ?_ | exact wZ)
        refine EffW.bytesOf (e := 5) s rfl Tryz.underlying9 (by kernel_rfl) (by kernel_rfl) rfl (by omega) fun lb lc h5 h6 => ?_
        (first | refine wX ?_ | exact wZ)
        refine brd_eq (fun h => absurd h hk1) (fun _ => ?_); (first | refine wX ?_ | exact wZ)
        refine brd_dec (fun h1 => ?_) (fun h1 => ?_)
        · skip
          -- the count T; it as it is spelled: d.count; the text is longer
          have hn1 : 1 ≤ T := by omega
          (first | refine wX ?_ | exact wZ)
          refine ReadW.slc_h (ob := some lb) (j := d.count) rfl (by kernel_rfl) rfl rfl ⟨by omega, by omega⟩ ?_
          have hjn : Int.toNat (d.count) = T := by omega
          rw [hjn]
          (first | refine wX ?_ | exact wZ)
          rw [h90]
          cases e90 : d.letter == 90 with
          | true =>
            have hT : textS d s = .ok ((s.take (T)).set (T - 1) 0) := by
              unfold textS
              rw [if_neg (by rw [e72]; decide), if_neg hk1, hc2]
              simp only
              rw [if_pos (by rw [Bool.and_eq_true, decide_eq_true_eq]; exact ⟨e90, by omega⟩), show T - s.length = 0 by omega]
              simp
            rw [hT]
            have hw9 : IntKind.i64.wrap (d.count - 1) = ((T - 1 : Nat) : Int) := by rw [wrap_i64 (by omega)]; omega
            (first | refine wX ?_ | exact wZ)
            try rw [hw9]
            refine Nd.mk ⟨rfl, by omega, by omega⟩ ?_
            (first | refine wX ?_ | exact wZ)
            refine EffW.appTo (i := 2) (q := T - 1) (ys := [_]) (u8s (s.set (T - 1) 0)) 1 rfl (ptr_lit rfl (by show Int.toNat _ * 1 = _; omega)) rfl rfl rfl rfl rfl (by show T - 1 + 1 ≤ s.length * 1; omega) (u8s_put (k := T - 1) 0 (by omega)) rfl ?_
            (first | refine wX ?_ | exact wZ)
            refine LoopN.unroll 1 ?_
            (first | refine wX ?_ | exact wZ)
            first | (refine brd_dec (fun h => absurd h (by omega)) (fun _ => ?_); (first | refine wX ?_ | exact wZ)) | skip
            refine fin_p (SlAt (some ⟨lb, 0, none⟩) T (u8s ((s.take (T)).set (T - 1) 0))) ⟨_, rfl, some lb, lc, by rw [List.length_set, List.length_take, Nat.min_eq_left (by omega)], fun h => (by cases h), fun w hw => (by rw [List.length_set, List.length_take, Nat.min_eq_left (by omega)]; exact hw)⟩ (fun w hw => ?_)
            have h7 := SlAt.cut hw.2.1 (T) (by omega)
            rw [u8s_take, List.take_set] at h7
            exact h7
          | false =>
            have hT : textS d s = .ok (s.take (T)) := by
              unfold textS
              rw [if_neg (by rw [e72]; decide), if_neg hk1, hc2]
              simp only
              rw [if_neg (by rw [Bool.and_eq_true]; intro h; rw [e90] at h; exact absurd h.1 (by decide)), show T - s.length = 0 by omega]
              simp
            rw [hT]
            (first | refine wX ?_ | exact wZ)
            refine LoopN.unroll 1 ?_
            (first | refine wX ?_ | exact wZ)
            first | (refine brd_dec (fun h => absurd h (by omega)) (fun _ => ?_); (first | refine wX ?_ | exact wZ)) | skip
            refine fin_p (SlAt (some ⟨lb, 0, none⟩) T (u8s (s.take (T)))) ⟨_, rfl, some lb, lc, by rw [List.length_take, Nat.min_eq_left (by omega)], fun h => (by cases h), fun w hw => (by rw [List.length_take, Nat.min_eq_left (by omega)]; exact hw)⟩ (fun w hw => ?_)
            have h7 := SlAt.cut hw.2.1 (T) (by omega)
            rw [u8s_take] at h7
            exact h7
        · skip
          -- the count T; it as it is spelled: d.count; the text is not longer
          have hT : textS d s = .ok (s ++ List.replicate (T - s.length) (if d.letter == 65 then 32 else 0)) := by
            unfold textS
            rw [if_neg (by rw [e72]; decide), if_neg hk1, hc2]
            simp only
            rw [if_neg (by rw [Bool.and_eq_true, decide_eq_true_eq]; omega), List.take_of_length_le (by omega)]
          rw [hT]
          obtain ⟨c0, hc0⟩ : ∃ c0 : UInt8, (if d.letter == 65 then 32 else 0) = c0 := ⟨_, rfl⟩
          rw [hc0]
          (first | refine wX ?_ | exact wZ)
          refine LoopN.intro (Nat × Nat × Nat) (fun ⟨j, _, cap⟩ => s.length + j ≤ T ∧ s.length + j ≤ cap)
            (fun ⟨j, b, cap⟩ => mkS Tryz.f70.ntmps 0 [(2, .c (.lp 1 0)), (6, .c (.v (.int .i64 (d.count)))), (7, .c (.v (.slice (some ⟨b, 0, none⟩) (s.length + j) cap)))])
            (fun ⟨j, b, cap⟩ => [.fact fun _ => True, .blk 66 [.v (.int .u8 (d.letter.toNat : Int)), .v (.bool d.big), .v (.int .i64 d.count)], .app 5 1 (u8s (s ++ List.replicate j c0)) (some ⟨b, 0, none⟩) (s.length + j) cap]) (fun ⟨j, _, _⟩ => T - (s.length + j)) [] rfl
            (fun _ => rfl) (fun _ => rfl) (fun _ _ => okHB_eq rfl) ⟨(0, lb, lc), ⟨by omega, h5⟩, ?_, ?_⟩ ?_
          · (repeat' (first | exact trivial | refine And.intro (by with_reducible rfl) ?_ | (with_reducible exact wkC_refl _) | (with_reducible exact wkCs_refl _) | refine And.intro ?_ ?_))
            all_goals first | rfl | exact av_int (by omega)
          · refine ⟨wkE_refl _, wkE_refl _, .inl ⟨rfl, rfl, by simp [u8s], rfl, rfl, rfl⟩, wkH_nil _⟩
          rintro ⟨j, b, cap⟩ ⟨hj, hjc⟩
          (first | refine wX ?_ | exact wZ)
          refine brd_dec (fun h1 => ?_) (fun h1 => ?_)
          · have hg : ∀ (b' cap' : Nat) (v : Int) (hv : v = (c0.toNat : Int)), wkE (.app 5 1 (u8s (s ++ List.replicate j c0) ++ [.int .u8 v]) (some ⟨b', 0, none⟩) (s.length + j + 1) cap') (.app 5 1 (u8s (s ++ List.replicate (j + 1) c0)) (some ⟨b', 0, none⟩) (s.length + (j + 1)) cap') := fun b' cap' v hv => .inl ⟨rfl, rfl, by rw [hv, List.replicate_succ', ← List.append_assoc]; simp [u8s], rfl, rfl, rfl⟩
            (first | refine wX ?_ | exact wZ)
            rw [h65]
            cases e65 : d.letter == 65 with
            | true =>
              rw [e65] at hc0
              (first | refine wX ?_ | exact wZ)
              try refine Nd.mk ⟨Nat.le_refl 1, rfl, rfl⟩ ?_
              (conv => whnf)
              refine AppN.grow 2 (u8s (s ++ List.replicate j c0)) [_] rfl rfl ⟨Nat.le_refl 1, ⟨by show (s.length + j + 1) * 1 ≤ _; omega, by omega⟩, by show 1 ≠ 0; omega⟩ fun b' cap2 h2 h3 => ?_
              (first | refine wX ?_ | exact wZ)
              refine ⟨(j + 1, b', cap2), ⟨by omega, h2⟩, by show T - (s.length + (j + 1)) < T - (s.length + j); omega, ?_, ?_⟩
              · (repeat' (first | exact trivial | refine And.intro (by with_reducible rfl) ?_ | (with_reducible exact wkC_refl _) | (with_reducible exact wkCs_refl _) | refine And.intro ?_ ?_))
                all_goals first | rfl | exact av_int (by omega)
              · exact ⟨wkE_refl _, wkE_refl _, hg _ _ _ (by rw [← hc0]; rfl), wkH_nil _⟩
            | false =>
              rw [e65] at hc0
              (first | refine wX ?_ | exact wZ)
              try refine Nd.mk ⟨Nat.le_refl 1, rfl, rfl⟩ ?_
              (conv => whnf)
              refine AppN.grow 2 (u8s (s ++ List.replicate j c0)) [_] rfl rfl ⟨Nat.le_refl 1, ⟨by show (s.length + j + 1) * 1 ≤ _; omega, by omega⟩, by show 1 ≠ 0; omega⟩ fun b' cap2 h2 h3 => ?_
              (first | refine wX ?_ | exact wZ)
              refine ⟨(j + 1, b', cap2), ⟨by omega, h2⟩, by show T - (s.length + (j + 1)) < T - (s.length + j); omega, ?_, ?_⟩
              · (repeat' (first | exact trivial | refine And.intro (by with_reducible rfl) ?_ | (with_reducible exact wkC_refl _) | (with_reducible exact wkCs_refl _) | refine And.intro ?_ ?_))
                all_goals first | rfl | exact av_int (by omega)
              · exact ⟨wkE_refl _, wkE_refl _, hg _ _ _ (by rw [← hc0]; rfl), wkH_nil _⟩
          · have hj2 : j = T - s.length := by omega
            subst hj2
            (first | refine wX ?_ | exact wZ)
            exact fin_p (SlAt (some ⟨b, 0, none⟩) ((s.length + (T - s.length)) * 1) (u8s (s ++ List.replicate (T - s.length) c0))) ⟨_, rfl, bytesR_cells (by simp) rfl⟩ (fun w hw => hw.2.1)
end Go.Proofs.YtjkchonpnocffaaGreatDoor

/-
  Contract: items are packed (document).
-/
namespace Go.Proofs.YtjkchonpnocffaaGreatDoor
open Go.AX Go.RowKit Go.Pack
set_option maxRecDepth 20000

theorem numS_fit (d : Dir) (n : Int) : numS d n = if fitR d.letter n then .ok (numL d n) else .error 5 := by
  unfold numS fitR numL
  by_cases h1 : (d.letter == 119) = true
  · have hl : d.letter = 119 := by simpa using h1
    rw [if_pos h1, hl, if_neg (show ¬ ((119 : UInt8) == 85) = true by decide), if_pos (show ((119 : UInt8) == 119) = true by decide)]
    by_cases h : n < 0
    · rw [if_pos h, if_neg (by simp; omega)]
    · rw [if_neg h, if_pos (by simp; omega), if_pos (show ((119 : UInt8) == 119) = true by decide)]
  · rw [if_neg h1]
    by_cases h2 : (d.letter == 85) = true
    · rw [if_pos h2, if_pos h2, if_neg h1, if_pos h2]
    · rw [if_neg h2, if_neg h2, if_neg h1, if_neg h1, if_neg h2]
/-- What packed gives: an error, or bytes in memory, how many items. -/
def PackedR (r : Except Int (List UInt8 × Nat)) (v : Value) (G : World → Prop) : Prop := match r with
  | .error e => v = .tuple #[.slice none 0 0, .int .i64 0, .int .i64 e]
  | .ok (l, u) => ∃ ob cap, v = .tuple #[.slice (at0 ob) l.length cap, .int .i64 (u : Int), .int .i64 0] ∧ (ob = none → l = []) ∧ ∀ w, G w → SlAt (at0 ob) l.length (u8s l) w
theorem runS_one {items : List Pack.Item} {d : Dir} {ds : List Dir} {l : List UInt8} {used : Nat} (h : times d (items.length - used) = 1) : runS items (d :: ds) l used = match oneS d items l used with | .error e => .error e | .ok (o, u) => runS items ds o u := by
  rw [runS, h, timesS]
  cases oneS d items l used <;> rfl
theorem fit_w {c : UInt8} {n : Int} (h : fitR c n = true) : c = 119 → 0 ≤ n := fun e => by
  subst e
  have h2 : decide (0 ≤ n) = true := h
  simpa using h2
theorem fit_u {c : UInt8} {n : Int} (h : fitR c n = true) : c = 85 → rune n = true := fun e => by
  subst e
  exact h
set_option maxHeartbeats 4000000 in
theorem packed_r (form : List UInt8) (ia : Option Addr) (items : List Pack.Item) (icap : Nat) (hs : form.length ≤ 100000)
    (hia : items ≠ [] → ia.isSome = true) (hl : items.length ≤ 100000) (hi : ∀ x ∈ items, x.text.length ≤ 140737488351232 ∧ -9223372036854775808 ≤ x.int ∧ x.int < 9223372036854775808) :
    SpecF Tryz.prog 46 [.string (bs form), .slice ia items.length icap] (ItemsF ia items) (PackedR (packS form items)) := by
  refine specF hm Tryz.func46 (by kernel_rfl) rfl rfl ?_
  (first | refine wX ?_ | exact wZ)
  refine SpecF.call (rread_c form hs) (fun w _ => trivial) fun v G hR => ?_
  unfold packS
  cases hf : forms form with
  | none =>
    rw [hf] at hR
    obtain ⟨y, n, cap, rfl⟩ := hR
    (first | refine wX ?_ | exact wZ)
    exact fin_v rfl
  | some ds =>
    rw [hf] at hR
    obtain ⟨db, dcap, rfl, hdb, hG⟩ := hR
    obtain ⟨h50, hok⟩ := forms_ok hf
    (first | refine wX ?_ | exact wZ)
    refine LoopN.intro (Nat × List UInt8 × Option Nat × Nat × Nat) (fun ⟨i, l, ob, cap, used⟩ => i ≤ ds.length ∧ runS items (ds.drop i) l used = runS items ds [] 0 ∧ ((ob = none → l = [] ∧ cap = 0) ∧ l.length ≤ cap) ∧ l.length ≤ 100000 ∧ used ≤ items.length)
      (fun ⟨i, l, ob, cap, used⟩ => mkS Tryz.f46.ntmps 0 [(1, .c (.v (.slice ia items.length icap))), (7, .c (.v (.slice (at0 db) ds.length dcap))), (9, .c (.v (.slice (at0 ob) l.length cap))), (10, .c (.v (.int .i64 (used : Int)))), (11, .c (.v (.int .i64 (i : Int))))])
      (fun ⟨_, l, ob, cap, used⟩ => [.fact (ItemsF ia items), .fact G, outE l ob cap]) (fun ⟨i, _, _, _, _⟩ => ds.length - i) [.app 0 0 [] none 0 0] rfl
      (fun _ => rfl) (fun _ => rfl) (fun _ _ => okHB_eq rfl) ⟨(0, [], none, 0, 0), ⟨Nat.zero_le _, rfl, ⟨fun _ => ⟨rfl, rfl⟩, Nat.le_refl _⟩, Nat.zero_le _, Nat.zero_le _⟩, ?_, ?_⟩ ?_
    · (repeat' (first | exact trivial | refine And.intro (by with_reducible rfl) ?_ | (with_reducible exact wkC_refl _) | (with_reducible exact wkCs_refl _) | refine And.intro ?_ ?_))
      all_goals rfl
    · exact ⟨wkE_refl _, wkE_refl _, wkE_nil, wkH_nil _⟩
    rintro ⟨i, l, ob, cap, used⟩ ⟨hid, hrun, hob, hll, hu⟩
    (first | refine wX ?_ | exact wZ)
    refine brd_dec (fun h1 => ?_) (fun h1 => ?_)
    · obtain ⟨d, hd⟩ : ∃ d, ds[i]? = some d := ⟨_, List.getElem?_eq_getElem (by omega)⟩
      have hdok := hok d (List.mem_of_getElem? hd)
      obtain ⟨db, rfl⟩ : ∃ g, db = some g := by
        cases db with
        | none => rw [hdb rfl] at hd; cases hd
        | some g => exact ⟨g, rfl⟩
      have hc1 : d.count ≤ 1000 := by
        have := hdok.2
        unfold CntOk at this
        omega
      have hdrop : ds.drop i = d :: ds.drop (i + 1) := by
        rw [List.drop_eq_getElem_cons (by omega), (List.getElem?_eq_some_iff.1 hd).2]
      rw [hdrop] at hrun
      have h64 : ((d.letter.toNat : Int) == 64) = (d.letter == 64) := u8_eq (n := 64) (by decide)
      have h120 : ((d.letter.toNat : Int) == 120) = (d.letter == 120) := u8_eq (n := 120) (by decide)
      (first | refine wX ?_ | exact wZ)
      refine Nd.mk ⟨rfl, by omega, by omega⟩ ?_
      (first | refine wX ?_ | exact wZ)
      refine LdN.agg (dirC d) rfl (fun w hw => hG w hw.2.1) rfl (fun j hj => by
        rw [Int.toNat_natCast]
        exact dirsC_get ds i j hj hd) ?_
      (first | refine wX ?_ | exact wZ)
      rw [h120]
      cases e120 : d.letter == 120 with
      | true =>
        obtain ⟨m, hm⟩ : ∃ m : Nat, (max 1 d.count).toNat = m := ⟨_, rfl⟩
        have hmx : maxI 1 d.count = (m : Int) := by unfold maxI; split <;> omega
        have hone : oneS d items l used = if l.length + m > 100000 then .error 5 else .ok (l ++ List.replicate m 0, used) := by
          unfold oneS
          simp only
          rw [if_pos e120, hm, List.length_replicate]
        have hT : times d (items.length - used) = 1 := by unfold times isPl; rw [e120]; simp
        rw [runS_one hT, hone] at hrun
        (first | refine wX ?_ | exact wZ)
        refine EffW.appZeros (kn := .i64) (e := 5) 2 m rfl rfl rfl (by kernel_rfl) (by kernel_rfl) (by kernel_rfl) rfl rfl hmx rfl ⟨by omega, by omega⟩ fun b' cap2 h11 h12 => ?_
        (first | refine wX ?_ | exact wZ)
        refine brd_dec (fun h2 => ?_) (fun h2 => ?_)
        · rw [if_pos (by omega)] at hrun
          (first | refine wX ?_ | exact wZ)
          -- an error comes out
          refine fin_v ?_
          show PackedR (runS items ds [] 0) _ _
          rw [← hrun]
          rfl
        · rw [if_neg (by omega)] at hrun
          (first | refine wX ?_ | exact wZ)
          refine ⟨(i + 1, l ++ List.replicate m 0, some b', cap2, used), ⟨by omega, hrun, ⟨fun h => (by cases h), by rw [List.length_append, List.length_replicate]; exact h11⟩, by rw [List.length_append, List.length_replicate]; omega, hu⟩, by show ds.length - (i + 1) < ds.length - i; omega, ?_, ?_⟩
          · (repeat' (first | exact trivial | refine And.intro (by with_reducible rfl) ?_ | (with_reducible exact wkC_refl _) | (with_reducible exact wkCs_refl _) | refine And.intro ?_ ?_))
            all_goals first | rfl | (rw [List.length_append, List.length_replicate]; rfl) | exact av_int (by first | omega | (rw [wrap_i64 (by omega)]; omega))
          · exact ⟨wkE_refl _, wkE_refl _, .inl ⟨rfl, rfl, by simp [u8s], rfl, by simp, rfl⟩, wkH_nil _⟩
      | false =>
        (first | refine wX ?_ | exact wZ)
        rw [h64]
        cases e64 : d.letter == 64 with
        | true =>
          obtain ⟨m, hm⟩ : ∃ m : Nat, (max 0 d.count).toNat = m := ⟨_, rfl⟩
          have hmx : maxI 0 d.count = (m : Int) := by unfold maxI; split <;> omega
          have hone : oneS d items l used = if (l.take m).length + (m - (l.take m).length) > 100000 then .error 5 else .ok (l.take m ++ List.replicate (m - (l.take m).length) 0, used) := by
            unfold oneS
            simp only
            rw [if_neg (by rw [e120]; decide), if_pos e64, hm, List.length_replicate]
          have hT : times d (items.length - used) = 1 := by unfold times isPl; rw [e64]; simp
          rw [runS_one hT, hone] at hrun
          (first | refine wX ?_ | exact wZ)
          rw [hmx]
          by_cases hml : m ≤ l.length
          · have hz : m - (l.take m).length = 0 := by rw [List.length_take]; omega
            have hlt : (l.take m).length = m := by rw [List.length_take]; omega
            rw [hz, hlt, if_neg (by omega), List.replicate_zero, List.append_nil] at hrun
            have hz0 : maxI 0 (IntKind.i64.wrap ((m : Int) - (l.length : Int))) = 0 := by rw [wrap_i64 (by omega)]; unfold maxI; split <;> omega
            (first | refine wX ?_ | exact wZ)
            refine EffW.appZeros0 (kn := .i64) (e := 5) rfl rfl rfl (by kernel_rfl) (by kernel_rfl) (by kernel_rfl) rfl rfl hz0 hob.2 ?_
            (first | refine wX ?_ | exact wZ)
            refine ReadW.slc_h (ob := ob) (j := (m : Int)) rfl (by kernel_rfl) rfl rfl ⟨by omega, by omega⟩ ?_
            rw [Int.toNat_natCast m]
            (first | refine wX ?_ | exact wZ)
            refine brd_dec (fun h => absurd h (by omega)) (fun _ => ?_)
            (first | refine wX ?_ | exact wZ)
            refine ⟨(i + 1, l.take m, ob, cap, used), ⟨by omega, hrun, ⟨fun h => ⟨by rw [(hob.1 h).1]; exact List.take_nil, (hob.1 h).2⟩, by rw [hlt]; omega⟩, by rw [hlt]; omega, hu⟩, by show ds.length - (i + 1) < ds.length - i; omega, ?_, ?_⟩
            · (repeat' (first | exact trivial | refine And.intro (by with_reducible rfl) ?_ | (with_reducible exact wkC_refl _) | (with_reducible exact wkCs_refl _) | refine And.intro ?_ ?_))
              all_goals first | rfl | (rw [hlt]; done) | exact av_int (by first | omega | (rw [wrap_i64 (by omega)]; omega))
            · exact ⟨wkE_refl _, wkE_refl _, .inr (.inr ⟨rfl, rfl, by rw [hlt, Nat.mul_one]; simp [u8s, List.map_take], rfl, by rw [hlt]; exact hml, rfl⟩), wkH_nil _⟩
          · have hlt : l.take m = l := List.take_of_length_le (by omega)
            obtain ⟨k, hk⟩ : ∃ k, m - l.length = k := ⟨_, rfl⟩
            rw [hlt, hk, if_neg (by omega)] at hrun
            have hz0 : maxI 0 (IntKind.i64.wrap ((m : Int) - (l.length : Int))) = (k : Int) := by rw [wrap_i64 (by omega)]; unfold maxI; split <;> omega
            have hmk : l.length + k = m := by omega
            (first | refine wX ?_ | exact wZ)
            refine EffW.appZeros (kn := .i64) (e := 5) 2 k rfl rfl rfl (by kernel_rfl) (by kernel_rfl) (by kernel_rfl) rfl rfl hz0 rfl ⟨by omega, by omega⟩ fun b' cap2 h11 h12 => ?_
            (first | refine wX ?_ | exact wZ)
            refine ReadW.slc_h (ob := some b') (j := (m : Int)) rfl (by kernel_rfl) rfl rfl ⟨by omega, by omega⟩ ?_
            rw [Int.toNat_natCast m]
            (first | refine wX ?_ | exact wZ)
            refine brd_dec (fun h => absurd h (by omega)) (fun _ => ?_)
            (first | refine wX ?_ | exact wZ)
            refine ⟨(i + 1, l ++ List.replicate k 0, some b', cap2, used), ⟨by omega, hrun, ⟨fun h => (by cases h), by rw [List.length_append, List.length_replicate]; exact h11⟩, by rw [List.length_append, List.length_replicate]; omega, hu⟩, by show ds.length - (i + 1) < ds.length - i; omega, ?_, ?_⟩
            · (repeat' (first | exact trivial | refine And.intro (by with_reducible rfl) ?_ | (with_reducible exact wkC_refl _) | (with_reducible exact wkCs_refl _) | refine And.intro ?_ ?_))
              all_goals first | rfl | (rw [List.length_append, List.length_replicate, hmk]; done) | (rw [List.length_append, List.length_replicate, hmk]; rfl) | exact av_int (by first | omega | (rw [wrap_i64 (by omega)]; omega))
            · exact ⟨wkE_refl _, wkE_refl _, .inl ⟨rfl, rfl, by simp [u8s], rfl, by simp, rfl⟩, wkH_nil _⟩
        | false =>
          have hone : ∀ (l : List UInt8) (used : Nat), oneS d items l used = match items[used]? with
              | none => .error 14
              | some x => if x.isText != isStr d.letter then .error 1
                else match if isStr d.letter then textS d x.text else numS d x.int with
                  | .error e => .error e
                  | .ok r => if l.length + r.length > 100000 then .error 5 else .ok (l ++ r, used + 1) := fun l used => by
            unfold oneS
            simp only
            rw [if_neg (by rw [e120]; decide), if_neg (by rw [e64]; decide)]
            rfl
          (first | refine wX ?_ | exact wZ)
          refine call1 (number_r d.letter _) ?_
          rw [numB_isStr hdok.1 e120 e64]
          cases hst : isStr d.letter with
          | true =>
            have hT : times d (items.length - used) = 1 := by unfold times; rw [hst]; rfl
            rw [runS_one hT, hone l used] at hrun
            (first | refine wX ?_ | exact wZ)
            refine brd_eq (fun h2 => ?_) (fun h2 => ?_)
            · rw [List.getElem?_eq_none (by omega)] at hrun
              (first | refine wX ?_ | exact wZ)
              -- an error comes out
              refine fin_v ?_
              show PackedR (runS items ds [] 0) _ _
              rw [← hrun]
              rfl
            · obtain ⟨x, hx⟩ : ∃ x, items[used]? = some x := ⟨_, List.getElem?_eq_getElem (by omega)⟩
              have hxm := hi x (List.mem_of_getElem? hx)
              rw [hx] at hrun
              simp only [hst, if_true] at hrun
              (first | refine wX ?_ | exact wZ)
              refine Nd.mk ⟨hia (fun h => by rw [h] at hx; cases hx), by omega, by omega⟩ ?_
              (first | refine wX ?_ | exact wZ)
              refine LdN.fld (.bool x.isText) rfl (fun w hw => hw.1) (by rw [Int.toNat_natCast]; exact itemsC_get items used 0 (by decide) hx) ?_
              ((conv => whnf); (repeat ((first | refine VrN.keep ?_ | refine BoxN.own ?_ | refine RwN.own ?_); (conv => whnf))))
              cases hk : x.isText with
              | false =>
                rw [hk, if_pos (by decide)] at hrun
                (first | refine wX ?_ | exact wZ)
                -- an error comes out
                refine fin_v ?_
                show PackedR (runS items ds [] 0) _ _
                rw [← hrun]
                rfl
              | true =>
                rw [hk, if_neg (by decide)] at hrun
                ((conv => whnf); (repeat ((first | refine VrN.keep ?_ | refine BoxN.own ?_ | refine RwN.own ?_); (conv => whnf))))
                refine DrawN.plan [1, 2] [(0, 1), (3, 1), (4, 1), (5, 1), (6, 0), (7, 1), (8, 1), (9, 1), (10, 1), (11, 1)] [] (by decide +kernel) ?_
                (first | refine wX ?_ | exact wZ)
                refine Nd.mk ⟨hia (fun h => by rw [h] at hx; cases hx), by omega, by omega⟩ ?_
                (first | refine wX ?_ | exact wZ)
                refine LdN.fld (.string (bs x.text)) rfl (fun w hw => hw.1) (by rw [Int.toNat_natCast]; exact itemsC_get items used 2 (by decide) hx) ?_
                (first | refine wX ?_ | exact wZ)
                refine SpecF.call (text_r d x.text hdok.2 (by simpa using e64) hxm.1) (fun w _ => trivial) fun v G2 hR2 => ?_
                cases hw : textS d x.text with
                | error e =>
                  obtain rfl := textS_err hw
                  rw [hw] at hR2 hrun
                  obtain rfl := hR2
                  (first | refine wX ?_ | exact wZ)
                  -- an error comes out
                  refine fin_v ?_
                  show PackedR (runS items ds [] 0) _ _
                  rw [← hrun]
                  rfl
                | ok r =>
                  rw [hw] at hR2 hrun
                  obtain ⟨y, rfl, rb, rc, rfl, hrb, hG2⟩ := hR2
                  simp only at hrun
                  cases r with
                  | nil =>
                    rw [List.length_nil, if_neg (by omega), List.append_nil] at hrun
                    (first | refine wX ?_ | exact wZ)
                    refine brd_dec (fun h => absurd h (by omega)) (fun _ => ?_)
                    (first | refine wX ?_ | exact wZ)
                    refine ⟨(i + 1, l, ob, cap, used + 1), ⟨by omega, hrun, hob, hll, by omega⟩, by show ds.length - (i + 1) < ds.length - i; omega, ?_, ?_⟩
                    · (repeat' (first | exact trivial | refine And.intro (by with_reducible rfl) ?_ | (with_reducible exact wkC_refl _) | (with_reducible exact wkCs_refl _) | refine And.intro ?_ ?_))
                      all_goals first | rfl | exact av_int (by first | omega | (rw [wrap_i64 (by omega)]; omega))
                    · exact ⟨wkE_refl _, wkE_refl _, wkE_refl _, wkH_nil _⟩
                  | cons r0 r1 =>
                    obtain ⟨rb, rfl⟩ : ∃ g, rb = some g := by
                      cases rb with
                      | none => exact absurd (hrb rfl) (by simp)
                      | some g => exact ⟨g, rfl⟩
                    have hrl : (r0 :: r1).length ≤ 140737488355328 := textS_size hxm.1 hc1 hw
                    have hlc : (r0 :: r1).length = r1.length + 1 := rfl
                    have hrl2 : r1.length ≤ 140737488355328 := by omega
                    rw [List.length_cons] at hrun
                    (first | refine wX ?_ | exact wZ)
                    -- bytes r0 :: r1 are appended to l; hw.2.2.2.1: their fact
                    refine Nd.mk rfl ?_
                    (conv => whnf)
                    refine ApN.intro (u8s (r0 :: r1)) (by show _ = (r1.length + 1) * 1; rw [u8s_len]; simp) (fun u hu => by obtain ⟨c, _, rfl⟩ := List.mem_map.1 hu; rfl) (fun w hw j v hv => (hG2 w hw.2.2.2.1).cell hv) ?_
                    (conv => whnf)
                    refine AppN.big 2 (u8s l) (u8s (r0 :: r1)) rfl (plains_vs _) ⟨by omega, rfl, by show (l).length + (r1.length + 1) ≤ _; omega⟩ fun b' cap2 h11 h12 => ?_
                    (first | refine wX ?_ | exact wZ)
                    refine brd_dec (fun h4 => ?_) (fun h4 => ?_)
                    · rw [if_pos (by omega)] at hrun
                      (first | refine wX ?_ | exact wZ)
                      -- an error comes out
                      refine fin_v ?_
                      show PackedR (runS items ds [] 0) _ _
                      rw [← hrun]
                      rfl
                    · rw [if_neg (by omega)] at hrun
                      (first | refine wX ?_ | exact wZ)
                      refine ⟨(i + 1, l ++ r0 :: r1, some b', cap2, used + 1), ⟨by omega, hrun, ⟨fun h => (by cases h), by rw [List.length_append]; exact h11⟩, by rw [List.length_append, List.length_cons]; omega, by omega⟩, by show ds.length - (i + 1) < ds.length - i; omega, ?_, ?_⟩
                      · (repeat' (first | exact trivial | refine And.intro (by with_reducible rfl) ?_ | (with_reducible exact wkC_refl _) | (with_reducible exact wkCs_refl _) | refine And.intro ?_ ?_))
                        all_goals first | rfl | (rw [List.length_append]; rfl) | exact av_int (by first | omega | (rw [wrap_i64 (by omega)]; omega))
                      · exact ⟨wkE_refl _, wkE_refl _, .inl ⟨rfl, rfl, by simp [u8s], rfl, by simp, rfl⟩, wkH_nil _⟩
          | false =>
            have hpl : isPl d.letter = false := by unfold isPl; rw [e120, e64]; rfl
            have hz := letter_num hdok.1 hst hpl
            have hT0 : times d (items.length - used) = cntS d (items.length - used) := by unfold times; rw [hst, hpl]; rfl
            simp only [hst, Bool.false_eq_true, if_false] at hone
            (first | refine wX ?_ | exact wZ)
            refine brd_eq (fun hk2 => ?_) (fun hk2 => ?_)
            · have hT : times d (items.length - used) = 1 := by rw [hT0]; unfold cntS; rw [if_pos hk2]
              -- the numbers of a directive; 1: how many
              rw [runS, hT] at hrun
              (first | refine wX ?_ | exact wZ)
              refine LoopN.intro (Nat × List UInt8 × Option Nat × Nat × Nat) (fun ⟨r, l', ob', cap', used'⟩ => r ≤ 1 ∧ timesS d items r l' used' = timesS d items (1) l used ∧ ((ob' = none → l' = [] ∧ cap' = 0) ∧ l'.length ≤ cap') ∧ l'.length ≤ 100000 ∧ used' ≤ items.length)
                (fun ⟨r, l', ob', cap', used'⟩ => mkS Tryz.f46.ntmps 0 [(1, .c (.v (.slice ia items.length icap))), (7, .c (.v (.slice (some ⟨db, 0, none⟩) ds.length dcap))), (9, .c (.v (.slice (at0 ob') l'.length cap'))), (10, .c (.v (.int .i64 (used' : Int)))), (11, .c (.v (.int .i64 (i : Int)))), (12, .c (.lp 3 0)), (14, .c (.v (.int .i64 (r : Int))))])
                (fun ⟨_, l', ob', cap', _⟩ => [.fact (ItemsF ia items), .fact G, outE l' ob' cap', .blk 66 [.v (.int .u8 (d.letter.toNat : Int)), .v (.bool d.big), .v (.int .i64 d.count)]]) (fun ⟨r, _, _, _, _⟩ => r) [] rfl
                (fun _ => rfl) (fun _ => rfl) (fun _ _ => okHB_eq rfl) ⟨(1, l, ob, cap, used), ⟨Nat.le_refl _, rfl, hob, hll, hu⟩, ?_, ?_⟩ ?_
              · (repeat' (first | exact trivial | refine And.intro (by with_reducible rfl) ?_ | (with_reducible exact wkC_refl _) | (with_reducible exact wkCs_refl _) | refine And.intro ?_ ?_))
                all_goals first | rfl | exact av_int (by omega) | exact av_int (by rw [wrap_i64 (by omega)]; omega)
              · exact ⟨wkE_refl _, wkE_refl _, wkE_refl _, wkE_refl _, wkH_nil _⟩
              rintro ⟨r, l', ob', cap', used'⟩ ⟨hr, hts, hob', hll', hu'⟩
              (first | refine wX ?_ | exact wZ)
              refine brd_dec (fun h2 => ?_) (fun h2 => ?_)
              · obtain ⟨r, rfl⟩ : ∃ r2, r = r2 + 1 := ⟨r - 1, by omega⟩
                rw [timesS_succ, hone l' used'] at hts
                (first | refine wX ?_ | exact wZ)
                refine brd_eq (fun h3 => ?_) (fun h3 => ?_)
                · rw [List.getElem?_eq_none (by omega)] at hts
                  rw [← hts] at hrun
                  (first | refine wX ?_ | exact wZ)
                  -- an error comes out
                  refine fin_v ?_
                  show PackedR (runS items ds [] 0) _ _
                  rw [← hrun]
                  rfl
                · obtain ⟨x, hx⟩ : ∃ x, items[used']? = some x := ⟨_, List.getElem?_eq_getElem (by omega)⟩
                  have hxm := hi x (List.mem_of_getElem? hx)
                  rw [hx] at hts
                  simp only at hts
                  (first | refine wX ?_ | exact wZ)
                  refine Nd.mk ⟨hia (fun h => by rw [h] at hx; cases hx), by omega, by omega⟩ ?_
                  (first | refine wX ?_ | exact wZ)
                  refine LdN.agg (itemC x) rfl (fun w hw => hw.1) rfl (fun j hj => by
                    rw [Int.toNat_natCast]
                    exact itemsC_get items used' j hj hx) ?_
                  (first | refine wX ?_ | exact wZ)
                  cases hk : x.isText with
                  | true =>
                    rw [hk, if_pos (by decide)] at hts
                    rw [← hts] at hrun
                    (first | refine wX ?_ | exact wZ)
                    -- an error comes out
                    refine fin_v ?_
                    show PackedR (runS items ds [] 0) _ _
                    rw [← hrun]
                    rfl
                  | false =>
                    rw [hk, if_neg (by decide), numS_fit] at hts
                    (first | refine wX ?_ | exact wZ)
                    refine call1 (fits_r d.letter x.int hz _) ?_
                    cases hft : fitR d.letter x.int with
                    | false =>
                      rw [hft, if_neg (by decide)] at hts
                      rw [← hts] at hrun
                      (first | refine wX ?_ | exact wZ)
                      -- an error comes out
                      refine fin_v ?_
                      show PackedR (runS items ds [] 0) _ _
                      rw [← hrun]
                      rfl
                    | true =>
                      rw [hft, if_pos rfl] at hts
                      simp only at hts
                      (first | refine wX ?_ | exact wZ)
                      refine SpecF.call (bytes_r d x.int hz (fit_w hft) (fit_u hft) hxm.2) (fun w _ => trivial) fun v G2 hR2 => ?_
                      obtain ⟨rb, rc, rfl, hrb, hG2⟩ := hR2
                      have hns : numS d x.int = .ok (numL d x.int) := by rw [numS_fit, hft, if_pos rfl]
                      have hrl := numS_size hns
                      cases hL : numL d x.int with
                      | nil =>
                        rw [hL] at hts
                        rw [List.length_nil, if_neg (by omega), List.append_nil] at hts
                        (first | refine wX ?_ | exact wZ)
                        refine brd_dec (fun h => absurd h (by omega)) (fun _ => ?_)
                        (first | refine wX ?_ | exact wZ)
                        refine ⟨(r, l', ob', cap', used' + 1), ⟨by omega, hts, hob', hll', by omega⟩, by show r < r + 1; omega, ?_, ?_⟩
                        · (repeat' (first | exact trivial | refine And.intro (by with_reducible rfl) ?_ | (with_reducible exact wkC_refl _) | (with_reducible exact wkCs_refl _) | refine And.intro ?_ ?_))
                          all_goals first | rfl | exact av_int (by first | omega | (rw [wrap_i64 (by omega)]; omega))
                        · exact ⟨wkE_refl _, wkE_refl _, wkE_refl _, wkE_refl _, wkH_nil _⟩
                      | cons r0 r1 =>
                        rw [hL] at hts hrl hrb hG2
                        obtain ⟨rb, rfl⟩ : ∃ g, rb = some g := by
                          cases rb with
                          | none => exact absurd (hrb rfl) (by simp)
                          | some g => exact ⟨g, rfl⟩
                        have hlc : (r0 :: r1).length = r1.length + 1 := rfl
                        have hrl2 : r1.length ≤ 140737488355328 := by omega
                        rw [List.length_cons] at hts
                        (first | refine wX ?_ | exact wZ)
                        -- bytes r0 :: r1 are appended to l; hw.2.2.2.1: their fact
                        refine Nd.mk rfl ?_
                        (conv => whnf)
                        refine ApN.intro (u8s (r0 :: r1)) (by show _ = (r1.length + 1) * 1; rw [u8s_len]; simp) (fun u hu => by obtain ⟨c, _, rfl⟩ := List.mem_map.1 hu; rfl) (fun w hw j v hv => (hG2 w hw.2.2.2.1).cell hv) ?_
                        (conv => whnf)
                        refine AppN.big 2 (u8s l') (u8s (r0 :: r1)) rfl (plains_vs _) ⟨by omega, rfl, by show (l').length + (r1.length + 1) ≤ _; omega⟩ fun b' cap2 h11 h12 => ?_
                        (first | refine wX ?_ | exact wZ)
                        refine brd_dec (fun h4 => ?_) (fun h4 => ?_)
                        · rw [if_pos (by omega)] at hts
                          rw [← hts] at hrun
                          (first | refine wX ?_ | exact wZ)
                          -- an error comes out
                          refine fin_v ?_
                          show PackedR (runS items ds [] 0) _ _
                          rw [← hrun]
                          rfl
                        · rw [if_neg (by omega)] at hts
                          (first | refine wX ?_ | exact wZ)
                          refine ⟨(r, l' ++ r0 :: r1, some b', cap2, used' + 1), ⟨by omega, hts, ⟨fun h => (by cases h), by rw [List.length_append]; exact h11⟩, by rw [List.length_append, List.length_cons]; omega, by omega⟩, by show r < r + 1; omega, ?_, ?_⟩
                          · (repeat' (first | exact trivial | refine And.intro (by with_reducible rfl) ?_ | (with_reducible exact wkC_refl _) | (with_reducible exact wkCs_refl _) | refine And.intro ?_ ?_))
                            all_goals first | rfl | (rw [List.length_append]; rfl) | exact av_int (by first | omega | (rw [wrap_i64 (by omega)]; omega))
                          · exact ⟨wkE_refl _, wkE_refl _, .inl ⟨rfl, rfl, by simp [u8s], rfl, by simp, rfl⟩, wkE_refl _, wkH_nil _⟩
              · have hr0 : r = 0 := by omega
                subst hr0
                have hts2 : timesS d items (1) l used = .ok (l', used') := hts.symm
                rw [hts2] at hrun
                (first | refine wX ?_ | exact wZ)
                refine brd_dec (fun h => absurd h (by omega)) (fun _ => ?_)
                (first | refine wX ?_ | exact wZ)
                refine ⟨(i + 1, l', ob', cap', used'), ⟨by omega, hrun, hob', hll', hu'⟩, by show ds.length - (i + 1) < ds.length - i; omega, ?_, ?_⟩
                · (repeat' (first | exact trivial | refine And.intro (by with_reducible rfl) ?_ | (with_reducible exact wkC_refl _) | (with_reducible exact wkCs_refl _) | refine And.intro ?_ ?_))
                  all_goals first | rfl | exact av_int (by omega) | exact av_int (by rw [wrap_i64 (by omega)]; omega)
                · exact ⟨wkE_refl _, wkE_refl _, wkE_refl _, wkH_nil _⟩
            · (first | refine wX ?_ | exact wZ)
              refine brd_eq (fun hk1 => ?_) (fun hk1 => ?_)
              · have hT : times d (items.length - used) = items.length - used := by rw [hT0]; unfold cntS; rw [if_neg hk2, if_pos hk1]
                -- the numbers of a directive; (items.length - used): how many
                rw [runS, hT] at hrun
                (first | refine wX ?_ | exact wZ)
                refine LoopN.intro (Nat × List UInt8 × Option Nat × Nat × Nat) (fun ⟨r, l', ob', cap', used'⟩ => r ≤ (items.length - used) ∧ timesS d items r l' used' = timesS d items ((items.length - used)) l used ∧ ((ob' = none → l' = [] ∧ cap' = 0) ∧ l'.length ≤ cap') ∧ l'.length ≤ 100000 ∧ used' ≤ items.length)
                  (fun ⟨r, l', ob', cap', used'⟩ => mkS Tryz.f46.ntmps 0 [(1, .c (.v (.slice ia items.length icap))), (7, .c (.v (.slice (some ⟨db, 0, none⟩) ds.length dcap))), (9, .c (.v (.slice (at0 ob') l'.length cap'))), (10, .c (.v (.int .i64 (used' : Int)))), (11, .c (.v (.int .i64 (i : Int)))), (12, .c (.lp 3 0)), (14, .c (.v (.int .i64 (r : Int))))])
                  (fun ⟨_, l', ob', cap', _⟩ => [.fact (ItemsF ia items), .fact G, outE l' ob' cap', .blk 66 [.v (.int .u8 (d.letter.toNat : Int)), .v (.bool d.big), .v (.int .i64 d.count)]]) (fun ⟨r, _, _, _, _⟩ => r) [] rfl
                  (fun _ => rfl) (fun _ => rfl) (fun _ _ => okHB_eq rfl) ⟨((items.length - used), l, ob, cap, used), ⟨Nat.le_refl _, rfl, hob, hll, hu⟩, ?_, ?_⟩ ?_
                · (repeat' (first | exact trivial | refine And.intro (by with_reducible rfl) ?_ | (with_reducible exact wkC_refl _) | (with_reducible exact wkCs_refl _) | refine And.intro ?_ ?_))
                  all_goals first | rfl | exact av_int (by omega) | exact av_int (by rw [wrap_i64 (by omega)]; omega)
                · exact ⟨wkE_refl _, wkE_refl _, wkE_refl _, wkE_refl _, wkH_nil _⟩
                rintro ⟨r, l', ob', cap', used'⟩ ⟨hr, hts, hob', hll', hu'⟩
                (first | refine wX ?_ | exact wZ)
                refine brd_dec (fun h2 => ?_) (fun h2 => ?_)
                · obtain ⟨r, rfl⟩ : ∃ r2, r = r2 + 1 := ⟨r - 1, by omega⟩
                  rw [timesS_succ, hone l' used'] at hts
                  (first | refine wX ?_ | exact wZ)
                  refine brd_eq (fun h3 => ?_) (fun h3 => ?_)
                  · rw [List.getElem?_eq_none (by omega)] at hts
                    rw [← hts] at hrun
                    (first | refine wX ?_ | exact wZ)
                    -- an error comes out
                    refine fin_v ?_
                    show PackedR (runS items ds [] 0) _ _
                    rw [← hrun]
                    rfl
                  · obtain ⟨x, hx⟩ : ∃ x, items[used']? = some x := ⟨_, List.getElem?_eq_getElem (by omega)⟩
                    have hxm := hi x (List.mem_of_getElem? hx)
                    rw [hx] at hts
                    simp only at hts
                    (first | refine wX ?_ | exact wZ)
                    refine Nd.mk ⟨hia (fun h => by rw [h] at hx; cases hx), by omega, by omega⟩ ?_
                    (first | refine wX ?_ | exact wZ)
                    refine LdN.agg (itemC x) rfl (fun w hw => hw.1) rfl (fun j hj => by
                      rw [Int.toNat_natCast]
                      exact itemsC_get items used' j hj hx) ?_
                    (first | refine wX ?_ | exact wZ)
                    cases hk : x.isText with
                    | true =>
                      rw [hk, if_pos (by decide)] at hts
                      rw [← hts] at hrun
                      (first | refine wX ?_ | exact wZ)
                      -- an error comes out
                      refine fin_v ?_
                      show PackedR (runS items ds [] 0) _ _
                      rw [← hrun]
                      rfl
                    | false =>
                      rw [hk, if_neg (by decide), numS_fit] at hts
                      (first | refine wX ?_ | exact wZ)
                      refine call1 (fits_r d.letter x.int hz _) ?_
                      cases hft : fitR d.letter x.int with
                      | false =>
                        rw [hft, if_neg (by decide)] at hts
                        rw [← hts] at hrun
                        (first | refine wX ?_ | exact wZ)
                        -- an error comes out
                        refine fin_v ?_
                        show PackedR (runS items ds [] 0) _ _
                        rw [← hrun]
                        rfl
                      | true =>
                        rw [hft, if_pos rfl] at hts
                        simp only at hts
                        (first | refine wX ?_ | exact wZ)
                        refine SpecF.call (bytes_r d x.int hz (fit_w hft) (fit_u hft) hxm.2) (fun w _ => trivial) fun v G2 hR2 => ?_
                        obtain ⟨rb, rc, rfl, hrb, hG2⟩ := hR2
                        have hns : numS d x.int = .ok (numL d x.int) := by rw [numS_fit, hft, if_pos rfl]
                        have hrl := numS_size hns
                        cases hL : numL d x.int with
                        | nil =>
                          rw [hL] at hts
                          rw [List.length_nil, if_neg (by omega), List.append_nil] at hts
                          (first | refine wX ?_ | exact wZ)
                          refine brd_dec (fun h => absurd h (by omega)) (fun _ => ?_)
                          (first | refine wX ?_ | exact wZ)
                          refine ⟨(r, l', ob', cap', used' + 1), ⟨by omega, hts, hob', hll', by omega⟩, by show r < r + 1; omega, ?_, ?_⟩
                          · (repeat' (first | exact trivial | refine And.intro (by with_reducible rfl) ?_ | (with_reducible exact wkC_refl _) | (with_reducible exact wkCs_refl _) | refine And.intro ?_ ?_))
                            all_goals first | rfl | exact av_int (by first | omega | (rw [wrap_i64 (by omega)]; omega))
                          · exact ⟨wkE_refl _, wkE_refl _, wkE_refl _, wkE_refl _, wkH_nil _⟩
                        | cons r0 r1 =>
                          rw [hL] at hts hrl hrb hG2
                          obtain ⟨rb, rfl⟩ : ∃ g, rb = some g := by
                            cases rb with
                            | none => exact absurd (hrb rfl) (by simp)
                            | some g => exact ⟨g, rfl⟩
                          have hlc : (r0 :: r1).length = r1.length + 1 := rfl
                          have hrl2 : r1.length ≤ 140737488355328 := by omega
                          rw [List.length_cons] at hts
                          (first | refine wX ?_ | exact wZ)
                          -- bytes r0 :: r1 are appended to l; hw.2.2.2.1: their fact
                          refine Nd.mk rfl ?_
                          (conv => whnf)
                          refine ApN.intro (u8s (r0 :: r1)) (by show _ = (r1.length + 1) * 1; rw [u8s_len]; simp) (fun u hu => by obtain ⟨c, _, rfl⟩ := List.mem_map.1 hu; rfl) (fun w hw j v hv => (hG2 w hw.2.2.2.1).cell hv) ?_
                          (conv => whnf)
                          refine AppN.big 2 (u8s l') (u8s (r0 :: r1)) rfl (plains_vs _) ⟨by omega, rfl, by show (l').length + (r1.length + 1) ≤ _; omega⟩ fun b' cap2 h11 h12 => ?_
                          (first | refine wX ?_ | exact wZ)
                          refine brd_dec (fun h4 => ?_) (fun h4 => ?_)
                          · rw [if_pos (by omega)] at hts
                            rw [← hts] at hrun
                            (first | refine wX ?_ | exact wZ)
                            -- an error comes out
                            refine fin_v ?_
                            show PackedR (runS items ds [] 0) _ _
                            rw [← hrun]
                            rfl
                          · rw [if_neg (by omega)] at hts
                            (first | refine wX ?_ | exact wZ)
                            refine ⟨(r, l' ++ r0 :: r1, some b', cap2, used' + 1), ⟨by omega, hts, ⟨fun h => (by cases h), by rw [List.length_append]; exact h11⟩, by rw [List.length_append, List.length_cons]; omega, by omega⟩, by show r < r + 1; omega, ?_, ?_⟩
                            · (repeat' (first | exact trivial | refine And.intro (by with_reducible rfl) ?_ | (with_reducible exact wkC_refl _) | (with_reducible exact wkCs_refl _) | refine And.intro ?_ ?_))
                              all_goals first | rfl | (rw [List.length_append]; rfl) | exact av_int (by first | omega | (rw [wrap_i64 (by omega)]; omega))
                            · exact ⟨wkE_refl _, wkE_refl _, .inl ⟨rfl, rfl, by simp [u8s], rfl, by simp, rfl⟩, wkE_refl _, wkH_nil _⟩
                · have hr0 : r = 0 := by omega
                  subst hr0
                  have hts2 : timesS d items ((items.length - used)) l used = .ok (l', used') := hts.symm
                  rw [hts2] at hrun
                  (first | refine wX ?_ | exact wZ)
                  refine brd_dec (fun h => absurd h (by omega)) (fun _ => ?_)
                  (first | refine wX ?_ | exact wZ)
                  refine ⟨(i + 1, l', ob', cap', used'), ⟨by omega, hrun, hob', hll', hu'⟩, by show ds.length - (i + 1) < ds.length - i; omega, ?_, ?_⟩
                  · (repeat' (first | exact trivial | refine And.intro (by with_reducible rfl) ?_ | (with_reducible exact wkC_refl _) | (with_reducible exact wkCs_refl _) | refine And.intro ?_ ?_))
                    all_goals first | rfl | exact av_int (by omega) | exact av_int (by rw [wrap_i64 (by omega)]; omega)
                  · exact ⟨wkE_refl _, wkE_refl _, wkE_refl _, wkH_nil _⟩
              · obtain ⟨T, hTe⟩ : ∃ T : Nat, d.count.toNat = T := ⟨_, rfl⟩
                have hT2 : d.count = (T : Int) ∧ T ≤ 1000 := by
                  have := hdok.2
                  unfold CntOk at this
                  omega
                have hT : times d (items.length - used) = T := by rw [hT0]; unfold cntS; rw [if_neg hk2, if_neg hk1]; exact hTe
                -- the numbers of a directive; T: how many
                rw [runS, hT] at hrun
                (first | refine wX ?_ | exact wZ)
                refine LoopN.intro (Nat × List UInt8 × Option Nat × Nat × Nat) (fun ⟨r, l', ob', cap', used'⟩ => r ≤ T ∧ timesS d items r l' used' = timesS d items (T) l used ∧ ((ob' = none → l' = [] ∧ cap' = 0) ∧ l'.length ≤ cap') ∧ l'.length ≤ 100000 ∧ used' ≤ items.length)
                  (fun ⟨r, l', ob', cap', used'⟩ => mkS Tryz.f46.ntmps 0 [(1, .c (.v (.slice ia items.length icap))), (7, .c (.v (.slice (some ⟨db, 0, none⟩) ds.length dcap))), (9, .c (.v (.slice (at0 ob') l'.length cap'))), (10, .c (.v (.int .i64 (used' : Int)))), (11, .c (.v (.int .i64 (i : Int)))), (12, .c (.lp 3 0)), (14, .c (.v (.int .i64 (r : Int))))])
                  (fun ⟨_, l', ob', cap', _⟩ => [.fact (ItemsF ia items), .fact G, outE l' ob' cap', .blk 66 [.v (.int .u8 (d.letter.toNat : Int)), .v (.bool d.big), .v (.int .i64 d.count)]]) (fun ⟨r, _, _, _, _⟩ => r) [] rfl
                  (fun _ => rfl) (fun _ => rfl) (fun _ _ => okHB_eq rfl) ⟨(T, l, ob, cap, used), ⟨Nat.le_refl _, rfl, hob, hll, hu⟩, ?_, ?_⟩ ?_
                · (repeat' (first | exact trivial | refine And.intro (by with_reducible rfl) ?_ | (with_reducible exact wkC_refl _) | (with_reducible exact wkCs_refl _) | refine And.intro ?_ ?_))
                  all_goals first | rfl | exact av_int (by omega) | exact av_int (by rw [wrap_i64 (by omega)]; omega)
                · exact ⟨wkE_refl _, wkE_refl _, wkE_refl _, wkE_refl _, wkH_nil _⟩
                rintro ⟨r, l', ob', cap', used'⟩ ⟨hr, hts, hob', hll', hu'⟩
                (first | refine wX ?_ | exact wZ)
                refine brd_dec (fun h2 => ?_) (fun h2 => ?_)
                · obtain ⟨r, rfl⟩ : ∃ r2, r = r2 + 1 := ⟨r - 1, by omega⟩
                  rw [timesS_succ, hone l' used'] at hts
                  (first | refine wX ?_ | exact wZ)
                  refine brd_eq (fun h3 => ?_) (fun h3 => ?_)
                  · rw [List.getElem?_eq_none (by omega)] at hts
                    rw [← hts] at hrun
                    (first | refine wX ?_ | exact wZ)
                    -- an error comes out
                    refine fin_v ?_
                    show PackedR (runS items ds [] 0) _ _
                    rw [← hrun]
                    rfl
                  · obtain ⟨x, hx⟩ : ∃ x, items[used']? = some x := ⟨_, List.getElem?_eq_getElem (by omega)⟩
                    have hxm := hi x (List.mem_of_getElem? hx)
                    rw [hx] at hts
                    simp only at hts
                    (first | refine wX ?_ | exact wZ)
                    refine Nd.mk ⟨hia (fun h => by rw [h] at hx; cases hx), by omega, by omega⟩ ?_
                    (first | refine wX ?_ | exact wZ)
                    refine LdN.agg (itemC x) rfl (fun w hw => hw.1) rfl (fun j hj => by
                      rw [Int.toNat_natCast]
                      exact itemsC_get items used' j hj hx) ?_
                    (first | refine wX ?_ | exact wZ)
                    cases hk : x.isText with
                    | true =>
                      rw [hk, if_pos (by decide)] at hts
                      rw [← hts] at hrun
                      (first | refine wX ?_ | exact wZ)
                      -- an error comes out
                      refine fin_v ?_
                      show PackedR (runS items ds [] 0) _ _
                      rw [← hrun]
                      rfl
                    | false =>
                      rw [hk, if_neg (by decide), numS_fit] at hts
                      (first | refine wX ?_ | exact wZ)
                      refine call1 (fits_r d.letter x.int hz _) ?_
                      cases hft : fitR d.letter x.int with
                      | false =>
                        rw [hft, if_neg (by decide)] at hts
                        rw [← hts] at hrun
                        (first | refine wX ?_ | exact wZ)
                        -- an error comes out
                        refine fin_v ?_
                        show PackedR (runS items ds [] 0) _ _
                        rw [← hrun]
                        rfl
                      | true =>
                        rw [hft, if_pos rfl] at hts
                        simp only at hts
                        (first | refine wX ?_ | exact wZ)
                        refine SpecF.call (bytes_r d x.int hz (fit_w hft) (fit_u hft) hxm.2) (fun w _ => trivial) fun v G2 hR2 => ?_
                        obtain ⟨rb, rc, rfl, hrb, hG2⟩ := hR2
                        have hns : numS d x.int = .ok (numL d x.int) := by rw [numS_fit, hft, if_pos rfl]
                        have hrl := numS_size hns
                        cases hL : numL d x.int with
                        | nil =>
                          rw [hL] at hts
                          rw [List.length_nil, if_neg (by omega), List.append_nil] at hts
                          (first | refine wX ?_ | exact wZ)
                          refine brd_dec (fun h => absurd h (by omega)) (fun _ => ?_)
                          (first | refine wX ?_ | exact wZ)
                          refine ⟨(r, l', ob', cap', used' + 1), ⟨by omega, hts, hob', hll', by omega⟩, by show r < r + 1; omega, ?_, ?_⟩
                          · (repeat' (first | exact trivial | refine And.intro (by with_reducible rfl) ?_ | (with_reducible exact wkC_refl _) | (with_reducible exact wkCs_refl _) | refine And.intro ?_ ?_))
                            all_goals first | rfl | exact av_int (by first | omega | (rw [wrap_i64 (by omega)]; omega))
                          · exact ⟨wkE_refl _, wkE_refl _, wkE_refl _, wkE_refl _, wkH_nil _⟩
                        | cons r0 r1 =>
                          rw [hL] at hts hrl hrb hG2
                          obtain ⟨rb, rfl⟩ : ∃ g, rb = some g := by
                            cases rb with
                            | none => exact absurd (hrb rfl) (by simp)
                            | some g => exact ⟨g, rfl⟩
                          have hlc : (r0 :: r1).length = r1.length + 1 := rfl
                          have hrl2 : r1.length ≤ 140737488355328 := by omega
                          rw [List.length_cons] at hts
                          (first | refine wX ?_ | exact wZ)
                          -- bytes r0 :: r1 are appended to l; hw.2.2.2.1: their fact
                          refine Nd.mk rfl ?_
                          (conv => whnf)
                          refine ApN.intro (u8s (r0 :: r1)) (by show _ = (r1.length + 1) * 1; rw [u8s_len]; simp) (fun u hu => by obtain ⟨c, _, rfl⟩ := List.mem_map.1 hu; rfl) (fun w hw j v hv => (hG2 w hw.2.2.2.1).cell hv) ?_
                          (conv => whnf)
                          refine AppN.big 2 (u8s l') (u8s (r0 :: r1)) rfl (plains_vs _) ⟨by omega, rfl, by show (l').length + (r1.length + 1) ≤ _; omega⟩ fun b' cap2 h11 h12 => ?_
                          (first | refine wX ?_ | exact wZ)
                          refine brd_dec (fun h4 => ?_) (fun h4 => ?_)
                          · rw [if_pos (by omega)] at hts
                            rw [← hts] at hrun
                            (first | refine wX ?_ | exact wZ)
                            -- an error comes out
                            refine fin_v ?_
                            show PackedR (runS items ds [] 0) _ _
                            rw [← hrun]
                            rfl
                          · rw [if_neg (by omega)] at hts
                            (first | refine wX ?_ | exact wZ)
                            refine ⟨(r, l' ++ r0 :: r1, some b', cap2, used' + 1), ⟨by omega, hts, ⟨fun h => (by cases h), by rw [List.length_append]; exact h11⟩, by rw [List.length_append, List.length_cons]; omega, by omega⟩, by show r < r + 1; omega, ?_, ?_⟩
                            · (repeat' (first | exact trivial | refine And.intro (by with_reducible rfl) ?_ | (with_reducible exact wkC_refl _) | (with_reducible exact wkCs_refl _) | refine And.intro ?_ ?_))
                              all_goals first | rfl | (rw [List.length_append]; rfl) | exact av_int (by first | omega | (rw [wrap_i64 (by omega)]; omega))
                            · exact ⟨wkE_refl _, wkE_refl _, .inl ⟨rfl, rfl, by simp [u8s], rfl, by simp, rfl⟩, wkE_refl _, wkH_nil _⟩
                · have hr0 : r = 0 := by omega
                  subst hr0
                  have hts2 : timesS d items (T) l used = .ok (l', used') := hts.symm
                  rw [hts2] at hrun
                  (first | refine wX ?_ | exact wZ)
                  refine brd_dec (fun h => absurd h (by omega)) (fun _ => ?_)
                  (first | refine wX ?_ | exact wZ)
                  refine ⟨(i + 1, l', ob', cap', used'), ⟨by omega, hrun, hob', hll', hu'⟩, by show ds.length - (i + 1) < ds.length - i; omega, ?_, ?_⟩
                  · (repeat' (first | exact trivial | refine And.intro (by with_reducible rfl) ?_ | (with_reducible exact wkC_refl _) | (with_reducible exact wkCs_refl _) | refine And.intro ?_ ?_))
                    all_goals first | rfl | exact av_int (by omega) | exact av_int (by rw [wrap_i64 (by omega)]; omega)
                  · exact ⟨wkE_refl _, wkE_refl _, wkE_refl _, wkH_nil _⟩
    · have hi : i = ds.length := by omega
      subst hi
      rw [List.drop_length] at hrun
      (first | refine wX ?_ | exact wZ)
      refine fin_p (SlAt (at0 ob) (l.length * 1) (u8s l)) ?_ (fun w hw => hw.2.2.1)
      show PackedR (runS items ds [] 0) _ _
      rw [← hrun]
      exact ⟨ob, cap, rfl, fun h => (hob.1 h).1, fun w hw => by rw [Nat.mul_one] at hw; exact hw⟩
end Go.Proofs.YtjkchonpnocffaaGreatDoor

/-
  Contracts: Pack, Used, Check (document); items copied (law).
-/
namespace Go.Proofs.YtjkchonpnocffaaGreatDoor
open Go.AX Go.RowKit Go.Pack
set_option maxRecDepth 20000

theorem RPack_r (form : List UInt8) (ia : Option Addr) (items : List Pack.Item) (icap : Nat) (hs : form.length ≤ 100000)
    (hia : items ≠ [] → ia.isSome = true) (hl : items.length ≤ 100000) (hi : ∀ x ∈ items, x.text.length ≤ 140737488351232 ∧ -9223372036854775808 ≤ x.int ∧ x.int < 9223372036854775808) :
    ∀ H, (∀ w, Facts H w → ItemsF ia items w) → SpecH Tryz.prog 23 (pvs [.string (bs form), .slice ia items.length icap]) H (Ret (packV (packS form items)) H) := by
  refine factC hm Tryz.func23 (by kernel_rfl) rfl rfl ?_
  (first | refine wX ?_ | exact wZ)
  refine SpecF.call (packed_r form ia items icap hs hia hl hi) (fun w hw => hw.1) fun v G hR => ?_
  cases hp : packS form items with
  | error e =>
    rw [hp] at hR
    obtain rfl := hR
    (first | refine wX ?_ | exact wZ)
    refine ReadW.bytes [] rfl rfl rfl rfl rfl rfl (fun w hw => ⟨rfl, fun h => absurd h (by decide), fun i hi => absurd hi (Nat.not_lt_zero i)⟩) ?_
    (first | refine wX ?_ | exact wZ)
    rfl
  | ok x =>
    obtain ⟨l, u⟩ := x
    rw [hp] at hR
    obtain ⟨ob, cap, rfl, hob, hG⟩ := hR
    (first | refine wX ?_ | exact wZ)
    refine ReadW.bytes l rfl rfl rfl rfl rfl rfl (fun w hw => hG w hw.2.1) ?_
    (first | refine wX ?_ | exact wZ)
    rfl
theorem RUsed_r (form : List UInt8) (ia : Option Addr) (items : List Pack.Item) (icap : Nat) (hs : form.length ≤ 100000)
    (hia : items ≠ [] → ia.isSome = true) (hl : items.length ≤ 100000) (hi : ∀ x ∈ items, x.text.length ≤ 140737488351232 ∧ -9223372036854775808 ≤ x.int ∧ x.int < 9223372036854775808) :
    ∀ H, (∀ w, Facts H w → ItemsF ia items w) → SpecH Tryz.prog 26 (pvs [.string (bs form), .slice ia items.length icap]) H (Ret (usedV (packS form items)) H) := by
  refine factC hm Tryz.func26 (by kernel_rfl) rfl rfl ?_
  (first | refine wX ?_ | exact wZ)
  refine SpecF.call (packed_r form ia items icap hs hia hl hi) (fun w hw => hw.1) fun v G hR => ?_
  cases hp : packS form items with
  | error e =>
    rw [hp] at hR
    obtain rfl := hR
    (first | refine wX ?_ | exact wZ)
    rfl
  | ok x =>
    obtain ⟨l, u⟩ := x
    rw [hp] at hR
    obtain ⟨ob, cap, rfl, hob, hG⟩ := hR
    (first | refine wX ?_ | exact wZ)
    rfl
theorem RCheck_r (s : List UInt8) (hs : s.length ≤ 100000) : ∀ H, SpecH Tryz.prog 30 (pvs [.string (bs s)]) H (Ret (.int .i64 (chk (forms s))) H) := by
  refine pureC hm Tryz.func30 (by kernel_rfl) rfl rfl ?_
  (first | refine wX ?_ | exact wZ)
  refine SpecF.call0 (rread_c s hs) (fun w _ => trivial) fun v G hR => ?_
  cases hf : forms s with
  | none =>
    rw [hf] at hR
    obtain ⟨y, n, cap, rfl⟩ := hR
    (first | refine wX ?_ | exact wZ)
    rfl
  | some l =>
    rw [hf] at hR
    obtain ⟨ob, cap, rfl, _⟩ := hR
    (first | refine wX ?_ | exact wZ)
    rfl
/-- Items in memory that nobody writes. -/
def ItR (l : List Pack.Item) (v : Value) (G : World → Prop) : Prop := ∃ ob cap, v = .slice (at0 ob) l.length cap ∧ (ob = none → l = []) ∧ ∀ w, G w → SlAt (at0 ob) (l.length * 3) (itemsC l) w
theorem as_c (ia : Option Addr) (l : List Pack.Item) (cap : Nat) (hl : l.length ≤ 1000000) (ha : l ≠ [] → ia.isSome = true) : SpecF Tryz.prog 24 [.slice ia l.length cap] (ItemsF ia l) (ItR l) := by
-- the function: cabochon/cabochonlaw03.as, the type of the items that are made: cabochonref03.Item
  refine specF hm Tryz.func24 (by kernel_rfl) rfl rfl ?_
  (first | refine wX ?_ | exact wZ)
  refine LoopN.intro (Nat × Option Nat × Nat) (fun ⟨i, ob, oc⟩ => i ≤ l.length ∧ ((ob = none → i = 0 ∧ oc = 0) ∧ i ≤ oc)) (fun ⟨i, ob, oc⟩ => mkS Tryz.f24.ntmps 0 [(0, .c (.v (.slice ia l.length cap))), (3, .c (.v (.slice (at0 ob) i oc))), (4, .c (.v (.int .i64 (i : Int))))])
    (fun ⟨i, ob, oc⟩ => [.fact (ItemsF ia l), .app 71 3 (itemsC (l.take i)) (at0 ob) i oc]) (fun ⟨i, _, _⟩ => l.length - i) [.app 0 0 [] none 0 0] rfl
    (fun _ => rfl) (fun _ => rfl) (fun _ _ => okHB_eq rfl) ⟨(0, none, 0), ⟨Nat.zero_le _, ⟨fun _ => ⟨rfl, rfl⟩, Nat.le_refl _⟩⟩, ?_, ⟨wkE_refl _, wkE_nil, wkH_nil _⟩⟩ ?_
  · (repeat' (first | exact trivial | refine And.intro (by with_reducible rfl) ?_ | (with_reducible exact wkC_refl _) | (with_reducible exact wkCs_refl _) | refine And.intro ?_ ?_))
    all_goals rfl
  rintro ⟨i, ob, oc⟩ ⟨hi, ok⟩
  (first | refine wX ?_ | exact wZ)
  refine brd_dec (fun h1 => ?_) (fun h1 => ?_)
  · obtain ⟨p, hp⟩ : ∃ p, l[i]? = some p := ⟨_, List.getElem?_eq_getElem (by omega)⟩
    have hsa : ia.isSome = true := ha (fun h => by rw [h] at hp; cases hp)
    have hsn : l.take (i + 1) = l.take i ++ [p] := by rw [List.take_add_one, hp]; rfl
    have hce : itemsC (l.take i) ++ itemC p = itemsC (l.take (i + 1)) := by rw [hsn, itemsC_snoc]
    (first | refine wX ?_ | exact wZ)
    refine DrawN.plan [0, 1, 2, 6, 7, 11, 12] [(3, 1), (4, 1), (5, 1), (8, 1), (9, 1), (10, 1), (13, 1), (14, 1), (15, 1), (16, 1), (17, 0)] [(18, 0), (19, 0)] (by decide +kernel) ?_
    (first | refine wX ?_ | exact wZ)
    refine Nd.mk ⟨hsa, by omega, by omega⟩ ?_
    (first | refine wX ?_ | exact wZ)
    refine LdN.fld (.bool p.isText) rfl (fun w hw => hw.1) (by rw [Int.toNat_natCast]; exact itemsC_get l i 0 (by decide) hp) ?_
    (first | refine wX ?_ | exact wZ)
    refine Nd.mk ⟨hsa, by omega, by omega⟩ ?_
    (first | refine wX ?_ | exact wZ)
    refine LdN.fld (.int .i64 p.int) rfl (fun w hw => hw.1) (by rw [Int.toNat_natCast]; exact itemsC_get l i 1 (by decide) hp) ?_
    (first | refine wX ?_ | exact wZ)
    refine Nd.mk ⟨hsa, by omega, by omega⟩ ?_
    (first | refine wX ?_ | exact wZ)
    refine LdN.fld (.string (bs p.text)) rfl (fun w hw => hw.1) (by rw [Int.toNat_natCast]; exact itemsC_get l i 2 (by decide) hp) ?_
    (first | refine wX ?_ | exact wZ)
    refine Nd.mk ⟨by omega, rfl, rfl⟩ ?_
    (conv => whnf)
    refine AppN.grow 1 (itemsC (l.take i)) _ rfl rfl ⟨by omega, ⟨by show (i + 1) * 32 ≤ _; omega, by show i + 1 < _; omega⟩, by decide⟩ fun b' cap' h3 h4 => ?_
    (first | refine wX ?_ | exact wZ)
    refine ⟨(i + 1, some b', cap'), ⟨by omega, ⟨(fun h => by cases h), h3⟩⟩, by show l.length - (i + 1) < l.length - i; omega, ?_, ⟨wkE_refl _, .inl ⟨rfl, rfl, hce, rfl, rfl, rfl⟩, wkH_nil _⟩⟩
    · (repeat' (first | exact trivial | refine And.intro (by with_reducible rfl) ?_ | (with_reducible exact wkC_refl _) | (with_reducible exact wkCs_refl _) | refine And.intro ?_ ?_))
      all_goals first | rfl | exact av_int (by first | omega | (rw [wrap_i64 (by omega)]; omega))
  · have hil : i = l.length := by omega
    subst hil
    rw [List.take_length]
    (first | refine wX ?_ | exact wZ)
    refine fin_p (fun w => SlAt (at0 ob) (l.length * 3) (itemsC l) w) ⟨ob, oc, rfl, fun h => ?_, fun _ h => h⟩ (fun w hw => hw.2.1)
    exact List.eq_nil_of_length_eq_zero (ok.1 h).1
end Go.Proofs.YtjkchonpnocffaaGreatDoor

/-
  Contract: Size (document).
-/
namespace Go.Proofs.YtjkchonpnocffaaGreatDoor
open Go.AX Go.RowKit Go.Pack
set_option maxRecDepth 20000

theorem sz_text {c : UInt8} (h : (isStr c || c == 120) = true) : sz c = 0 := by
  simp only [isStr, Bool.or_eq_true, beq_iff_eq] at h
  rcases h with (((h | h) | h) | h) | h <;> rw [h] <;> rfl
theorem RSize_r (form : List UInt8) (hs : form.length ≤ 100000) : ∀ H, SpecH Tryz.prog 28 (pvs [.string (bs form)]) H (Ret (sizeV (forms form)) H) := by
  refine pureC hm Tryz.func28 (by kernel_rfl) rfl rfl ?_
  (first | refine wX ?_ | exact wZ)
  refine SpecF.call (rread_c form hs) (fun w _ => trivial) fun v G hR => ?_
  cases hf : forms form with
  | none =>
    rw [hf] at hR
    obtain ⟨y, n, cap, rfl⟩ := hR
    (first | refine wX ?_ | exact wZ)
    rfl
  | some ds =>
    rw [hf] at hR
    obtain ⟨db, dcap, rfl, hdb, hG⟩ := hR
    obtain ⟨h50, hok⟩ := forms_ok hf
    (first | refine wX ?_ | exact wZ)
    refine LoopN.intro (Nat × Nat) (fun ⟨i, n⟩ => i ≤ ds.length ∧ sizeS (ds.drop i) n = sizeS ds 0 ∧ n ≤ 8000 * i)
      (fun ⟨i, n⟩ => mkS Tryz.f28.ntmps 0 [(4, .c (.v (.slice (at0 db) ds.length dcap))), (6, .c (.v (.int .i64 (n : Int)))), (7, .c (.v (.int .i64 (i : Int))))])
      (fun _ => [.fact G]) (fun ⟨i, _⟩ => ds.length - i) [] rfl
      (fun _ => rfl) (fun _ => rfl) (fun _ _ => okHB_eq rfl) ⟨(0, 0), ⟨Nat.zero_le _, rfl, Nat.zero_le _⟩, ?_, ?_⟩ ?_
    · (repeat' (first | exact trivial | refine And.intro (by with_reducible rfl) ?_ | (with_reducible exact wkC_refl _) | (with_reducible exact wkCs_refl _) | refine And.intro ?_ ?_))
      all_goals rfl
    · exact ⟨wkE_refl _, wkH_nil _⟩
    rintro ⟨i, n⟩ ⟨hid, hrun, hn⟩
    (first | refine wX ?_ | exact wZ)
    refine brd_dec (fun h1 => ?_) (fun h1 => ?_)
    · obtain ⟨d, hd⟩ : ∃ d, ds[i]? = some d := ⟨_, List.getElem?_eq_getElem (by omega)⟩
      have hdok := hok d (List.mem_of_getElem? hd)
      have hc1 : d.count ≤ 1000 := by
        have := hdok.2
        unfold CntOk at this
        omega
      obtain ⟨db, rfl⟩ : ∃ g, db = some g := by
        cases db with
        | none => rw [hdb rfl] at hd; cases hd
        | some g => exact ⟨g, rfl⟩
      have hdr : sizeS (ds.drop i) n = match szStep d n with | none => none | some m => sizeS (ds.drop (i + 1)) m := by
        rw [List.drop_eq_getElem_cons (by omega), (List.getElem?_eq_some_iff.1 hd).2]
        exact sizeS_cons _ _ _
      have hle : ∀ m, szStep d n = some m → m ≤ n + 8000 := fun m hm => szStep_le hc1 hm
      obtain ⟨sz0, hdz⟩ : ∃ x, x = szStep d n := ⟨_, rfl⟩
      rw [← hdz] at hdr hle
      unfold szStep at hdz
      have h64 : ((d.letter.toNat : Int) == 64) = (d.letter == 64) := u8_eq (n := 64) (by decide)
      have h119 : ((d.letter.toNat : Int) == 119) = (d.letter == 119) := u8_eq (n := 119) (by decide)
      have h85 : ((d.letter.toNat : Int) == 85) = (d.letter == 85) := u8_eq (n := 85) (by decide)
      have h72 : ((d.letter.toNat : Int) == 72) = (d.letter == 72) := u8_eq (n := 72) (by decide)
      have h120 : ((d.letter.toNat : Int) == 120) = (d.letter == 120) := u8_eq (n := 120) (by decide)
      (first | refine wX ?_ | exact wZ)
      refine Nd.mk ⟨rfl, by omega, by omega⟩ ?_
      (first | refine wX ?_ | exact wZ)
      refine LdN.agg (dirC d) rfl (fun w hw => hG w hw.1) rfl (fun j hj => by
        rw [Int.toNat_natCast]
        exact dirsC_get ds i j hj hd) ?_
      (first | refine wX ?_ | exact wZ)
      refine brd_eq (fun hk => ?_) (fun hk => ?_)
      · have hk1 : d.count ≠ -1 := by omega
        -- 1: the count; 1: it as an Int
        have hcn : cntS d 0 = 1 := by unfold cntS; first | rw [if_pos hk] | (rw [if_neg hk, if_neg hk1]; exact hT)
        rw [hcn] at hdz
        (first | refine wX ?_ | exact wZ)
        try refine brd_eq (fun hk => absurd hk hk1) (fun _ => ?_)
        try (first | refine wX ?_ | exact wZ)
        rw [h119]
        cases e119 : d.letter == 119 with
        | true =>
          have e64 : (d.letter == 64) = false := by rw [show d.letter = 119 by simpa using e119]; rfl
          rw [e64, if_neg (by decide), e119, if_pos (by simp)] at hdz
          (first | refine wX ?_ | exact wZ)
          rw [hdr, hdz] at hrun
          have hr2 : sizeS ds 0 = none := hrun.symm
          rw [show sizeV (some ds) = match sizeS ds 0 with | none => .tuple #[.int .i64 0, .int .i64 1] | some n => .tuple #[.int .i64 (n : Int), .int .i64 0] from rfl, hr2]
        | false =>
          (first | refine wX ?_ | exact wZ)
          rw [h85]
          cases e85 : d.letter == 85 with
          | true =>
            have e64 : (d.letter == 64) = false := by rw [show d.letter = 85 by simpa using e85]; rfl
            rw [e64, if_neg (by decide), e85, if_pos (by simp)] at hdz
            (first | refine wX ?_ | exact wZ)
            rw [hdr, hdz] at hrun
            have hr2 : sizeS ds 0 = none := hrun.symm
            rw [show sizeV (some ds) = match sizeS ds 0 with | none => .tuple #[.int .i64 0, .int .i64 1] | some n => .tuple #[.int .i64 (n : Int), .int .i64 0] from rfl, hr2]
          | false =>
            (first | refine wX ?_ | exact wZ)
            rw [h64]
            cases e64 : d.letter == 64 with
            | true =>
              rw [e64, if_pos rfl] at hdz
              (first | refine wX ?_ | exact wZ)
              -- (max 0 d.count).toNat: the size now; hdz: that it is; by unfold maxI; split <;> omega: the number's spelling
              refine ⟨(i + 1, (max 0 d.count).toNat), ⟨by omega, by rw [← hrun, hdr, hdz], by omega⟩, by show ds.length - (i + 1) < ds.length - i; omega, ?_, ?_⟩
              · (repeat' (first | exact trivial | refine And.intro (by with_reducible rfl) ?_ | (with_reducible exact wkC_refl _) | (with_reducible exact wkCs_refl _) | refine And.intro ?_ ?_))
                all_goals first | rfl | exact av_int (by omega) | exact av_int (by rw [wrap_i64 (by omega)]; omega) | exact av_int (by unfold maxI; split <;> omega)
              · exact ⟨wkE_refl _, wkH_nil _⟩
            | false =>
              rw [e64, if_neg (show ¬ false = true by decide), e119, e85, if_neg (by simp [hk1])] at hdz
              (first | refine wX ?_ | exact wZ)
              rw [h72]
              cases e72 : d.letter == 72 with
              | true =>
                rw [e72, if_pos rfl] at hdz
                have ht : Int.tdiv (1 + 1) 2 = (((1 + 1) / 2 : Nat) : Int) := by first | exact (Int.ofNat_tdiv (1 + 1) 2).symm | (rw [hTc]; exact (Int.ofNat_tdiv (1 + 1) 2).symm)
                (first | refine wX ?_ | exact wZ)
                -- (n + (1 + 1) / 2): the size now; hdz: that it is; by rw [wrap_i64 (x := 1 + 1) (by omega), ht, wrap_i64 (x := (((1 + 1) / 2 : Nat) : Int)) (by omega), wrap_i64 (by omega)]; omega: the number's spelling
                refine ⟨(i + 1, (n + (1 + 1) / 2)), ⟨by omega, by rw [← hrun, hdr, hdz], by omega⟩, by show ds.length - (i + 1) < ds.length - i; omega, ?_, ?_⟩
                · (repeat' (first | exact trivial | refine And.intro (by with_reducible rfl) ?_ | (with_reducible exact wkC_refl _) | (with_reducible exact wkCs_refl _) | refine And.intro ?_ ?_))
                  all_goals first | rfl | exact av_int (by omega) | exact av_int (by rw [wrap_i64 (by omega)]; omega) | exact av_int (by rw [wrap_i64 (x := 1 + 1) (by omega), ht, wrap_i64 (x := (((1 + 1) / 2 : Nat) : Int)) (by omega), wrap_i64 (by omega)]; omega)
                · exact ⟨wkE_refl _, wkH_nil _⟩
              | false =>
                rw [e72, if_neg (by decide)] at hdz
                (first | refine wX ?_ | exact wZ)
                refine call1 (size_r d.letter _) ?_
                by_cases hsx : (isStr d.letter || d.letter == 120) = true
                · rw [if_pos hsx] at hdz
                  have hz0 : sz d.letter = 0 := sz_text hsx
                  rw [hz0]
                  (first | refine wX ?_ | exact wZ)
                  -- (n + 1): the size now; hdz: that it is; by rw [show maxI 1 (((0 : Nat) : Int)) = 1 from rfl, Int.mul_one, wrap_i64 (x := 1) (by omega), wrap_i64 (by omega)]; omega: the number's spelling
                  refine ⟨(i + 1, (n + 1)), ⟨by omega, by rw [← hrun, hdr, hdz], by omega⟩, by show ds.length - (i + 1) < ds.length - i; omega, ?_, ?_⟩
                  · (repeat' (first | exact trivial | refine And.intro (by with_reducible rfl) ?_ | (with_reducible exact wkC_refl _) | (with_reducible exact wkCs_refl _) | refine And.intro ?_ ?_))
                    all_goals first | rfl | exact av_int (by omega) | exact av_int (by rw [wrap_i64 (by omega)]; omega) | exact av_int (by rw [show maxI 1 (((0 : Nat) : Int)) = 1 from rfl, Int.mul_one, wrap_i64 (x := 1) (by omega), wrap_i64 (by omega)]; omega)
                  · exact ⟨wkE_refl _, wkH_nil _⟩
                · rw [if_neg hsx] at hdz
                  rw [Bool.or_eq_true, not_or] at hsx
                  have hz1 : sz d.letter ≠ 0 := by
                    rcases letter_num hdok.1 (by simpa using hsx.1) (by unfold isPl; rw [e64]; simpa using hsx.2) with h | h | h
                    · rw [h] at e119; exact absurd e119 (by decide)
                    · rw [h] at e85; exact absurd e85 (by decide)
                    · exact h
                  have hm1 : maxI 1 ((sz d.letter : Nat) : Int) = ((sz d.letter : Nat) : Int) := by unfold maxI; split <;> omega
                  have hm8 : 1 * sz d.letter ≤ 1000 * 8 := Nat.mul_le_mul (by omega) (sz_le8 _)
                  have hmi : 1 * ((sz d.letter : Nat) : Int) = ((1 * sz d.letter : Nat) : Int) := by first | exact (Int.natCast_mul 1 _).symm | (rw [hTc]; exact (Int.natCast_mul 1 _).symm)
                  (first | refine wX ?_ | exact wZ)
                  rw [hm1, hmi]
                  (first | refine wX ?_ | exact wZ)
                  -- (n + 1 * sz d.letter): the size now; hdz: that it is; by rw [wrap_i64 (x := ((1 * sz d.letter : Nat) : Int)) (by omega), wrap_i64 (by omega)]; omega: the number's spelling
                  refine ⟨(i + 1, (n + 1 * sz d.letter)), ⟨by omega, by rw [← hrun, hdr, hdz], by omega⟩, by show ds.length - (i + 1) < ds.length - i; omega, ?_, ?_⟩
                  · (repeat' (first | exact trivial | refine And.intro (by with_reducible rfl) ?_ | (with_reducible exact wkC_refl _) | (with_reducible exact wkCs_refl _) | refine And.intro ?_ ?_))
                    all_goals first | rfl | exact av_int (by omega) | exact av_int (by rw [wrap_i64 (by omega)]; omega) | exact av_int (by rw [wrap_i64 (x := ((1 * sz d.letter : Nat) : Int)) (by omega), wrap_i64 (by omega)]; omega)
                  · exact ⟨wkE_refl _, wkH_nil _⟩
      · by_cases hk1 : d.count = -1
        · have e64 : (d.letter == 64) = false := by
            have := hdok.2
            unfold CntOk at this
            rcases this with h | h | h
            · simpa using h.2.2
            · omega
            · omega
          rw [e64, if_neg (by decide), if_pos (by simp [hk1])] at hdz
          (first | refine wX ?_ | exact wZ)
          refine brd_eq (fun _ => ?_) (fun h => absurd hk1 h)
          (first | refine wX ?_ | exact wZ)
          rw [hdr, hdz] at hrun
          have hr2 : sizeS ds 0 = none := hrun.symm
          rw [show sizeV (some ds) = match sizeS ds 0 with | none => .tuple #[.int .i64 0, .int .i64 1] | some n => .tuple #[.int .i64 (n : Int), .int .i64 0] from rfl, hr2]
        · obtain ⟨T, hT⟩ : ∃ T : Nat, d.count.toNat = T := ⟨_, rfl⟩
          have hTc : d.count = (T : Int) := by
            have := hdok.2
            unfold CntOk at this
            omega
          have hT1 : T ≤ 1000 := by omega
          -- T: the count; d.count: it as an Int
          have hcn : cntS d 0 = T := by unfold cntS; first | rw [if_pos hk] | (rw [if_neg hk, if_neg hk1]; exact hT)
          rw [hcn] at hdz
          (first | refine wX ?_ | exact wZ)
          try refine brd_eq (fun hk => absurd hk hk1) (fun _ => ?_)
          try (first | refine wX ?_ | exact wZ)
          rw [h119]
          cases e119 : d.letter == 119 with
          | true =>
            have e64 : (d.letter == 64) = false := by rw [show d.letter = 119 by simpa using e119]; rfl
            rw [e64, if_neg (by decide), e119, if_pos (by simp)] at hdz
            (first | refine wX ?_ | exact wZ)
            rw [hdr, hdz] at hrun
            have hr2 : sizeS ds 0 = none := hrun.symm
            rw [show sizeV (some ds) = match sizeS ds 0 with | none => .tuple #[.int .i64 0, .int .i64 1] | some n => .tuple #[.int .i64 (n : Int), .int .i64 0] from rfl, hr2]
          | false =>
            (first | refine wX ?_ | exact wZ)
            rw [h85]
            cases e85 : d.letter == 85 with
            | true =>
              have e64 : (d.letter == 64) = false := by rw [show d.letter = 85 by simpa using e85]; rfl
              rw [e64, if_neg (by decide), e85, if_pos (by simp)] at hdz
              (first | refine wX ?_ | exact wZ)
              rw [hdr, hdz] at hrun
              have hr2 : sizeS ds 0 = none := hrun.symm
              rw [show sizeV (some ds) = match sizeS ds 0 with | none => .tuple #[.int .i64 0, .int .i64 1] | some n => .tuple #[.int .i64 (n : Int), .int .i64 0] from rfl, hr2]
            | false =>
              (first | refine wX ?_ | exact wZ)
              rw [h64]
              cases e64 : d.letter == 64 with
              | true =>
                rw [e64, if_pos rfl] at hdz
                (first | refine wX ?_ | exact wZ)
                -- (max 0 d.count).toNat: the size now; hdz: that it is; by unfold maxI; split <;> omega: the number's spelling
                refine ⟨(i + 1, (max 0 d.count).toNat), ⟨by omega, by rw [← hrun, hdr, hdz], by omega⟩, by show ds.length - (i + 1) < ds.length - i; omega, ?_, ?_⟩
                · (repeat' (first | exact trivial | refine And.intro (by with_reducible rfl) ?_ | (with_reducible exact wkC_refl _) | (with_reducible exact wkCs_refl _) | refine And.intro ?_ ?_))
                  all_goals first | rfl | exact av_int (by omega) | exact av_int (by rw [wrap_i64 (by omega)]; omega) | exact av_int (by unfold maxI; split <;> omega)
                · exact ⟨wkE_refl _, wkH_nil _⟩
              | false =>
                rw [e64, if_neg (show ¬ false = true by decide), e119, e85, if_neg (by simp [hk1])] at hdz
                (first | refine wX ?_ | exact wZ)
                rw [h72]
                cases e72 : d.letter == 72 with
                | true =>
                  rw [e72, if_pos rfl] at hdz
                  have ht : Int.tdiv (d.count + 1) 2 = (((T + 1) / 2 : Nat) : Int) := by first | exact (Int.ofNat_tdiv (T + 1) 2).symm | (rw [hTc]; exact (Int.ofNat_tdiv (T + 1) 2).symm)
                  (first | refine wX ?_ | exact wZ)
                  -- (n + (T + 1) / 2): the size now; hdz: that it is; by rw [wrap_i64 (x := d.count + 1) (by omega), ht, wrap_i64 (x := (((T + 1) / 2 : Nat) : Int)) (by omega), wrap_i64 (by omega)]; omega: the number's spelling
                  refine ⟨(i + 1, (n + (T + 1) / 2)), ⟨by omega, by rw [← hrun, hdr, hdz], by omega⟩, by show ds.length - (i + 1) < ds.length - i; omega, ?_, ?_⟩
                  · (repeat' (first | exact trivial | refine And.intro (by with_reducible rfl) ?_ | (with_reducible exact wkC_refl _) | (with_reducible exact wkCs_refl _) | refine And.intro ?_ ?_))
                    all_goals first | rfl | exact av_int (by omega) | exact av_int (by rw [wrap_i64 (by omega)]; omega) | exact av_int (by rw [wrap_i64 (x := d.count + 1) (by omega), ht, wrap_i64 (x := (((T + 1) / 2 : Nat) : Int)) (by omega), wrap_i64 (by omega)]; omega)
                  · exact ⟨wkE_refl _, wkH_nil _⟩
                | false =>
                  rw [e72, if_neg (by decide)] at hdz
                  (first | refine wX ?_ | exact wZ)
                  refine call1 (size_r d.letter _) ?_
                  by_cases hsx : (isStr d.letter || d.letter == 120) = true
                  · rw [if_pos hsx] at hdz
                    have hz0 : sz d.letter = 0 := sz_text hsx
                    rw [hz0]
                    (first | refine wX ?_ | exact wZ)
                    -- (n + T): the size now; hdz: that it is; by rw [show maxI 1 (((0 : Nat) : Int)) = 1 from rfl, Int.mul_one, wrap_i64 (x := d.count) (by omega), wrap_i64 (by omega)]; omega: the number's spelling
                    refine ⟨(i + 1, (n + T)), ⟨by omega, by rw [← hrun, hdr, hdz], by omega⟩, by show ds.length - (i + 1) < ds.length - i; omega, ?_, ?_⟩
                    · (repeat' (first | exact trivial | refine And.intro (by with_reducible rfl) ?_ | (with_reducible exact wkC_refl _) | (with_reducible exact wkCs_refl _) | refine And.intro ?_ ?_))
                      all_goals first | rfl | exact av_int (by omega) | exact av_int (by rw [wrap_i64 (by omega)]; omega) | exact av_int (by rw [show maxI 1 (((0 : Nat) : Int)) = 1 from rfl, Int.mul_one, wrap_i64 (x := d.count) (by omega), wrap_i64 (by omega)]; omega)
                    · exact ⟨wkE_refl _, wkH_nil _⟩
                  · rw [if_neg hsx] at hdz
                    rw [Bool.or_eq_true, not_or] at hsx
                    have hz1 : sz d.letter ≠ 0 := by
                      rcases letter_num hdok.1 (by simpa using hsx.1) (by unfold isPl; rw [e64]; simpa using hsx.2) with h | h | h
                      · rw [h] at e119; exact absurd e119 (by decide)
                      · rw [h] at e85; exact absurd e85 (by decide)
                      · exact h
                    have hm1 : maxI 1 ((sz d.letter : Nat) : Int) = ((sz d.letter : Nat) : Int) := by unfold maxI; split <;> omega
                    have hm8 : T * sz d.letter ≤ 1000 * 8 := Nat.mul_le_mul (by omega) (sz_le8 _)
                    have hmi : d.count * ((sz d.letter : Nat) : Int) = ((T * sz d.letter : Nat) : Int) := by first | exact (Int.natCast_mul T _).symm | (rw [hTc]; exact (Int.natCast_mul T _).symm)
                    (first | refine wX ?_ | exact wZ)
                    rw [hm1, hmi]
                    (first | refine wX ?_ | exact wZ)
                    -- (n + T * sz d.letter): the size now; hdz: that it is; by rw [wrap_i64 (x := ((T * sz d.letter : Nat) : Int)) (by omega), wrap_i64 (by omega)]; omega: the number's spelling
                    refine ⟨(i + 1, (n + T * sz d.letter)), ⟨by omega, by rw [← hrun, hdr, hdz], by omega⟩, by show ds.length - (i + 1) < ds.length - i; omega, ?_, ?_⟩
                    · (repeat' (first | exact trivial | refine And.intro (by with_reducible rfl) ?_ | (with_reducible exact wkC_refl _) | (with_reducible exact wkCs_refl _) | refine And.intro ?_ ?_))
                      all_goals first | rfl | exact av_int (by omega) | exact av_int (by rw [wrap_i64 (by omega)]; omega) | exact av_int (by rw [wrap_i64 (x := ((T * sz d.letter : Nat) : Int)) (by omega), wrap_i64 (by omega)]; omega)
                    · exact ⟨wkE_refl _, wkH_nil _⟩
    · have hi : i = ds.length := by omega
      subst hi
      rw [List.drop_length] at hrun
      have hr2 : sizeS ds 0 = some n := hrun.symm
      rw [show sizeV (some ds) = match sizeS ds 0 with | none => .tuple #[.int .i64 0, .int .i64 1] | some n => .tuple #[.int .i64 (n : Int), .int .i64 0] from rfl, hr2]
      (first | refine wX ?_ | exact wZ)
end Go.Proofs.YtjkchonpnocffaaGreatDoor

/-
  Contracts: large, packs, PackWrites (law).
-/
namespace Go.Proofs.YtjkchonpnocffaaGreatDoor
open Go.AX Go.RowKit Go.Pack
set_option maxRecDepth 20000

theorem packs_key (form : List UInt8) (items : List Pack.Item) : ∃ (p : List UInt8) (e x i u : Int), packV (packS form items) = .tuple #[.string (bs p), .int .i64 e] ∧ usedV (packS form items) = .tuple #[.int .i64 u, .int .i64 e] ∧ sizeV (forms form) = .tuple #[.int .i64 x, .int .i64 i] ∧ (e = 0 → i = 0 → x = (p.length : Int)) := by
  have hs : ∃ x i : Int, sizeV (forms form) = .tuple #[.int .i64 x, .int .i64 i] ∧ (i = 0 → ∃ ds n, forms form = some ds ∧ sizeS ds 0 = some n ∧ x = (n : Int)) := by
    cases hf : forms form with
    | none => exact ⟨0, 4, rfl, fun h => by cases h⟩
    | some ds =>
      cases hz : sizeS ds 0 with
      | none => exact ⟨0, 1, by show (match sizeS ds 0 with | none => _ | some n => _) = _; rw [hz], fun h => by cases h⟩
      | some n => exact ⟨n, 0, by show (match sizeS ds 0 with | none => _ | some n => _) = _; rw [hz], fun _ => ⟨ds, n, rfl, hz, rfl⟩⟩
  obtain ⟨x, i, hs, hsi⟩ := hs
  cases hp : packS form items with
  | error e => exact ⟨[], e, x, i, 0, rfl, rfl, hs, fun h => absurd h (packS_err hp)⟩
  | ok r =>
    obtain ⟨l, u⟩ := r
    refine ⟨l, 0, x, i, u, rfl, rfl, hs, fun _ hi => ?_⟩
    obtain ⟨ds, n, h1, h2, h3⟩ := hsi hi
    have h4 : l.length = n := packS_len h1 hp h2
    rw [h3, h4]
theorem packs_c (form : List UInt8) (ia : Option Addr) (items : List Pack.Item) (icap : Nat) (hs : form.length ≤ 100000)
    (hia : items ≠ [] → ia.isSome = true) (hl : items.length ≤ 100000) (hi : ∀ x ∈ items, x.text.length ≤ 140737488351232 ∧ -9223372036854775808 ≤ x.int ∧ x.int < 9223372036854775808) :
    ∀ H, (∀ w, Facts H w → ItemsF ia items w) → SpecH Tryz.prog 8 (pvs [.string (bs form), .slice ia items.length icap]) H (Ret (.bool true) H) := by
  refine factC hm Tryz.func8 (by kernel_rfl) rfl rfl ?_
  obtain ⟨p, e, x, i, u, h1, h2, h3, h4⟩ := packs_key form items
  have hz := bs_size p
  (first | refine wX ?_ | exact wZ)
  refine call1 (Pack_c form ia items icap hs hia hl hi _ (fun w hw => hw.1)) ?_
  rw [h1]
  (first | refine wX ?_ | exact wZ)
  refine SpecF.call (as_c ia items icap (by omega) hia) (fun w hw => hw.1) fun v G hR => ?_
  obtain ⟨oa, ca, rfl, hoa, hG⟩ := hR
  have hia2 : items ≠ [] → (at0 oa).isSome = true := fun h => by
    cases oa with
    | none => exact absurd (hoa rfl) h
    | some g => rfl
  (first | refine wX ?_ | exact wZ)
  refine call1 (RPack_r form (at0 oa) items ca hs hia2 hl hi _ (fun w hw => hG w hw.2.1)) ?_
  rw [h1]
  (first | refine wX ?_ | exact wZ)
  refine call1 (Used_c form ia items icap hs hia hl hi _ (fun w hw => hw.1)) ?_
  rw [h2]
  (first | refine wX ?_ | exact wZ)
  refine SpecF.call (as_c ia items icap (by omega) hia) (fun w hw => hw.1) fun v2 G2 hR2 => ?_
  obtain ⟨ob, cb, rfl, hob, hG2⟩ := hR2
  have hib2 : items ≠ [] → (at0 ob).isSome = true := fun h => by
    cases ob with
    | none => exact absurd (hob rfl) h
    | some g => rfl
  (first | refine wX ?_ | exact wZ)
  refine call1 (RUsed_r form (at0 ob) items cb hs hib2 hl hi _ (fun w hw => hG2 w hw.2.2.1)) ?_
  rw [h2]
  (first | refine wX ?_ | exact wZ)
  refine call1 (Size_c form hs _) ?_
  rw [h3]
  (first | refine wX ?_ | exact wZ)
  refine call1 (RSize_r form hs _) ?_
  rw [h3]
  (first | refine wX ?_ | exact wZ)
  refine brdF (by simp) ?_
  (first | refine wX ?_ | exact wZ)
  refine brd_ne (fun h => absurd rfl h) (fun _ => ?_)
  (first | refine wX ?_ | exact wZ)
  refine brd_ne (fun h => absurd rfl h) (fun _ => ?_)
  (first | refine wX ?_ | exact wZ)
  refine brd_ne (fun h => absurd rfl h) (fun _ => ?_)
  (first | refine wX ?_ | exact wZ)
  refine brd_ne (fun h => absurd rfl h) (fun _ => ?_)
  (first | refine wX ?_ | exact wZ)
  refine brd_ne (fun h => absurd rfl h) (fun _ => ?_)
  (first | refine wX ?_ | exact wZ)
  refine call1 (Check_c form hs _) ?_
  (first | refine wX ?_ | exact wZ)
  refine call1 (RCheck_r form hs _) ?_
  (first | refine wX ?_ | exact wZ)
  refine brd_ne (fun h => absurd rfl h) (fun _ => ?_)
  (first | refine wX ?_ | exact wZ)
  refine brd_ne (fun he => ?_) (fun he => ?_)
  · (first | refine wX ?_ | exact wZ)
  · (first | refine wX ?_ | exact wZ)
    refine brd_ne (fun hi0 => ?_) (fun hi0 => ?_)
    · (first | refine wX ?_ | exact wZ)
    · have h5 := h4 he hi0
      (first | refine wX ?_ | exact wZ)
      rw [hz, h5]
      simp
end Go.Proofs.YtjkchonpnocffaaGreatDoor

/-
  Plain Lean: how many items Unpack gives at most.
-/
namespace Go.Pack
set_option maxRecDepth 4000
theorem allN_len {d : Dir} : ∀ (f : Nat) (s : B) (out ns : List Int) (r : B), allN d f s out = .ok (ns, r) → ns.length ≤ out.length + f ∧ r.length ≤ s.length
  | 0, s, out, ns, r, h => by
    unfold allN at h
    cases h
    exact ⟨Nat.le_refl _, Nat.le_refl _⟩
  | f + 1, s, out, ns, r, h => by
    unfold allN at h
    split at h
    · cases h
      exact ⟨by omega, Nat.le_refl _⟩
    · split at h
      · cases h
      · have h2 := allN_len f _ _ _ _ h
        rw [List.length_append, List.length_drop] at h2
        simp only [List.length_cons, List.length_nil] at h2
        exact ⟨by omega, by omega⟩
theorem cntN_len {d : Dir} : ∀ (f : Nat) (s : B) (out ns : List Int) (r : B), cntN d f s out = .ok (ns, r) → ns.length ≤ out.length + f ∧ r.length ≤ s.length
  | 0, s, out, ns, r, h => by
    unfold cntN at h
    cases h
    exact ⟨Nat.le_refl _, Nat.le_refl _⟩
  | f + 1, s, out, ns, r, h => by
    unfold cntN at h
    split at h
    · cases h
    · have h2 := cntN_len f _ _ _ _ h
      rw [List.length_append, List.length_drop] at h2
      simp only [List.length_cons, List.length_nil] at h2
      exact ⟨by omega, by omega⟩
theorem numsS_len {d : Dir} {s : B} {ns : List Int} {r : B} (hc : d.count ≤ 1000) (h : numsS d s = .ok (ns, r)) : ns.length ≤ s.length + 1001 ∧ r.length ≤ s.length := by
  unfold numsS at h
  split at h
  · have := allN_len _ _ _ _ _ h
    simp only [List.length_nil] at this
    exact ⟨by omega, this.2⟩
  · have := cntN_len _ _ _ _ _ h
    have h2 : cntS d 0 ≤ 1000 := by
      unfold cntS
      split
      · omega
      · first | omega | (split <;> omega)
    simp only [List.length_nil] at this
    exact ⟨by omega, this.2⟩
theorem unS_len {whole : B} : ∀ (ds : List Dir) (s : B) (out l : List Item), (∀ d ∈ ds, d.count ≤ 1000) → s.length ≤ whole.length → unS whole ds s out = .ok l → l.length ≤ out.length + ds.length * (whole.length + 1001)
  | [], s, out, l, _, _, h => by
    unfold unS at h
    cases h
    omega
  | d :: ds, s, out, l, hc, hs, h => by
    have hc2 : ∀ d ∈ ds, d.count ≤ 1000 := fun x hx => hc x (List.mem_cons_of_mem _ hx)
    have hm : (d :: ds).length * (whole.length + 1001) = ds.length * (whole.length + 1001) + (whole.length + 1001) := by rw [List.length_cons, Nat.succ_mul]
    rw [hm]
    generalize hW : whole.length + 1001 = W
    generalize hD : ds.length * W = D
    have hq : ds.length * (whole.length + 1001) = D := by rw [hW]; exact hD
    unfold unS at h
    split at h
    · split at h
      · cases h
      · have := unS_len ds _ _ _ hc2 (by rw [List.length_drop]; omega) h
        rw [hq] at this
        omega
    split at h
    · split at h
      · cases h
      · have := unS_len ds _ _ _ hc2 (by rw [List.length_drop]; omega) h
        rw [hq] at this
        omega
    split at h
    · have := unS_len ds _ _ _ hc2 (by rw [List.length_drop]; omega) h
      rw [List.length_append] at this
      simp only [List.length_cons, List.length_nil] at this
      rw [hq] at this
      omega
    · split at h
      · cases h
      · rename_i ns r hn
        have h2 := numsS_len (hc d (List.mem_cons_self ..)) hn
        have := unS_len ds _ _ _ hc2 (by omega) h
        rw [List.length_append, List.length_map, hq] at this
        omega
theorem unpackS_len {form s : B} {l : List Item} (hs : s.length ≤ 1000000) (h : unpackS form s = .ok l) : l.length ≤ 100000000 := by
  unfold unpackS at h
  split at h
  · cases h
  · rename_i ds hd
    obtain ⟨h50, hok⟩ := forms_ok hd
    have := unS_len ds s [] l (fun d hd => by
      have := (hok d hd).2
      unfold CntOk at this
      omega) (Nat.le_refl _) h
    simp only [List.length_nil] at this
    have h2 : ds.length * (s.length + 1001) ≤ 50 * (s.length + 1001) := Nat.mul_le_mul_right _ h50
    omega
end Go.Pack

/-
  Contract: PackForms (law).
-/
namespace Go.Proofs.YtjkchonpnocffaaGreatDoor
open Go.AX Go.RowKit Go.Pack
set_option maxRecDepth 20000

/-- What Unpack gives, in one piece. -/
def unI (r : Except Int (List Pack.Item)) : List Pack.Item := match r with | .error _ => [] | .ok l => l
def unE2 (r : Except Int (List Pack.Item)) : Int := match r with | .error e => e | .ok _ => 0
theorem UnR.out {r : Except Int (List Pack.Item)} {v : Value} {G : World → Prop} (h : UnR r v G) : ∃ ob cap, v = .tuple #[.slice (at0 ob) (unI r).length cap, .int .i64 (unE2 r)] ∧ (ob = none → unI r = []) ∧ ∀ w, G w → SlAt (at0 ob) ((unI r).length * 3) (itemsC (unI r)) w := by
  cases r with
  | error e => exact ⟨none, 0, h, fun _ => rfl, fun _ _ => SlAt.nil⟩
  | ok l => exact h
theorem unI_len {form s : List UInt8} (hs : s.length ≤ 1000000) : (unI (unpackS form s)).length ≤ 1000000000 := by
  cases hu : unpackS form s with
  | error e => exact Nat.zero_le _
  | ok l => exact Nat.le_trans (unpackS_len hs hu) (by decide)
theorem packs_out (form : List UInt8) (items : List Pack.Item) : ∃ (p : List UInt8) (e : Int), packV (packS form items) = .tuple #[.string (bs p), .int .i64 e] ∧ p.length ≤ 100000 := by
  cases hp : packS form items with
  | error e => exact ⟨[], e, rfl, Nat.zero_le _⟩
  | ok r =>
    obtain ⟨l, u⟩ := r
    exact ⟨l, 0, rfl, (packS_fit hp).1⟩
theorem PackForms_c (ia : Option Addr) (l : List PickV) (ca : Nat) (other : List UInt8) (ha : l ≠ [] → ia.isSome = true)
    (hr : ∀ p ∈ l, -9223372036854775808 ≤ p.int ∧ p.int < 9223372036854775808) (ho : other.length ≤ 200000000000000) :
    ∀ H, (∀ w, Facts H w → UtfF w ∧ PicksF ia l w) → SpecH Tryz.prog 3 (pvs [.slice ia l.length ca, .string (bs other)]) H (Ret (.bool true) H) := by
  refine factC hm Tryz.func3 (by kernel_rfl) rfl rfl ?_
  have hz := bs_size other
  (first | refine wX ?_ | exact wZ)
  refine SpecF.call (formed_c ia l ca ha hr) (fun w hw => hw.1.2) fun v G hR => ?_
  obtain ⟨form, ds, n, x, ob, c, rfl, hn20, hnl, hfo, hx60, hxo, hob, hxc, hG⟩ := hR
  have hsa := hfo.size
  have hxa : x ≠ [] → (at0 ob).isSome = true := fun h => by
    cases ob with
    | none => exact absurd (hob rfl) h
    | some g => rfl
  have hx2 : ∀ z ∈ x, z.text.length ≤ 140737488351232 ∧ -9223372036854775808 ≤ z.int ∧ z.int < 9223372036854775808 := fun z hz => ⟨Nat.le_trans (hxo z hz).1 (by decide), (hxo z hz).2⟩
  obtain ⟨s, e, hp, hpl⟩ := packs_out form x
  (first | refine wX ?_ | exact wZ)
  rw [hz]
  refine brd_dec (fun h1 => ?_) (fun h1 => ?_)
  · (first | refine wX ?_ | exact wZ)
    refine ReadW.sl_h 2000 rfl Tryz.underlying9 rfl rfl ⟨rfl, by omega⟩ ?_
    have hol : (other.take 2000).length ≤ 2000 := by rw [List.length_take]; omega
    generalize other.take 2000 = ot at *
    -- ot: the other bytes
    (first | refine wX ?_ | exact wZ)
    refine call1 (Pack_c form (at0 ob) x c (by omega) hxa (by omega) hx2 _ (fun w hw => hG w hw.2.1)) ?_
    rw [hp]
    (first | refine wX ?_ | exact wZ)
    refine SpecF.call (Unpack_c form s (by omega) (by omega)) (fun w hw => hw.1.1) fun v1 G1 hR1 => ?_
    obtain ⟨o1, c1, rfl, ho1, hG1⟩ := hR1.out
    (first | refine wX ?_ | exact wZ)
    refine SpecF.call (RUnpack_r form s (by omega) (by omega)) (fun w hw => trivial) fun v2 G2 hR2 => ?_
    obtain ⟨o2, c2, rfl, ho2, hG2⟩ := hR2.out
    (first | refine wX ?_ | exact wZ)
    refine SpecF.call (Unpack_c form (ot) (by omega) (by omega)) (fun w hw => hw.1.1) fun v3 G3 hR3 => ?_
    obtain ⟨o3, c3, rfl, ho3, hG3⟩ := hR3.out
    (first | refine wX ?_ | exact wZ)
    refine SpecF.call (RUnpack_r form (ot) (by omega) (by omega)) (fun w hw => trivial) fun v4 G4 hR4 => ?_
    obtain ⟨o4, c4, rfl, ho4, hG4⟩ := hR4.out
    (first | refine wX ?_ | exact wZ)
    refine call1 (packs_c form (at0 ob) x c (by omega) hxa (by omega) hx2 _ (fun w hw => hG w hw.2.1)) ?_
    (first | refine wX ?_ | exact wZ)
    refine call1 (same_c _ o1 o2 c1 c2 ho1 ho2 (unI_len (by omega)) _ (fun w hw => ⟨hG1 w hw.2.2.1, hG2 w hw.2.2.2.1⟩)) ?_
    (first | refine wX ?_ | exact wZ)
    try refine brd_eq (fun _ => ?_) (fun h => absurd rfl h)
    (first | refine wX ?_ | exact wZ)
    refine call1 (same_c _ o3 o4 c3 c4 ho3 ho4 (unI_len (by omega)) _ (fun w hw => ⟨hG3 w hw.2.2.2.2.1, hG4 w hw.2.2.2.2.2.1⟩)) ?_
    (first | refine wX ?_ | exact wZ)
    try refine brd_eq (fun _ => ?_) (fun h => absurd rfl h)
    (first | refine wX ?_ | exact wZ)
    refine call1 (sane_c _ (fun w hw => hw.1.1)) ?_
    (first | refine wX ?_ | exact wZ)
  · -- other: the other bytes
    (first | refine wX ?_ | exact wZ)
    refine call1 (Pack_c form (at0 ob) x c (by omega) hxa (by omega) hx2 _ (fun w hw => hG w hw.2.1)) ?_
    rw [hp]
    (first | refine wX ?_ | exact wZ)
    refine SpecF.call (Unpack_c form s (by omega) (by omega)) (fun w hw => hw.1.1) fun v1 G1 hR1 => ?_
    obtain ⟨o1, c1, rfl, ho1, hG1⟩ := hR1.out
    (first | refine wX ?_ | exact wZ)
    refine SpecF.call (RUnpack_r form s (by omega) (by omega)) (fun w hw => trivial) fun v2 G2 hR2 => ?_
    obtain ⟨o2, c2, rfl, ho2, hG2⟩ := hR2.out
    (first | refine wX ?_ | exact wZ)
    refine SpecF.call (Unpack_c form (other) (by omega) (by omega)) (fun w hw => hw.1.1) fun v3 G3 hR3 => ?_
    obtain ⟨o3, c3, rfl, ho3, hG3⟩ := hR3.out
    (first | refine wX ?_ | exact wZ)
    refine SpecF.call (RUnpack_r form (other) (by omega) (by omega)) (fun w hw => trivial) fun v4 G4 hR4 => ?_
    obtain ⟨o4, c4, rfl, ho4, hG4⟩ := hR4.out
    (first | refine wX ?_ | exact wZ)
    refine call1 (packs_c form (at0 ob) x c (by omega) hxa (by omega) hx2 _ (fun w hw => hG w hw.2.1)) ?_
    (first | refine wX ?_ | exact wZ)
    refine call1 (same_c _ o1 o2 c1 c2 ho1 ho2 (unI_len (by omega)) _ (fun w hw => ⟨hG1 w hw.2.2.1, hG2 w hw.2.2.2.1⟩)) ?_
    (first | refine wX ?_ | exact wZ)
    try refine brd_eq (fun _ => ?_) (fun h => absurd rfl h)
    (first | refine wX ?_ | exact wZ)
    refine call1 (same_c _ o3 o4 c3 c4 ho3 ho4 (unI_len (by omega)) _ (fun w hw => ⟨hG3 w hw.2.2.2.2.1, hG4 w hw.2.2.2.2.2.1⟩)) ?_
    (first | refine wX ?_ | exact wZ)
    try refine brd_eq (fun _ => ?_) (fun h => absurd rfl h)
    (first | refine wX ?_ | exact wZ)
    refine call1 (sane_c _ (fun w hw => hw.1.1)) ?_
    (first | refine wX ?_ | exact wZ)
end Go.Proofs.YtjkchonpnocffaaGreatDoor

/-
  AX, twenty-seventh text: arguments that are slices of structs.
-/
namespace Go.AX
open Go.ChangeShapes Go.WideShapes Go.ChangeAt Go.RowKit

theorem choose_list {α : Type} {R : Nat → α → Prop} : ∀ n, (∀ i, i < n → ∃ x, R i x) → ∃ l : List α, l.length = n ∧ ∀ i x, l[i]? = some x → R i x
  | 0, _ => ⟨[], rfl, fun i x h => by simp at h⟩
  | n + 1, h => by
    obtain ⟨l, hl, hR⟩ := choose_list n fun i hi => h i (by omega)
    obtain ⟨x, hx⟩ := h n (by omega)
    refine ⟨l ++ [x], by simp [hl], fun i y hy => ?_⟩
    by_cases hi : i < l.length
    · rw [List.getElem?_append_left hi] at hy
      exact hR i y hy
    · have hlt := (List.getElem?_eq_some_iff.1 hy).1
      simp only [List.length_append, List.length_cons, List.length_nil] at hlt
      have e : i = l.length := by omega
      subst e
      simp at hy
      subst hy
      rw [hl]; exact hx
section
variable {H : Type} {enc : TypeId × Value → H} {P : Program} {w : World}
theorem weights_all {e : TypeId} : ∀ {l : List (DataW H)} {d : DataW H}, d ∈ l → ∀ k ∈ d.weights P e, k ∈ DataW.weightsAll P e l
  | [], _, h, _, _ => by cases h
  | a :: l, d, h, k, hk => by
    rw [DataW.weightsAll, List.mem_append]
    rcases List.mem_cons.1 h with rfl | h
    · exact .inl hk
    · exact .inr (weights_all h k hk)
/-- A slice of structs: g lays one out, Q is what the reading says of it. -/
theorem known_rows {α : Type} {Q : α → Prop} {m : Nat} (g : α → List Value) (hg : ∀ x, (g x).length = m) {t e : TypeId} {v : Value} {d : DataW H} {ps : List MemPlace} {ts : List TypeId} {ds : List (DataW H)} {j : Nat} (ht : P.underlying t = some (.slice e)) (hc : P.cellsOf e = m) (hb : 1 ≤ P.bytesOf e)
    (hread : ∀ n cs (y : DataW H × List MemPlace), DataW.trod enc P w 0 (fun _ => true) true n e cs = some y → (∀ k ∈ y.1.weights P e, k ≤ reachBytes) → ∃ x, Q x ∧ cs = g x)
    (hsz : (DataW.weightsEach P ts ds).all (· ≤ reachBytes) = true) (hj : ts[j]? = some t) (hd : ds[j]? = some d)
    {r : Reach} {b : Nat} (hv : Value.okWide P w r b t v) (h : DataW.Trod enc P w 0 (fun _ => true) true t v d ps) : ∃ (a : Option Addr) (l : List α) (cap : Nat), v = .slice a l.length cap ∧ l.length ≤ 200000000000000 ∧ Imm (fun b => b < w.heap.size) w (SlAt a (l.length * m) (l.flatMap g)) ∧ (a = none → l = []) ∧ ∀ x ∈ l, Q x := by
  obtain ⟨a, n, c, rfl⟩ := okWide_slice ht hv
  obtain ⟨fuel, hf⟩ := h
  rcases DataW.trod_slice ht hf with ⟨h1, h2⟩ | ⟨a, len, cap, elems, rest, n, _, h1, h2, _, _, _, hlen, hel, _⟩
  · refine ⟨none, [], 0, by simpa [Value.cells] using h1, by simp, ?_, fun _ => rfl, by simp⟩
    rw [List.length_nil, Nat.zero_mul]
    exact SlAt.nil.imm
  · simp only [Prod.mk.injEq] at h2
    rw [h2.1] at hd
    have hs := sized_slice hsz hj hd ht
    have hr : reachBytes < 200000000000000 := by decide
    have hb' : len ≤ reachBytes := by
      rw [List.length_map, hlen] at hs
      exact Nat.le_trans (Nat.le_trans (Nat.le_add_right _ _) (Nat.le_mul_of_pos_right _ hb)) hs
    have hall : ∀ k ∈ (DataW.slice (elems.map (·.1)) (rest.map (·.1))).weights P t, k ≤ reachBytes := fun k hk => by
      have := List.all_eq_true.1 hsz _ (DataW.weights_mem_each hj hd k hk)
      simpa using this
    have hx : ∀ i, i < len → ∃ x, Q x ∧ ∀ q, q < m → w.cell? (a.add (i * m + q)) = (g x)[q]? := fun i hi => by
      have hi2 := hel i hi
      rw [hc, List.getElem?_eq_getElem (by omega)] at hi2
      obtain ⟨cs, hcs, hy⟩ := Option.bind_eq_some_iff.1 hi2
      obtain ⟨x, hQ, rfl⟩ := hread n cs _ hy fun k hk => by
        refine hall k ?_
        simp only [DataW.weights, ht, List.mem_cons, List.mem_append]
        exact .inr (.inl (weights_all (List.mem_map.2 ⟨_, List.getElem_mem _, rfl⟩) k hk))
      refine ⟨x, hQ, fun q hq => ?_⟩
      obtain ⟨_, _, hcell⟩ := World.cells?_some hcs
      have := hcell q hq
      rwa [Addr.add_add] at this
    obtain ⟨l, hl, hR⟩ := choose_list len hx
    refine ⟨some a, l, cap, by rw [hl]; simpa [Value.cells] using h1, by omega, ?_, (fun h => by cases h), fun x hx => ?_⟩
    · refine SlAt.imm ⟨flat_len hg l, fun _ => rfl, fun q hq => ?_⟩
      have hm : 0 < m := Nat.pos_of_ne_zero fun e => by rw [e] at hq; simp at hq
      have hq2 : q = q / m * m + q % m := by rw [Nat.mul_comm]; exact (Nat.div_add_mod q m).symm
      have hqi : q / m < l.length := Nat.div_lt_of_lt_mul (by rw [Nat.mul_comm]; exact hq)
      have hqm := Nat.mod_lt q hm
      show w.cell? (a.add q) = _
      rw [hq2, flat_get hg l _ _ hqm, List.getElem?_eq_getElem hqi]
      exact (hR _ _ (List.getElem?_eq_getElem hqi)).2 _ hqm
    · obtain ⟨i, hi⟩ := List.getElem?_of_mem hx
      exact (hR i x hi).1
end
end Go.AX

/-
  A pick as it is read (argument).
-/
namespace Go.Proofs.YtjkchonpnocffaaGreatDoor
open Go.ChangeShapes Go.WideShapes Go.ChangeAt Go.RowKit Go.AX Go.Pack
set_option maxRecDepth 20000
theorem pick_read {H : Type} {enc : TypeId × Value → H} {w : World} : ∀ n cs (y : DataW H × List MemPlace), DataW.trod enc Tryz.prog w 0 (fun _ => true) true n 41 cs = some y → (∀ k ∈ y.1.weights Tryz.prog 41, k ≤ reachBytes) → ∃ x : PickV, (-9223372036854775808 ≤ x.int ∧ x.int < 9223372036854775808) ∧ cs = pickC x := by
  intro n cs y h _
  have cB : Tryz.prog.cellsOf 4 = 1 := by kernel_rfl
  have cI : Tryz.prog.cellsOf 3 = 1 := by kernel_rfl
  have cS : Tryz.prog.cellsOf 9 = 1 := by kernel_rfl
  have cP : Tryz.prog.cellsOf 41 = 5 := by kernel_rfl
  obtain ⟨xs, n', _, hx, hlen, hxl, hf⟩ := DataW.trod_struct Tryz.underlying41 h
  have h0 := hf 0 _ rfl
  have h1 := hf 1 _ rfl
  have h2 := hf 2 _ rfl
  have h3 := hf 3 _ rfl
  have h4 := hf 4 _ rfl
  match xs, hxl with
  | [y0, y1, y2, y3, y4], _ =>
    obtain ⟨k0, e0, _⟩ := DataW.trod_int Tryz.underlying3 h0
    obtain ⟨k1, e1, _⟩ := DataW.trod_int Tryz.underlying3 h1
    obtain ⟨k2, e2, _, hk2⟩ := DataW.trod_int Tryz.underlying3 h2
    obtain ⟨b, e3, _⟩ := DataW.trod_bool Tryz.underlying4 h3
    obtain ⟨s, e4, _⟩ := DataW.trod_string Tryz.underlying9 h4
    rw [cP] at hlen
    match cs, hlen with
    | [c0, c1, c2, c3, c4], _ =>
      have f0 : List.take (Tryz.prog.cellsOf 3) (List.drop 0 [c0, c1, c2, c3, c4]) = [.int .i64 k0] := e0
      have f1 : List.take (Tryz.prog.cellsOf 3) (List.drop 1 [c0, c1, c2, c3, c4]) = [.int .i64 k1] := e1
      have f2 : List.take (Tryz.prog.cellsOf 3) (List.drop 2 [c0, c1, c2, c3, c4]) = [.int .i64 k2] := e2
      have f3 : List.take (Tryz.prog.cellsOf 4) (List.drop 3 [c0, c1, c2, c3, c4]) = [.bool b] := e3
      have f4 : List.take (Tryz.prog.cellsOf 9) (List.drop 4 [c0, c1, c2, c3, c4]) = [.string s] := e4
      clear e0 e1 e2 e3 e4
      rw [cI] at f0 f1 f2
      rw [cB] at f3
      rw [cS] at f4
      simp at f0 f1 f2 f3 f4
      subst f0 f1 f2 f3 f4
      refine ⟨⟨k0, k1, k2, b, s.data.toList⟩, ?_, rfl⟩
      have hw : (decide (IntKind.i64.min ≤ k2) && decide (k2 ≤ IntKind.i64.max)) = true := hk2
      rw [Bool.and_eq_true, decide_eq_true_eq, decide_eq_true_eq] at hw
      have m1 : IntKind.i64.min = -9223372036854775808 := by decide
      have m2 : IntKind.i64.max = 9223372036854775807 := by decide
      rw [m1, m2] at hw
      exact ⟨hw.1, by have := hw.2; show k2 < _; omega⟩
end Go.Proofs.YtjkchonpnocffaaGreatDoor

/-
  PackFormsCardSaid is proved: of every list of picks and every bytes PackForms returns true and leaves its arguments as they were; the listed tables are tied to the program's text.
-/
namespace Go.Proofs.YtjkchonpnocffaaGreatDoor
open Go.ChangeShapes Go.WideShapes Go.ChangeAt Go.RowKit Go.AX
set_option maxRecDepth 100000

namespace PackForms
theorem own : ownKnob Tryz.prog.godebug = none := own0
theorem walk {H : Type} {enc : TypeId × Value → H} (W : World) (base : Nat) (args : Array Value) (ds : List (DataW H)) (p : List MemPlace) (k : Known enc Tryz.prog Tryz.f3 W base args ds p) (_hL : laidMetH Tryz.prog laid3 W) : Walk Tryz.prog 3 args W := by
  obtain ⟨u, v, rfl⟩ := arr2 (trodAll_len k.trod).2
  obtain ⟨d, q, hd, h⟩ := trodAll_get k.trod 0 _ u rfl rfl
  obtain ⟨a, l, cap, rfl, _, hsl, ha, hQ⟩ := known_rows (e := 41) (m := 5) pickC (fun _ => rfl) Tryz.underlying22 (by kernel_rfl) (by decide +kernel) pick_read k.weights rfl hd (k.val 0 _ u rfl rfl) h
  obtain ⟨t, rfl, ht⟩ := k.low.string 1 rfl rfl (by kernel_rfl)
  have hia : l ≠ [] → a.isSome = true := fun hn => by
    cases a with
    | none => exact absurd (ha rfl) hn
    | some _ => rfl
  exact walkH [.fact fun w => UtfF w ∧ PicksF a l w] (fun _ he => ⟨_, List.mem_singleton.1 he, (utf_imm (utf_of k.shaped _hL)).and hsl⟩) (PackForms_c a l cap t.data.toList hia hQ ht _ fun w hw => hw.1)

theorem lifted (os : Os) (started : os.Started) (H : Type) (enc : TypeId × Value → H) :
    ReturnsInHanded {} Tryz.checked os 3 .any (fun w args => (Rows.packFormsSpec.pre enc Tryz.prog Tryz.f3 [] false w args ∧ laidMetH Tryz.prog laid3 w) ∧ sizedMet enc Tryz.prog Tryz.f3 (OpenSpec.ofChange Rows.packFormsSpec) false w args) (Rows.packFormsSpec.post enc Tryz.prog Tryz.f3 false true false false) := by
  refine liftS (C := Tryz.checked) own started (by kernel_rfl) Tryz.func3
    (ChangeSpec.witness_shaped (enc := enc) (C := Tryz.checked) (os := os) (X := fun w _ => laidMetH Tryz.prog laid3 w) false (World.laidAll Tryz.prog os laid3) #[.slice none 0 0, .string ⟨#[]⟩] 8 (World.laidAll_os _ _ _) (World.shaped_of_ZipB (by kernel_rfl) (by kernel_rfl)) (by kernel_rfl) (by kernel_rfl) (by kernel_rfl) (door_met os _))
    laidOut rfl (t := _) rfl (by kernel_rfl) (by kernel_rfl) ?_ walk
  intro ds hd
  match ds, hd with
  | [d0, d1], _ => rfl

theorem over : Rows.packFormsRow.holds Tryz.pinned (OpenSpec.ofChange Rows.packFormsSpec) :=
  OpenClaim.holds_of_wide 3 Tryz.f3 rfl rfl rfl rfl rfl rfl rfl ⟨rfl, rfl, rfl, rfl, rfl⟩ rfl rfl rfl rfl rfl (by kernel_rfl) Tryz.func3 (by kernel_rfl)
    (of_decide_eq_true (by kernel_rfl)) (by unfold Func.isWrapper; first | (rw [if_pos (by decide +kernel)]; kernel_rfl) | (rw [if_neg (by decide +kernel)]; exact ⟨rfl, rfl⟩))
    (fun os started H enc _ => lifted os started H enc)

theorem proved : Rows.PackFormsCardSaid :=
  Claim7.holds_tied_plain_at .later [] [.data, .pinned] true (true, "9ebfc7118d1e03e10fa170231eab694a75213bbcb41f3f5fc3a34e483bac484b") false
    over (fun _ h => by cases h) (by kernel_rfl) (fun _ h => by cases h) packForms_row_tie rfl ⟨rfl, rfl⟩ (by kernel_rfl) rfl
    (fun f fn hf hfn => by
      obtain rfl : f = 3 := Option.some.inj ((show Tryz.prog.funcNamed "cabochon/cabochonlaw03.PackForms" = some 3 by kernel_rfl).symm.trans hf) |>.symm
      obtain rfl : fn = Tryz.f3 := (Option.some.inj (Tryz.func3.symm.trans hfn)).symm
      exact ⟨by kernel_rfl, fun j t ht => by
        have hm : t ∈ Tryz.f3.params.toList := by simpa using Array.mem_of_getElem? ht
        have hall : (Tryz.f3.params.toList.all fun u => !Tryz.prog.wantsStandIn u) = true := by kernel_rfl
        exact (show Tryz.prog.wantsStandIn t = false by simpa using List.all_eq_true.1 hall t hm)⟩)
    (by kernel_rfl)
#print axioms proved
end PackForms
end Go.Proofs.YtjkchonpnocffaaGreatDoor
