/-
  Lemmas (C10 P11 C11 C12 C13 C14 P12 C15 P13 C16 P14 C17 C18).
-/
import Derived.Test.YtjkchonpnocffaaGreatDoorMf4
/-
  Contract: a number is written (program).
-/
namespace Go.Proofs.YtjkchonpnocffaaGreatDoor
open Go.AX Go.RowKit Go.Pack
set_option maxRecDepth 20000

/-- Bytes and no error, or an error. -/
def WrR (r : Except Int (List UInt8)) (v : Value) (G : World → Prop) : Prop := match r with
  | .error e => v = .tuple #[.slice none 0 0, .int .i64 e]
  | .ok l => ∃ x, v = .tuple #[x, .int .i64 0] ∧ BytesR l x G
theorem ValidRune_c (z : Int) : ∀ H, SpecH Tryz.prog 73 (pvs [.int .i32 z]) H (Ret (.bool (Lib.validRune z)) H) := fun H =>
  SpecH.rawP (R := fun r => r = .bool (Lib.validRune z)) (callOk Tryz.func73 (by kernel_rfl) rfl)
    (fun w _ => (Tryz.utf8_ValidRune z w).mono fun e w' ⟨he, hw⟩ => ⟨_, he, rfl, by subst hw; exact Below.refl _ _⟩) fun r hr => by subst hr; exact ⟨rfl, rfl⟩
theorem number_w (b : Bool) (k n : Int) (hn : -9223372036854775808 ≤ n ∧ n < 9223372036854775808) : SpecF Tryz.prog 49 [dirV ⟨119, b, k⟩, .int .i64 n] (fun _ => True) (WrR (numS ⟨119, b, k⟩ n)) := by
  have hN : numS ⟨119, b, k⟩ n = if n < 0 then .error 5 else .ok (sevens n.toNat) := rfl
  refine specF hm Tryz.func49 (by kernel_rfl) rfl rfl ?_
  (first | refine wX ?_ | exact wZ)
  refine brd_dec (fun h1 => ?_) (fun h1 => ?_)
  · rw [hN, if_pos h1]
    (first | refine wX ?_ | exact wZ)
    exact fin_v rfl
  · rw [hN, if_neg h1]
    have hs := sevens_c n.toNat (by omega)
    rw [show ((n.toNat : Nat) : Int) = n by omega] at hs
    (first | refine wX ?_ | exact wZ)
    refine SpecF.call hs (fun w _ => trivial) fun v G hR => ?_
    obtain ⟨ob, cap, rfl, h5, h6⟩ := hR
    (first | refine wX ?_ | exact wZ)
    exact fin_p G ⟨_, rfl, ob, cap, rfl, h5, h6⟩ (fun w hw => hw.2.1)
theorem number_U (b : Bool) (k n : Int) (hn : -9223372036854775808 ≤ n ∧ n < 9223372036854775808) : SpecF Tryz.prog 49 [dirV ⟨85, b, k⟩, .int .i64 n] (fun _ => True) (WrR (numS ⟨85, b, k⟩ n)) := by
  have hN : numS ⟨85, b, k⟩ n = if rune n then .ok (utf n.toNat) else .error 5 := rfl
  have hw : 0 ≤ n → n ≤ 1114111 → IntKind.i32.wrap n = n := fun h1 h2 => by
    have e : IntKind.i32.wrap n = if n % 4294967296 ≥ 2147483648 then n % 4294967296 - 4294967296 else n % 4294967296 := by
      simp [IntKind.wrap, IntKind.bits, IntKind.signed]
    rw [e, if_neg (by omega)]
    omega
  refine specF hm Tryz.func49 (by kernel_rfl) rfl rfl ?_
  (first | refine wX ?_ | exact wZ)
  refine brd_dec (fun h1 => ?_) (fun h1 => ?_)
  · rw [hN, if_neg (by unfold rune; rw [decide_eq_false (by omega)]; simp)]
    (first | refine wX ?_ | exact wZ)
    exact fin_v rfl
  · (first | refine wX ?_ | exact wZ)
    refine brd_dec (fun h2 => ?_) (fun h2 => ?_)
    · rw [hN, if_neg (by unfold rune; rw [decide_eq_false (show ¬ n ≤ 1114111 by omega)]; simp)]
      (first | refine wX ?_ | exact wZ)
      exact fin_v rfl
    · have hw := hw (by omega) (by omega)
      (first | refine wX ?_ | exact wZ)
      rw [hw]
      refine call1 (ValidRune_c n _) ?_
      have hv : Lib.validRune n = rune n := by
        unfold Lib.validRune rune
        rw [Bool.eq_iff_iff]
        simp only [decide_eq_true_eq, Bool.and_eq_true, Bool.or_eq_true]
        omega
      (first | refine wX ?_ | exact wZ)
      rw [hv]
      cases hr : rune n with
      | false =>
        rw [hN, hr]
        (first | refine wX ?_ | exact wZ)
        exact fin_v rfl
      | true =>
        rw [hN, hr]
        (first | refine wX ?_ | exact wZ)
        rw [hw]
        refine SpecF.call (AppendRune_c n n.toNat (by omega) (by rw [show ((n.toNat : Nat) : Int) = n by omega]; exact hr)) (fun w _ => trivial) fun v G hR => ?_
        obtain ⟨ob, cap, rfl, h5, h6⟩ := hR
        (first | refine wX ?_ | exact wZ)
        exact fin_p G ⟨_, rfl, ob, cap, rfl, h5, h6⟩ (fun w hw => hw.2.1)
end Go.Proofs.YtjkchonpnocffaaGreatDoor

/-
  Plain Lean: a number of a fixed size, byte by byte.
-/
namespace Go.Pack
theorem le_len : ∀ (k : Nat) (n : Int), (le k n).length = k
  | 0, _ => rfl
  | k + 1, n => by simp [le, le_len k]
theorem le_get : ∀ (k : Nat) (n : Int) (i : Nat), i < k → (le k n)[i]? = some (UInt8.ofNat (n / 256 ^ i % 256).toNat)
  | 0, _, _, h => absurd h (Nat.not_lt_zero _)
  | k + 1, n, 0, _ => by simp [le]
  | k + 1, n, i + 1, h => by
    have := le_get k (n / 256) i (by omega)
    unfold le
    rw [List.getElem?_cons_succ, this]
    congr 3
    rw [Int.pow_succ', Int.ediv_ediv_of_nonneg (by omega)]
/-- The first i bytes are written. -/
def fl (k : Nat) (n : Int) (i : Nat) : B := (le k n).take i ++ List.replicate (k - i) 0
theorem fl_len (k : Nat) (n : Int) (i : Nat) (h : i ≤ k) : (fl k n i).length = k := by simp [fl, le_len]; omega
theorem fl_end (k : Nat) (n : Int) : fl k n k = le k n := by
  unfold fl
  rw [List.take_of_length_le (by rw [le_len]; exact Nat.le_refl _), Nat.sub_self]
  simp
theorem fl_set (k : Nat) (n : Int) (i : Nat) (h : i < k) : (fl k n i).set i (UInt8.ofNat (n / 256 ^ i % 256).toNat) = fl k n (i + 1) := by
  have hg := le_get k n i h
  unfold fl
  have hl : ((le k n).take i).length = i := by simp [le_len]; omega
  rw [List.set_append_right _ _ (by omega), hl, Nat.sub_self, List.take_add_one, hg]
  obtain ⟨m, hm⟩ : ∃ m, k - i = m + 1 := ⟨k - i - 1, by omega⟩
  rw [hm, show k - (i + 1) = m by omega]
  simp [List.replicate_succ]
end Go.Pack

/-
  Contract: a number of a fixed size is written (program).
-/
namespace Go.Proofs.YtjkchonpnocffaaGreatDoor
open Go.AX Go.RowKit Go.Pack
set_option maxRecDepth 20000

theorem sz_le (c : UInt8) : sz c ≤ 8 := by
  unfold sz
  split
  · omega
  split
  · omega
  split
  · omega
  split <;> omega
theorem byte_at (n : Int) (i : Nat) (hi : i < 8) : IntKind.u8.wrap (n.fdiv (2 ^ min (8 * (i : Int)).toNat IntKind.i64.bits)) = ((UInt8.ofNat (n / 256 ^ i % 256).toNat).toNat : Int) := by
  rw [show min (8 * (i : Int)).toNat IntKind.i64.bits = 8 * i by show min _ 64 = _; omega, Int.pow_mul, show (2 : Int) ^ 8 = 256 from rfl, Int.fdiv_eq_ediv_of_nonneg _ (Int.pow_nonneg (by omega)), wrap_u8_eq]
  have h1 := Int.emod_nonneg (n / 256 ^ i) (show (256 : Int) ≠ 0 by omega)
  have h2 := Int.emod_lt_of_pos (n / 256 ^ i) (show (0 : Int) < 256 by omega)
  rw [ofNat_int (by omega)]
  omega
theorem number_z (c : UInt8) (b : Bool) (k n : Int) (h : sz c ≠ 0) : SpecF Tryz.prog 49 [dirV ⟨c, b, k⟩, .int .i64 n] (fun _ => True) (WrR (numS ⟨c, b, k⟩ n)) := by
  have hc := sz_cases h
  have h119 : ((c.toNat : Int) == 119) = false := by rcases hc with rfl | rfl | rfl | rfl | rfl | rfl | rfl | rfl | rfl | rfl <;> rfl
  have h85 : ((c.toNat : Int) == 85) = false := by rcases hc with rfl | rfl | rfl | rfl | rfl | rfl | rfl | rfl | rfl | rfl <;> rfl
  have hN : numS ⟨c, b, k⟩ n = if fit c n then .ok (if hi ⟨c, b, k⟩ then (le (sz c) n).reverse else le (sz c) n) else .error 5 := by
    rcases hc with rfl | rfl | rfl | rfl | rfl | rfl | rfl | rfl | rfl | rfl <;> rfl
  have h8 := sz_le c
  refine specF hm Tryz.func49 (by kernel_rfl) rfl rfl ?_
  (first | refine wX ?_ | exact wZ)
  rw [h119]
  (first | refine wX ?_ | exact wZ)
  rw [h85]
  (first | refine wX ?_ | exact wZ)
  refine call1 (fits_c c b k n h _) ?_
  (first | refine wX ?_ | exact wZ)
  cases hf : fit c n with
  | false =>
    rw [hN, hf]
    (first | refine wX ?_ | exact wZ)
    exact fin_v rfl
  | true =>
    rw [hN, hf]
    (first | refine wX ?_ | exact wZ)
    refine call1 (bytes_c ⟨c, b, k⟩ _) ?_
    generalize hk : sz c = m at *
    (first | refine wX ?_ | exact wZ)
    refine EffW.mkBytes (e := 5) m rfl (by kernel_rfl) (by kernel_rfl) rfl rfl (by omega) fun bb => ?_
    (first | refine wX ?_ | exact wZ)
    refine LoopN.intro Nat (fun i => i ≤ m)
      (fun i => mkS Tryz.f49.ntmps 0 [(1, .c (.v (.int .i64 n))), (2, .c (.lp 1 0)), (6, .c (.v (.slice (some ⟨bb, 0, none⟩) m m))), (44, .c (.v (.int .i64 (m : Int)))), (45, .c (.v (.int .i64 (i : Int))))])
      (fun i => [.fact fun _ => True, .blk 58 [.v (.int .u8 (c.toNat : Int)), .v (.bool b), .v (.int .i64 k)], .app 5 1 (u8s (fl m n i)) (some ⟨bb, 0, none⟩) m m]) (fun i => m - i) [] rfl
      (fun _ => rfl) (fun _ => rfl) (fun _ _ => okHB_eq rfl) ⟨0, Nat.zero_le _, ?_, ?_⟩ ?_
    · (repeat' (first | exact trivial | refine And.intro (by with_reducible rfl) ?_ | (with_reducible exact wkC_refl _) | (with_reducible exact wkCs_refl _) | refine And.intro ?_ ?_))
      all_goals rfl
    · exact ⟨wkE_refl _, wkE_refl _, by rw [show u8s (fl m n 0) = List.replicate m (.int .u8 0) by simp [fl, u8s]]; exact wkE_refl _, wkH_nil _⟩
    intro i hi
    (first | refine wX ?_ | exact wZ)
    refine brd_dec (fun h1 => ?_) (fun h1 => ?_)
    · have hi8 : i = 0 ∨ i = 1 ∨ i = 2 ∨ i = 3 ∨ i = 4 ∨ i = 5 ∨ i = 6 ∨ i = 7 := by omega
      rcases hi8 with rfl | rfl | rfl | rfl | rfl | rfl | rfl | rfl
      · (first | refine wX ?_ | exact wZ)
        refine Nd.mk ⟨rfl, by omega, by omega⟩ ?_
        (first | refine wX ?_ | exact wZ)
        refine EffW.appTo (i := 2) (q := 0) (ys := [_]) (u8s (fl m n (0 + 1))) 1 rfl (ptr_lit rfl rfl) rfl rfl rfl rfl rfl (by show 0 + 1 ≤ m * 1; omega) (by
          show (u8s (fl m n 0)).take 0 ++ [Value.int .u8 (IntKind.u8.wrap (n.fdiv (2 ^ min (8 * ((0 : Nat) : Int)).toNat IntKind.i64.bits)))] ++ (u8s (fl m n 0)).drop (0 + 1) = _
          rw [byte_at n 0 (by omega), u8s_put _ (by rw [fl_len m n 0 hi]; omega), fl_set m n 0 (by omega)]) rfl ?_
        (first | refine wX ?_ | exact wZ)
        refine ⟨0 + 1, by omega, by omega, ?_, by (repeat' (first | exact trivial | exact wkE_refl _ | refine And.intro ?_ ?_))⟩
        (repeat' (first | exact trivial | refine And.intro (by with_reducible rfl) ?_ | (with_reducible exact wkC_refl _) | (with_reducible exact wkCs_refl _) | refine And.intro ?_ ?_))
        all_goals rfl
      · (first | refine wX ?_ | exact wZ)
        refine Nd.mk ⟨rfl, by omega, by omega⟩ ?_
        (first | refine wX ?_ | exact wZ)
        refine EffW.appTo (i := 2) (q := 1) (ys := [_]) (u8s (fl m n (1 + 1))) 1 rfl (ptr_lit rfl rfl) rfl rfl rfl rfl rfl (by show 1 + 1 ≤ m * 1; omega) (by
          show (u8s (fl m n 1)).take 1 ++ [Value.int .u8 (IntKind.u8.wrap (n.fdiv (2 ^ min (8 * ((1 : Nat) : Int)).toNat IntKind.i64.bits)))] ++ (u8s (fl m n 1)).drop (1 + 1) = _
          rw [byte_at n 1 (by omega), u8s_put _ (by rw [fl_len m n 1 hi]; omega), fl_set m n 1 (by omega)]) rfl ?_
        (first | refine wX ?_ | exact wZ)
        refine ⟨1 + 1, by omega, by omega, ?_, by (repeat' (first | exact trivial | exact wkE_refl _ | refine And.intro ?_ ?_))⟩
        (repeat' (first | exact trivial | refine And.intro (by with_reducible rfl) ?_ | (with_reducible exact wkC_refl _) | (with_reducible exact wkCs_refl _) | refine And.intro ?_ ?_))
        all_goals rfl
      · (first | refine wX ?_ | exact wZ)
        refine Nd.mk ⟨rfl, by omega, by omega⟩ ?_
        (first | refine wX ?_ | exact wZ)
        refine EffW.appTo (i := 2) (q := 2) (ys := [_]) (u8s (fl m n (2 + 1))) 1 rfl (ptr_lit rfl rfl) rfl rfl rfl rfl rfl (by show 2 + 1 ≤ m * 1; omega) (by
          show (u8s (fl m n 2)).take 2 ++ [Value.int .u8 (IntKind.u8.wrap (n.fdiv (2 ^ min (8 * ((2 : Nat) : Int)).toNat IntKind.i64.bits)))] ++ (u8s (fl m n 2)).drop (2 + 1) = _
          rw [byte_at n 2 (by omega), u8s_put _ (by rw [fl_len m n 2 hi]; omega), fl_set m n 2 (by omega)]) rfl ?_
        (first | refine wX ?_ | exact wZ)
        refine ⟨2 + 1, by omega, by omega, ?_, by (repeat' (first | exact trivial | exact wkE_refl _ | refine And.intro ?_ ?_))⟩
        (repeat' (first | exact trivial | refine And.intro (by with_reducible rfl) ?_ | (with_reducible exact wkC_refl _) | (with_reducible exact wkCs_refl _) | refine And.intro ?_ ?_))
        all_goals rfl
      · (first | refine wX ?_ | exact wZ)
        refine Nd.mk ⟨rfl, by omega, by omega⟩ ?_
        (first | refine wX ?_ | exact wZ)
        refine EffW.appTo (i := 2) (q := 3) (ys := [_]) (u8s (fl m n (3 + 1))) 1 rfl (ptr_lit rfl rfl) rfl rfl rfl rfl rfl (by show 3 + 1 ≤ m * 1; omega) (by
          show (u8s (fl m n 3)).take 3 ++ [Value.int .u8 (IntKind.u8.wrap (n.fdiv (2 ^ min (8 * ((3 : Nat) : Int)).toNat IntKind.i64.bits)))] ++ (u8s (fl m n 3)).drop (3 + 1) = _
          rw [byte_at n 3 (by omega), u8s_put _ (by rw [fl_len m n 3 hi]; omega), fl_set m n 3 (by omega)]) rfl ?_
        (first | refine wX ?_ | exact wZ)
        refine ⟨3 + 1, by omega, by omega, ?_, by (repeat' (first | exact trivial | exact wkE_refl _ | refine And.intro ?_ ?_))⟩
        (repeat' (first | exact trivial | refine And.intro (by with_reducible rfl) ?_ | (with_reducible exact wkC_refl _) | (with_reducible exact wkCs_refl _) | refine And.intro ?_ ?_))
        all_goals rfl
      · (first | refine wX ?_ | exact wZ)
        refine Nd.mk ⟨rfl, by omega, by omega⟩ ?_
        (first | refine wX ?_ | exact wZ)
        refine EffW.appTo (i := 2) (q := 4) (ys := [_]) (u8s (fl m n (4 + 1))) 1 rfl (ptr_lit rfl rfl) rfl rfl rfl rfl rfl (by show 4 + 1 ≤ m * 1; omega) (by
          show (u8s (fl m n 4)).take 4 ++ [Value.int .u8 (IntKind.u8.wrap (n.fdiv (2 ^ min (8 * ((4 : Nat) : Int)).toNat IntKind.i64.bits)))] ++ (u8s (fl m n 4)).drop (4 + 1) = _
          rw [byte_at n 4 (by omega), u8s_put _ (by rw [fl_len m n 4 hi]; omega), fl_set m n 4 (by omega)]) rfl ?_
        (first | refine wX ?_ | exact wZ)
        refine ⟨4 + 1, by omega, by omega, ?_, by (repeat' (first | exact trivial | exact wkE_refl _ | refine And.intro ?_ ?_))⟩
        (repeat' (first | exact trivial | refine And.intro (by with_reducible rfl) ?_ | (with_reducible exact wkC_refl _) | (with_reducible exact wkCs_refl _) | refine And.intro ?_ ?_))
        all_goals rfl
      · (first | refine wX ?_ | exact wZ)
        refine Nd.mk ⟨rfl, by omega, by omega⟩ ?_
        (first | refine wX ?_ | exact wZ)
        refine EffW.appTo (i := 2) (q := 5) (ys := [_]) (u8s (fl m n (5 + 1))) 1 rfl (ptr_lit rfl rfl) rfl rfl rfl rfl rfl (by show 5 + 1 ≤ m * 1; omega) (by
          show (u8s (fl m n 5)).take 5 ++ [Value.int .u8 (IntKind.u8.wrap (n.fdiv (2 ^ min (8 * ((5 : Nat) : Int)).toNat IntKind.i64.bits)))] ++ (u8s (fl m n 5)).drop (5 + 1) = _
          rw [byte_at n 5 (by omega), u8s_put _ (by rw [fl_len m n 5 hi]; omega), fl_set m n 5 (by omega)]) rfl ?_
        (first | refine wX ?_ | exact wZ)
        refine ⟨5 + 1, by omega, by omega, ?_, by (repeat' (first | exact trivial | exact wkE_refl _ | refine And.intro ?_ ?_))⟩
        (repeat' (first | exact trivial | refine And.intro (by with_reducible rfl) ?_ | (with_reducible exact wkC_refl _) | (with_reducible exact wkCs_refl _) | refine And.intro ?_ ?_))
        all_goals rfl
      · (first | refine wX ?_ | exact wZ)
        refine Nd.mk ⟨rfl, by omega, by omega⟩ ?_
        (first | refine wX ?_ | exact wZ)
        refine EffW.appTo (i := 2) (q := 6) (ys := [_]) (u8s (fl m n (6 + 1))) 1 rfl (ptr_lit rfl rfl) rfl rfl rfl rfl rfl (by show 6 + 1 ≤ m * 1; omega) (by
          show (u8s (fl m n 6)).take 6 ++ [Value.int .u8 (IntKind.u8.wrap (n.fdiv (2 ^ min (8 * ((6 : Nat) : Int)).toNat IntKind.i64.bits)))] ++ (u8s (fl m n 6)).drop (6 + 1) = _
          rw [byte_at n 6 (by omega), u8s_put _ (by rw [fl_len m n 6 hi]; omega), fl_set m n 6 (by omega)]) rfl ?_
        (first | refine wX ?_ | exact wZ)
        refine ⟨6 + 1, by omega, by omega, ?_, by (repeat' (first | exact trivial | exact wkE_refl _ | refine And.intro ?_ ?_))⟩
        (repeat' (first | exact trivial | refine And.intro (by with_reducible rfl) ?_ | (with_reducible exact wkC_refl _) | (with_reducible exact wkCs_refl _) | refine And.intro ?_ ?_))
        all_goals rfl
      · (first | refine wX ?_ | exact wZ)
        refine Nd.mk ⟨rfl, by omega, by omega⟩ ?_
        (first | refine wX ?_ | exact wZ)
        refine EffW.appTo (i := 2) (q := 7) (ys := [_]) (u8s (fl m n (7 + 1))) 1 rfl (ptr_lit rfl rfl) rfl rfl rfl rfl rfl (by show 7 + 1 ≤ m * 1; omega) (by
          show (u8s (fl m n 7)).take 7 ++ [Value.int .u8 (IntKind.u8.wrap (n.fdiv (2 ^ min (8 * ((7 : Nat) : Int)).toNat IntKind.i64.bits)))] ++ (u8s (fl m n 7)).drop (7 + 1) = _
          rw [byte_at n 7 (by omega), u8s_put _ (by rw [fl_len m n 7 hi]; omega), fl_set m n 7 (by omega)]) rfl ?_
        (first | refine wX ?_ | exact wZ)
        refine ⟨7 + 1, by omega, by omega, ?_, by (repeat' (first | exact trivial | exact wkE_refl _ | refine And.intro ?_ ?_))⟩
        (repeat' (first | exact trivial | refine And.intro (by with_reducible rfl) ?_ | (with_reducible exact wkC_refl _) | (with_reducible exact wkCs_refl _) | refine And.intro ?_ ?_))
        all_goals rfl
    · have him : i = m := by omega
      subst him
      rw [fl_end]
      (first | refine wX ?_ | exact wZ)
      refine call1 (high_c ⟨c, b, k⟩ _) ?_
      cases hh : Go.Pack.hi ⟨c, b, k⟩ with
      | true =>
        have hR := Reverse_c (le i n) bb i (by rw [le_len]; omega)
        have e1 : own (le i n) bb i = .app 5 1 (u8s (le i n)) (some ⟨bb, 0, none⟩) i i := by unfold own; rw [le_len]
        have e2 : own (le i n).reverse bb i = .app 5 1 (u8s (le i n).reverse) (some ⟨bb, 0, none⟩) i i := by unfold own; rw [List.length_reverse, le_len]
        rw [le_len, e1, e2] at hR
        (first | refine wX ?_ | exact wZ)
        refine callG hR [2] rfl ⟨rfl, trivial⟩ rfl fun _ _ => ?_
        (first | refine wX ?_ | exact wZ)
        exact fin_p (SlAt (some ⟨bb, 0, none⟩) (i * 1) (u8s (le i n).reverse)) ⟨_, rfl, bytesR_cells (by rw [if_pos rfl, List.length_reverse, le_len]) rfl⟩ (fun w hw => hw.2.1)
      | false =>
        (first | refine wX ?_ | exact wZ)
        exact fin_p (SlAt (some ⟨bb, 0, none⟩) (i * 1) (u8s (le i n))) ⟨_, rfl, bytesR_cells (by rw [if_neg (by simp), le_len]) rfl⟩ (fun w hw => hw.2.1)
end Go.Proofs.YtjkchonpnocffaaGreatDoor

/-
  Contracts: a number is written; a hex digit (program).
-/
namespace Go.Proofs.YtjkchonpnocffaaGreatDoor
open Go.AX Go.RowKit Go.Pack
set_option maxRecDepth 20000

theorem letter_num {c : UInt8} (hl : letters.contains c = true) (hs : isStr c = false) (hp : isPl c = false) : c = 119 ∨ c = 85 ∨ sz c ≠ 0 := by
  simp [letters] at hl
  rcases hl with rfl | rfl | rfl | rfl | rfl | rfl | rfl | rfl | rfl | rfl | rfl | rfl | rfl | rfl | rfl | rfl | rfl | rfl
  all_goals first | (exact .inl rfl) | (exact .inr (.inl rfl)) | (exact .inr (.inr (by decide))) | (cases hs; done) | (cases hp; done)
theorem number_c (d : Dir) (n : Int) (hn : -9223372036854775808 ≤ n ∧ n < 9223372036854775808) (hl : letters.contains d.letter = true) (hs : isStr d.letter = false) (hp : isPl d.letter = false) :
    SpecF Tryz.prog 49 [dirV d, .int .i64 n] (fun _ => True) (WrR (numS d n)) := by
  obtain ⟨c, b, k⟩ := d
  rcases letter_num hl hs hp with h | h | h
  · have h : c = 119 := h
    subst h
    exact number_w b k n hn
  · have h : c = 85 := h
    subst h
    exact number_U b k n hn
  · exact number_z c b k n h
/-- What digit gives. -/
theorem hex_idx : ∀ c : Fin 256, Lib.indexByte [48, 49, 50, 51, 52, 53, 54, 55, 56, 57, 97, 98, 99, 100, 101, 102] (UInt8.ofNat c.val) = match hexV (UInt8.ofNat c.val) with | some x => (x : Int) | none => -1 := by decide +kernel
theorem hex_index (c : UInt8) : Lib.indexByte [48, 49, 50, 51, 52, 53, 54, 55, 56, 57, 97, 98, 99, 100, 101, 102] c = match hexV c with | some x => (x : Int) | none => -1 := by
  have := hex_idx ⟨c.toNat, c.toNat_lt⟩
  simpa using this
theorem hexV_lt {c : UInt8} {x : Nat} (h : hexV c = some x) : x < 16 := by
  unfold hexV at h
  split at h
  · rename_i h1
    simp at h1
    have h2 : c.toNat ≤ 57 := by have := UInt8.le_iff_toNat_le.1 h1.2; simpa using this
    cases h
    omega
  · split at h
    · rename_i h1
      simp at h1
      have h2 : c.toNat ≤ 102 := by have := UInt8.le_iff_toNat_le.1 h1.2; simpa using this
      cases h
      omega
    · cases h
theorem digit_c (c : UInt8) : ∀ H, SpecH Tryz.prog 92 (pvs [.int .u8 (c.toNat : Int)]) H (Ret (match hexV c with | some x => .tuple #[.int .u8 (x : Int), .bool true] | none => .tuple #[.int .u8 0, .bool false]) H) := by
  refine pureC hm Tryz.func92 (by kernel_rfl) rfl rfl ?_
  (first | refine wX ?_ | exact wZ)
  refine call1 (IndexByte_c [48, 49, 50, 51, 52, 53, 54, 55, 56, 57, 97, 98, 99, 100, 101, 102] c _) ?_
  rw [hex_index]
  cases hv : hexV c with
  | none =>
    (first | refine wX ?_ | exact wZ)
    rfl
  | some x =>
    have hx := hexV_lt hv
    (first | refine wX ?_ | exact wZ)
    show Out.val (.c (.v (.tuple #[.int .u8 (IntKind.u8.wrap (maxI (x : Int) 0)), .bool (decide ((x : Int) ≥ 0))]))) = _
    rw [show maxI (x : Int) 0 = x by unfold maxI; split <;> omega, wrap_u8 (by omega), decide_eq_true (by omega)]
end Go.Proofs.YtjkchonpnocffaaGreatDoor

/-
  Contract: hex digits are written (program).
-/
namespace Go.Proofs.YtjkchonpnocffaaGreatDoor
open Go.AX Go.RowKit Go.Pack
set_option maxRecDepth 20000

theorem repeatL_one (c : Nat) : Lib.repeatL [48] c = List.replicate c 48 := by
  induction c with
  | zero => rfl
  | succ c ih =>
    show [48] ++ Lib.repeatL [48] c = _
    rw [ih]
    rfl
theorem Repeat0_c (c : Nat) (hc : c ≤ 200001) : ∀ H, SpecH Tryz.prog 91 (pvs [.string ⟨#[48]⟩, .int .i64 c]) H (Ret (.string (bs (List.replicate c 48))) H) := fun H =>
  SpecH.rawP (R := fun r => r = .string (bs (List.replicate c 48))) (callOk Tryz.func91 (by kernel_rfl) rfl) (fun w hw => (Tryz.strings_Repeat ⟨#[48]⟩ c w (by omega) (by simp [ByteArray.size]; omega)).mono fun e w' ⟨he, bel⟩ => ⟨_, he, by rw [← repeatL_one]; rfl, bel⟩) fun r hr => by subst hr; exact ⟨rfl, rfl⟩
set_option maxHeartbeats 1000000 in
theorem hex_c (d : Dir) (s : List UInt8) (hs : s.length ≤ 140737488351232) (hd : 0 ≤ d.count ∧ d.count ≤ 1000 ∨ d.count = -1 ∨ d.count = -2) : SpecF Tryz.prog 71 [dirV d, .string (bs s)] (fun _ => True) (WrR (hexS (cntS d s.length) s)) := by
  have hz := bs_size s
  refine specF hm Tryz.func71 (by kernel_rfl) rfl rfl ?_
  (first | refine wX ?_ | exact wZ)
  refine brd_eq (fun h1 => ?_) (fun h1 => ?_)
  · have hk : d.count = -2 := by simpa using h1
    have hn : cntS d s.length = 1 := by unfold cntS; rw [if_pos hk]
    rw [hn]
    -- 1: how many digits
    (first | refine wX ?_ | exact wZ)
    refine ReadW.sl_h (min 1 s.length) rfl Tryz.underlying9 rfl rfl ⟨by (show minI 1 _ = _); (first | rw [hz] | skip); (unfold minI); (split <;> omega), Nat.min_le_right _ _⟩ ?_
    rw [← List.take_eq_take_min]
    have hlt : (s.take 1).length = min 1 s.length := List.length_take
    have ht : Int.tmod 1 2 = ((1 % 2 : Nat) : Int) := (Int.ofNat_tmod 1 2).symm
    have harg : IntKind.i64.wrap (IntKind.i64.wrap (1 - ((bs (s.take 1)).size : Int)) + Int.tmod 1 2) = ((1 - s.length + 1 % 2 : Nat) : Int) := by
      rw [bs_size, hlt, ht, wrap_i64 (x := 1 - ((min 1 s.length : Nat) : Int)) (by omega), wrap_i64 (by omega)]
      try omega
    (first | refine wX ?_ | exact wZ)
    rw [harg]
    refine call1 (Repeat0_c (1 - s.length + 1 % 2) (by omega) _) ?_
    (first | refine wX ?_ | exact wZ)
    refine Nd.mk (by rw [bs_size, bs_size, hlt, List.length_replicate]; omega) ?_
    rw [bs_app]
    have hT : s.take 1 ++ List.replicate (1 - s.length + 1 % 2) 48 = hexT 1 s := rfl
    have hTl : (hexT 1 s).length = 1 + 1 % 2 := by rw [← hT]; simp; try omega
    unfold hexS
    rw [hT]
    generalize hexT 1 s = T at *
    have hzT := bs_size T
    (first | refine wX ?_ | exact wZ)
    refine LoopN.intro (List UInt8 × Nat × Option Nat × Nat) (fun ⟨l, j, ob, cap⟩ => 2 * j ≤ T.length ∧ (hexP (T.drop (2 * j))).map (l ++ ·) = hexP T ∧ (ob = none → l = [] ∧ cap = 0) ∧ l.length = j)
      (fun ⟨l, j, ob, cap⟩ => mkS Tryz.f71.ntmps 0 [(1, .c (.v (.string (bs T)))), (7, .c (.v (.slice (at0 ob) l.length cap))), (8, .c (.v (.int .i64 ((2 * j : Nat) : Int))))])
      (fun ⟨l, _, ob, cap⟩ => [.fact fun _ => True, .blk 58 [.v (.int .u8 (d.letter.toNat : Int)), .v (.bool d.big), .v (.int .i64 d.count)], .app 5 1 (u8s l) (at0 ob) l.length cap]) (fun ⟨_, j, _, _⟩ => T.length - 2 * j) [.app 0 0 [] none 0 0] rfl
      (fun _ => rfl) (fun _ => rfl) (fun _ _ => okHB_eq rfl) ⟨([], 0, none, 0), ⟨Nat.zero_le _, by rw [Nat.mul_zero, List.drop_zero]; cases hexP T <;> rfl, fun _ => ⟨rfl, rfl⟩, rfl⟩, ?_, ?_⟩ ?_
    · (repeat' (first | exact trivial | refine And.intro (by with_reducible rfl) ?_ | (with_reducible exact wkC_refl _) | (with_reducible exact wkCs_refl _) | refine And.intro ?_ ?_))
      all_goals rfl
    · exact ⟨wkE_refl _, wkE_refl _, wkE_nil, wkH_nil _⟩
    rintro ⟨l, j, ob, cap⟩ ⟨hj, hx, hob, hlj⟩
    cases hd0 : T.drop (2 * j) with
    | nil =>
      have hje := drop_end hd0 hj
      rw [hd0] at hx
      have hx2 : hexP T = some l := by rw [← hx]; show some (l ++ []) = _; rw [List.append_nil]
      rw [hx2]
      (first | refine wX ?_ | exact wZ)
      rw [hzT]
      refine brd_dec (fun h => absurd h (by omega)) (fun _ => ?_)
      (first | refine wX ?_ | exact wZ)
      exact fin_p _ ⟨_, rfl, ob, cap, rfl, fun h => (hob h).1, fun w hw => by simpa using hw⟩ (fun w hw => hw.2.1)
    | cons x r =>
      obtain ⟨hb1, hl1, hdr1, hln1⟩ := drop_at hd0
      cases r with
      | nil => exact absurd hln1 (by simp; omega)
      | cons y r2 =>
        obtain ⟨hb2, hl2, hdr2, _⟩ := drop_at hdr1
        have hb1' : byteAt (bs T) (Int.toNat ((2 * j : Nat) : Int)) = (x.toNat : Int) := by rw [Int.toNat_natCast]; exact hb1
        have hw1 : IntKind.i64.wrap (((2 * j : Nat) : Int) + 1) = ((2 * j + 1 : Nat) : Int) := by rw [wrap_i64 (by omega)]; omega
        have hb2' : byteAt (bs T) (Int.toNat (IntKind.i64.wrap (((2 * j : Nat) : Int) + 1))) = (y.toNat : Int) := by rw [hw1, Int.toNat_natCast]; exact hb2
        (first | refine wX ?_ | exact wZ)
        rw [hzT]
        refine brd_dec (fun _ => ?_) (fun h => absurd h (by omega))
        (first | refine wX ?_ | exact wZ)
        rw [hb1']
        refine call1 (digit_c x _) ?_
        have hxp : hexP (x :: y :: r2) = match hexV x, hexV y, hexP r2 with | some x, some y, some l => some (UInt8.ofNat (16 * x + y) :: l) | _, _, _ => none := rfl
        rw [hd0, hxp] at hx
        cases hvx : hexV x with
        | none =>
          rw [hvx] at hx
          (first | refine wX ?_ | exact wZ)
          rw [hb2']
          refine call1 (digit_c y _) ?_
          rw [← hx]
          cases hvy : hexV y with
          | none =>
            (first | refine wX ?_ | exact wZ)
            exact fin_v rfl
          | some q =>
            (first | refine wX ?_ | exact wZ)
            exact fin_v rfl
        | some p =>
          (first | refine wX ?_ | exact wZ)
          rw [hb2']
          refine call1 (digit_c y _) ?_
          cases hvy : hexV y with
          | none =>
            rw [hvx, hvy] at hx
            rw [← hx]
            (first | refine wX ?_ | exact wZ)
            exact fin_v rfl
          | some q =>
            have hp := hexV_lt hvx
            have hq := hexV_lt hvy
            rw [hvx, hvy] at hx
            (first | refine wX ?_ | exact wZ)
            refine Nd.mk ⟨Nat.le_refl 1, rfl, rfl⟩ ?_
            (conv => whnf)
            refine AppN.grow 2 (u8s l) [_] rfl rfl ⟨Nat.le_refl 1, ⟨by show (l.length + 1) * 1 ≤ _; omega, by omega⟩, by show 1 ≠ 0; omega⟩ fun b' cap' h1 h2 => ?_
            (first | refine wX ?_ | exact wZ)
            refine ⟨(l ++ [UInt8.ofNat (16 * p + q)], j + 1, some b', cap'), ⟨by omega, ?_, (fun h => by cases h), by simp; omega⟩, by show T.length - 2 * (j + 1) < T.length - 2 * j; omega, ?_, ?_⟩
            · rw [show 2 * (j + 1) = 2 * j + 1 + 1 by omega, hdr2, ← hx]
              cases hexP r2 with
              | none => rfl
              | some m => simp
            · (repeat' (first | exact trivial | refine And.intro (by with_reducible rfl) ?_ | (with_reducible exact wkC_refl _) | (with_reducible exact wkCs_refl _) | refine And.intro ?_ ?_))
              all_goals first | (simp [at0]; done) | exact av_int (by first | omega | (rw [wrap_i64 (by omega)]; omega))
            · exact ⟨wkE_refl _, wkE_refl _, .inl ⟨rfl, rfl, by rw [wrap_u8 (x := (p : Int) * 16) (by omega), wrap_u8 (by omega)]; simp [u8s]; omega, rfl, by simp, rfl⟩, wkH_nil _⟩
  · have hk2 : d.count ≠ -2 := by simpa using h1
    (first | refine wX ?_ | exact wZ)
    refine brd_eq (fun h2 => ?_) (fun h2 => ?_)
    · have hk : d.count = -1 := by simpa using h2
      have hn : cntS d s.length = s.length := by unfold cntS; rw [if_neg hk2, if_pos hk]
      rw [hn]
      (first | refine wX ?_ | exact wZ)
      rw [hz]
      -- s.length: how many digits
      (first | refine wX ?_ | exact wZ)
      refine ReadW.sl_h (min s.length s.length) rfl Tryz.underlying9 rfl rfl ⟨by (show minI (s.length : Int) _ = _); (first | rw [hz] | skip); (unfold minI); (split <;> omega), Nat.min_le_right _ _⟩ ?_
      rw [← List.take_eq_take_min]
      have hlt : (s.take s.length).length = min s.length s.length := List.length_take
      have ht : Int.tmod (s.length : Int) 2 = ((s.length % 2 : Nat) : Int) := (Int.ofNat_tmod s.length 2).symm
      have harg : IntKind.i64.wrap (IntKind.i64.wrap ((s.length : Int) - ((bs (s.take s.length)).size : Int)) + Int.tmod (s.length : Int) 2) = ((s.length - s.length + s.length % 2 : Nat) : Int) := by
        rw [bs_size, hlt, ht, wrap_i64 (x := (s.length : Int) - ((min s.length s.length : Nat) : Int)) (by omega), wrap_i64 (by omega)]
        try omega
      (first | refine wX ?_ | exact wZ)
      rw [harg]
      refine call1 (Repeat0_c (s.length - s.length + s.length % 2) (by omega) _) ?_
      (first | refine wX ?_ | exact wZ)
      refine Nd.mk (by rw [bs_size, bs_size, hlt, List.length_replicate]; omega) ?_
      rw [bs_app]
      have hT : s.take s.length ++ List.replicate (s.length - s.length + s.length % 2) 48 = hexT s.length s := rfl
      have hTl : (hexT s.length s).length = s.length + s.length % 2 := by rw [← hT]; simp; try omega
      unfold hexS
      rw [hT]
      generalize hexT s.length s = T at *
      have hzT := bs_size T
      (first | refine wX ?_ | exact wZ)
      refine LoopN.intro (List UInt8 × Nat × Option Nat × Nat) (fun ⟨l, j, ob, cap⟩ => 2 * j ≤ T.length ∧ (hexP (T.drop (2 * j))).map (l ++ ·) = hexP T ∧ (ob = none → l = [] ∧ cap = 0) ∧ l.length = j)
        (fun ⟨l, j, ob, cap⟩ => mkS Tryz.f71.ntmps 0 [(1, .c (.v (.string (bs T)))), (7, .c (.v (.slice (at0 ob) l.length cap))), (8, .c (.v (.int .i64 ((2 * j : Nat) : Int))))])
        (fun ⟨l, _, ob, cap⟩ => [.fact fun _ => True, .blk 58 [.v (.int .u8 (d.letter.toNat : Int)), .v (.bool d.big), .v (.int .i64 d.count)], .app 5 1 (u8s l) (at0 ob) l.length cap]) (fun ⟨_, j, _, _⟩ => T.length - 2 * j) [.app 0 0 [] none 0 0] rfl
        (fun _ => rfl) (fun _ => rfl) (fun _ _ => okHB_eq rfl) ⟨([], 0, none, 0), ⟨Nat.zero_le _, by rw [Nat.mul_zero, List.drop_zero]; cases hexP T <;> rfl, fun _ => ⟨rfl, rfl⟩, rfl⟩, ?_, ?_⟩ ?_
      · (repeat' (first | exact trivial | refine And.intro (by with_reducible rfl) ?_ | (with_reducible exact wkC_refl _) | (with_reducible exact wkCs_refl _) | refine And.intro ?_ ?_))
        all_goals rfl
      · exact ⟨wkE_refl _, wkE_refl _, wkE_nil, wkH_nil _⟩
      rintro ⟨l, j, ob, cap⟩ ⟨hj, hx, hob, hlj⟩
      cases hd0 : T.drop (2 * j) with
      | nil =>
        have hje := drop_end hd0 hj
        rw [hd0] at hx
        have hx2 : hexP T = some l := by rw [← hx]; show some (l ++ []) = _; rw [List.append_nil]
        rw [hx2]
        (first | refine wX ?_ | exact wZ)
        rw [hzT]
        refine brd_dec (fun h => absurd h (by omega)) (fun _ => ?_)
        (first | refine wX ?_ | exact wZ)
        exact fin_p _ ⟨_, rfl, ob, cap, rfl, fun h => (hob h).1, fun w hw => by simpa using hw⟩ (fun w hw => hw.2.1)
      | cons x r =>
        obtain ⟨hb1, hl1, hdr1, hln1⟩ := drop_at hd0
        cases r with
        | nil => exact absurd hln1 (by simp; omega)
        | cons y r2 =>
          obtain ⟨hb2, hl2, hdr2, _⟩ := drop_at hdr1
          have hb1' : byteAt (bs T) (Int.toNat ((2 * j : Nat) : Int)) = (x.toNat : Int) := by rw [Int.toNat_natCast]; exact hb1
          have hw1 : IntKind.i64.wrap (((2 * j : Nat) : Int) + 1) = ((2 * j + 1 : Nat) : Int) := by rw [wrap_i64 (by omega)]; omega
          have hb2' : byteAt (bs T) (Int.toNat (IntKind.i64.wrap (((2 * j : Nat) : Int) + 1))) = (y.toNat : Int) := by rw [hw1, Int.toNat_natCast]; exact hb2
          (first | refine wX ?_ | exact wZ)
          rw [hzT]
          refine brd_dec (fun _ => ?_) (fun h => absurd h (by omega))
          (first | refine wX ?_ | exact wZ)
          rw [hb1']
          refine call1 (digit_c x _) ?_
          have hxp : hexP (x :: y :: r2) = match hexV x, hexV y, hexP r2 with | some x, some y, some l => some (UInt8.ofNat (16 * x + y) :: l) | _, _, _ => none := rfl
          rw [hd0, hxp] at hx
          cases hvx : hexV x with
          | none =>
            rw [hvx] at hx
            (first | refine wX ?_ | exact wZ)
            rw [hb2']
            refine call1 (digit_c y _) ?_
            rw [← hx]
            cases hvy : hexV y with
            | none =>
              (first | refine wX ?_ | exact wZ)
              exact fin_v rfl
            | some q =>
              (first | refine wX ?_ | exact wZ)
              exact fin_v rfl
          | some p =>
            (first | refine wX ?_ | exact wZ)
            rw [hb2']
            refine call1 (digit_c y _) ?_
            cases hvy : hexV y with
            | none =>
              rw [hvx, hvy] at hx
              rw [← hx]
              (first | refine wX ?_ | exact wZ)
              exact fin_v rfl
            | some q =>
              have hp := hexV_lt hvx
              have hq := hexV_lt hvy
              rw [hvx, hvy] at hx
              (first | refine wX ?_ | exact wZ)
              refine Nd.mk ⟨Nat.le_refl 1, rfl, rfl⟩ ?_
              (conv => whnf)
              refine AppN.grow 2 (u8s l) [_] rfl rfl ⟨Nat.le_refl 1, ⟨by show (l.length + 1) * 1 ≤ _; omega, by omega⟩, by show 1 ≠ 0; omega⟩ fun b' cap' h1 h2 => ?_
              (first | refine wX ?_ | exact wZ)
              refine ⟨(l ++ [UInt8.ofNat (16 * p + q)], j + 1, some b', cap'), ⟨by omega, ?_, (fun h => by cases h), by simp; omega⟩, by show T.length - 2 * (j + 1) < T.length - 2 * j; omega, ?_, ?_⟩
              · rw [show 2 * (j + 1) = 2 * j + 1 + 1 by omega, hdr2, ← hx]
                cases hexP r2 with
                | none => rfl
                | some m => simp
              · (repeat' (first | exact trivial | refine And.intro (by with_reducible rfl) ?_ | (with_reducible exact wkC_refl _) | (with_reducible exact wkCs_refl _) | refine And.intro ?_ ?_))
                all_goals first | (simp [at0]; done) | exact av_int (by first | omega | (rw [wrap_i64 (by omega)]; omega))
              · exact ⟨wkE_refl _, wkE_refl _, .inl ⟨rfl, rfl, by rw [wrap_u8 (x := (p : Int) * 16) (by omega), wrap_u8 (by omega)]; simp [u8s]; omega, rfl, by simp, rfl⟩, wkH_nil _⟩
    · have hk1 : d.count ≠ -1 := by simpa using h2
      have hd : 0 ≤ d.count ∧ d.count ≤ 1000 := by
        rcases hd with h | h | h
        · exact h
        · exact absurd h hk1
        · exact absurd h hk2
      obtain ⟨n, hk⟩ := Int.eq_ofNat_of_zero_le hd.1
      have hn : cntS d s.length = n := by
        unfold cntS
        rw [if_neg hk2, if_neg hk1, hk]
        rfl
      have hn1 : n ≤ 1000 := by omega
      rw [hn]
      (first | refine wX ?_ | exact wZ)
      rw [hk]
      -- n: how many digits
      (first | refine wX ?_ | exact wZ)
      refine ReadW.sl_h (min n s.length) rfl Tryz.underlying9 rfl rfl ⟨by (show minI (n : Int) _ = _); (first | rw [hz] | skip); (unfold minI); (split <;> omega), Nat.min_le_right _ _⟩ ?_
      rw [← List.take_eq_take_min]
      have hlt : (s.take n).length = min n s.length := List.length_take
      have ht : Int.tmod (n : Int) 2 = ((n % 2 : Nat) : Int) := (Int.ofNat_tmod n 2).symm
      have harg : IntKind.i64.wrap (IntKind.i64.wrap ((n : Int) - ((bs (s.take n)).size : Int)) + Int.tmod (n : Int) 2) = ((n - s.length + n % 2 : Nat) : Int) := by
        rw [bs_size, hlt, ht, wrap_i64 (x := (n : Int) - ((min n s.length : Nat) : Int)) (by omega), wrap_i64 (by omega)]
        try omega
      (first | refine wX ?_ | exact wZ)
      rw [harg]
      refine call1 (Repeat0_c (n - s.length + n % 2) (by omega) _) ?_
      (first | refine wX ?_ | exact wZ)
      refine Nd.mk (by rw [bs_size, bs_size, hlt, List.length_replicate]; omega) ?_
      rw [bs_app]
      have hT : s.take n ++ List.replicate (n - s.length + n % 2) 48 = hexT n s := rfl
      have hTl : (hexT n s).length = n + n % 2 := by rw [← hT]; simp; try omega
      unfold hexS
      rw [hT]
      generalize hexT n s = T at *
      have hzT := bs_size T
      (first | refine wX ?_ | exact wZ)
      refine LoopN.intro (List UInt8 × Nat × Option Nat × Nat) (fun ⟨l, j, ob, cap⟩ => 2 * j ≤ T.length ∧ (hexP (T.drop (2 * j))).map (l ++ ·) = hexP T ∧ (ob = none → l = [] ∧ cap = 0) ∧ l.length = j)
        (fun ⟨l, j, ob, cap⟩ => mkS Tryz.f71.ntmps 0 [(1, .c (.v (.string (bs T)))), (7, .c (.v (.slice (at0 ob) l.length cap))), (8, .c (.v (.int .i64 ((2 * j : Nat) : Int))))])
        (fun ⟨l, _, ob, cap⟩ => [.fact fun _ => True, .blk 58 [.v (.int .u8 (d.letter.toNat : Int)), .v (.bool d.big), .v (.int .i64 d.count)], .app 5 1 (u8s l) (at0 ob) l.length cap]) (fun ⟨_, j, _, _⟩ => T.length - 2 * j) [.app 0 0 [] none 0 0] rfl
        (fun _ => rfl) (fun _ => rfl) (fun _ _ => okHB_eq rfl) ⟨([], 0, none, 0), ⟨Nat.zero_le _, by rw [Nat.mul_zero, List.drop_zero]; cases hexP T <;> rfl, fun _ => ⟨rfl, rfl⟩, rfl⟩, ?_, ?_⟩ ?_
      · (repeat' (first | exact trivial | refine And.intro (by with_reducible rfl) ?_ | (with_reducible exact wkC_refl _) | (with_reducible exact wkCs_refl _) | refine And.intro ?_ ?_))
        all_goals rfl
      · exact ⟨wkE_refl _, wkE_refl _, wkE_nil, wkH_nil _⟩
      rintro ⟨l, j, ob, cap⟩ ⟨hj, hx, hob, hlj⟩
      cases hd0 : T.drop (2 * j) with
      | nil =>
        have hje := drop_end hd0 hj
        rw [hd0] at hx
        have hx2 : hexP T = some l := by rw [← hx]; show some (l ++ []) = _; rw [List.append_nil]
        rw [hx2]
        (first | refine wX ?_ | exact wZ)
        rw [hzT]
        refine brd_dec (fun h => absurd h (by omega)) (fun _ => ?_)
        (first | refine wX ?_ | exact wZ)
        exact fin_p _ ⟨_, rfl, ob, cap, rfl, fun h => (hob h).1, fun w hw => by simpa using hw⟩ (fun w hw => hw.2.1)
      | cons x r =>
        obtain ⟨hb1, hl1, hdr1, hln1⟩ := drop_at hd0
        cases r with
        | nil => exact absurd hln1 (by simp; omega)
        | cons y r2 =>
          obtain ⟨hb2, hl2, hdr2, _⟩ := drop_at hdr1
          have hb1' : byteAt (bs T) (Int.toNat ((2 * j : Nat) : Int)) = (x.toNat : Int) := by rw [Int.toNat_natCast]; exact hb1
          have hw1 : IntKind.i64.wrap (((2 * j : Nat) : Int) + 1) = ((2 * j + 1 : Nat) : Int) := by rw [wrap_i64 (by omega)]; omega
          have hb2' : byteAt (bs T) (Int.toNat (IntKind.i64.wrap (((2 * j : Nat) : Int) + 1))) = (y.toNat : Int) := by rw [hw1, Int.toNat_natCast]; exact hb2
          (first | refine wX ?_ | exact wZ)
          rw [hzT]
          refine brd_dec (fun _ => ?_) (fun h => absurd h (by omega))
          (first | refine wX ?_ | exact wZ)
          rw [hb1']
          refine call1 (digit_c x _) ?_
          have hxp : hexP (x :: y :: r2) = match hexV x, hexV y, hexP r2 with | some x, some y, some l => some (UInt8.ofNat (16 * x + y) :: l) | _, _, _ => none := rfl
          rw [hd0, hxp] at hx
          cases hvx : hexV x with
          | none =>
            rw [hvx] at hx
            (first | refine wX ?_ | exact wZ)
            rw [hb2']
            refine call1 (digit_c y _) ?_
            rw [← hx]
            cases hvy : hexV y with
            | none =>
              (first | refine wX ?_ | exact wZ)
              exact fin_v rfl
            | some q =>
              (first | refine wX ?_ | exact wZ)
              exact fin_v rfl
          | some p =>
            (first | refine wX ?_ | exact wZ)
            rw [hb2']
            refine call1 (digit_c y _) ?_
            cases hvy : hexV y with
            | none =>
              rw [hvx, hvy] at hx
              rw [← hx]
              (first | refine wX ?_ | exact wZ)
              exact fin_v rfl
            | some q =>
              have hp := hexV_lt hvx
              have hq := hexV_lt hvy
              rw [hvx, hvy] at hx
              (first | refine wX ?_ | exact wZ)
              refine Nd.mk ⟨Nat.le_refl 1, rfl, rfl⟩ ?_
              (conv => whnf)
              refine AppN.grow 2 (u8s l) [_] rfl rfl ⟨Nat.le_refl 1, ⟨by show (l.length + 1) * 1 ≤ _; omega, by omega⟩, by show 1 ≠ 0; omega⟩ fun b' cap' h1 h2 => ?_
              (first | refine wX ?_ | exact wZ)
              refine ⟨(l ++ [UInt8.ofNat (16 * p + q)], j + 1, some b', cap'), ⟨by omega, ?_, (fun h => by cases h), by simp; omega⟩, by show T.length - 2 * (j + 1) < T.length - 2 * j; omega, ?_, ?_⟩
              · rw [show 2 * (j + 1) = 2 * j + 1 + 1 by omega, hdr2, ← hx]
                cases hexP r2 with
                | none => rfl
                | some m => simp
              · (repeat' (first | exact trivial | refine And.intro (by with_reducible rfl) ?_ | (with_reducible exact wkC_refl _) | (with_reducible exact wkCs_refl _) | refine And.intro ?_ ?_))
                all_goals first | (simp [at0]; done) | exact av_int (by first | omega | (rw [wrap_i64 (by omega)]; omega))
              · exact ⟨wkE_refl _, wkE_refl _, .inl ⟨rfl, rfl, by rw [wrap_u8 (x := (p : Int) * 16) (by omega), wrap_u8 (by omega)]; simp [u8s]; omega, rfl, by simp, rfl⟩, wkH_nil _⟩
end Go.Proofs.YtjkchonpnocffaaGreatDoor

/-
  Contract: a text is written (program).
-/
namespace Go.Proofs.YtjkchonpnocffaaGreatDoor
open Go.AX Go.RowKit Go.Pack
set_option maxRecDepth 20000

set_option maxHeartbeats 1000000 in
theorem text_c (d : Dir) (s : List UInt8) (hs : s.length ≤ 140737488351232) (hd1 : 1 ≤ d.count ∧ d.count ≤ 1000 ∨ d.count = -1 ∨ d.count = -2) : SpecF Tryz.prog 48 [dirV d, .string (bs s)] (fun _ => True) (WrR (textS d s)) := by
  have hd : 0 ≤ d.count ∧ d.count ≤ 1000 ∨ d.count = -1 ∨ d.count = -2 := by omega
  have hz := bs_size s
  have h72 : ((d.letter.toNat : Int) == 72) = (d.letter == 72) := u8_eq (n := 72) (by decide)
  have h90 : ((d.letter.toNat : Int) == 90) = (d.letter == 90) := u8_eq (n := 90) (by decide)
  have h65 : ((d.letter.toNat : Int) == 65) = (d.letter == 65) := u8_eq (n := 65) (by decide)
  refine specF hm Tryz.func48 (by kernel_rfl) rfl rfl ?_
  (first | refine wX ?_ | exact wZ)
  rw [h72]
  cases hH : d.letter == 72 with
  | true =>
    have hT : textS d s = hexS (cntS d s.length) s := by unfold textS; rw [if_pos hH]
    rw [hT]
    (first | refine wX ?_ | exact wZ)
    refine SpecF.call (hex_c d s hs hd) (fun w _ => trivial) fun v G hR => ?_
    cases hx : hexS (cntS d s.length) s with
    | error e =>
      rw [hx] at hR
      obtain rfl := hR
      (first | refine wX ?_ | exact wZ)
      exact fin_v rfl
    | ok l =>
      rw [hx] at hR
      obtain ⟨x, rfl, ob, cap, rfl, h5, h6⟩ := hR
      (first | refine wX ?_ | exact wZ)
      exact fin_p G ⟨_, rfl, ob, cap, rfl, h5, h6⟩ (fun w hw => hw.2.1)
  | false =>
    (first | refine wX ?_ | exact wZ)
    refine brd_eq (fun h1 => ?_) (fun h1 => ?_)
    · have hk : d.count = -2 := by simpa using h1
      have hT : textS d s = .ok (if d.letter == 90 && decide (1 < s.length) then (s.take 1 ++ List.replicate (1 - s.length) (if d.letter == 65 then 32 else 0)).set (1 - 1) 0 else s.take 1 ++ List.replicate (1 - s.length) (if d.letter == 65 then 32 else 0)) := by
        have hn : cntS d 0 = 1 := by unfold cntS; rw [if_pos hk]
        unfold textS
        rw [if_neg (by rw [hH]; simp), if_neg (by omega), hn]
      -- 1: how many bytes, 1: the same as an Int
      (first | refine wX ?_ | exact wZ)
      rw [h65]
      generalize hF : (if d.letter == 65 then (32 : UInt8) else 0) = F at hT
      have hfill : ∀ (b : Bool), (d.letter == 65) = b → F = if b then 32 else 0 := fun b h => by rw [← hF, h]
      cases h6 : d.letter == 65 with
      | true =>
        have hF2 := hfill _ h6
        have hFv : (F.toNat : Int) = 32 := by rw [hF2]; rfl
        (first | refine wX ?_ | exact wZ)
        refine ReadW.sl_h (min 1 s.length) rfl Tryz.underlying9 rfl rfl ⟨by (show minI 1 _ = _); (first | rw [hz] | skip); (unfold minI); (split <;> omega), Nat.min_le_right _ _⟩ ?_
        rw [← List.take_eq_take_min]
        (first | refine wX ?_ | exact wZ)
        refine EffW.bytesOf (s.take 1) rfl Tryz.underlying9 Tryz.underlying48 Tryz.underlying5 rfl (by rw [List.length_take]; omega) fun b0 cap0 _ _ => ?_
        have hLl : ∀ i, (s.take 1 ++ List.replicate i F).length = min 1 s.length + i := fun i => by simp
        (first | refine wX ?_ | exact wZ)
        refine LoopN.intro (Nat × Nat × Nat) (fun ⟨i, _, _⟩ => i ≤ 1 - s.length)
          (fun ⟨i, b, cap⟩ => mkS Tryz.f48.ntmps 0 [(1, .c (.v (.string (bs s)))), (2, .c (.lp 1 0)), (6, .c (.v (.int .i64 1))), (7, .c (.v (.int .u8 (32 : Int)))), (8, .c (.v (.slice (some ⟨b, 0, none⟩) (s.take 1 ++ List.replicate i F).length cap)))])
          (fun ⟨i, b, cap⟩ => [.fact fun _ => True, .blk 58 [.v (.int .u8 (d.letter.toNat : Int)), .v (.bool d.big), .v (.int .i64 d.count)], own (s.take 1 ++ List.replicate i F) b cap]) (fun ⟨i, _, _⟩ => 1 - s.length - i) [] rfl
          (fun _ => rfl) (fun _ => rfl) (fun _ _ => okHB_eq rfl) ⟨(0, b0, cap0), Nat.zero_le _, ?_, ?_⟩ ?_
        · (repeat' (first | exact trivial | refine And.intro (by with_reducible rfl) ?_ | (with_reducible exact wkC_refl _) | (with_reducible exact wkCs_refl _) | refine And.intro ?_ ?_))
          all_goals first | rfl | simp
        · exact ⟨wkE_refl _, wkE_refl _, .inl ⟨rfl, rfl, by simp, rfl, by simp, rfl⟩, wkH_nil _⟩
        rintro ⟨i, b, cap⟩ hi
        have hi2 := hLl i
        (first | refine wX ?_ | exact wZ)
        refine brd_dec (fun h7 => ?_) (fun h7 => ?_)
        · (first | refine wX ?_ | exact wZ)
          refine AppN.grow 2 (u8s (s.take 1 ++ List.replicate i F)) [_] rfl rfl ⟨Nat.le_refl 1, ⟨by show ((s.take 1 ++ List.replicate i F).length + 1) * 1 ≤ _; omega, by omega⟩, by show 1 ≠ 0; omega⟩ fun b' cap' h1 h2 => ?_
          (first | refine wX ?_ | exact wZ)
          refine ⟨(i + 1, b', cap'), by show i + 1 ≤ 1 - s.length; omega, by show 1 - s.length - (i + 1) < 1 - s.length - i; omega, ?_, ?_⟩
          · (repeat' (first | exact trivial | refine And.intro (by with_reducible rfl) ?_ | (with_reducible exact wkC_refl _) | (with_reducible exact wkCs_refl _) | refine And.intro ?_ ?_))
            all_goals rw [hLl, hLl]; rfl
          · exact ⟨wkE_refl _, wkE_refl _, .inl ⟨rfl, rfl, by rw [List.replicate_succ', ← List.append_assoc, ← hFv]; simp [u8s], rfl, by rw [hLl, hLl]; rfl, rfl⟩, wkH_nil _⟩
        · have hie : i = 1 - s.length := by omega
          rw [← hie] at hT
          generalize hL : s.take 1 ++ List.replicate i F = L at *
          (first | refine wX ?_ | exact wZ)
          rw [h90]
          cases h9 : d.letter == 90 with
          | false =>
            rw [h9, Bool.false_and, if_neg (by simp)] at hT
            rw [hT]
            (first | refine wX ?_ | exact wZ)
            exact fin_p (SlAt (some ⟨b, 0, none⟩) (L.length * 1) (u8s L)) ⟨_, rfl, bytesR_own _ _ _⟩ (fun w hw => hw.2.1)
          | true =>
            (first | refine wX ?_ | exact wZ)
            rw [hz]
            refine brd_dec (fun h10 => ?_) (fun h10 => ?_)
            · rw [h9, decide_eq_true (show 1 < s.length by omega), if_pos (by rfl)] at hT
              have hw1 : IntKind.i64.wrap (1 - 1) = ((1 - 1 : Nat) : Int) := by rw [wrap_i64 (by omega)]; omega
              (first | refine wX ?_ | exact wZ)
              first | refine brd_dec (fun _ => ?_) (fun h => absurd h (by omega)) | skip
              (first | refine wX ?_ | exact wZ)
              first | refine Nd.mk ⟨rfl, by rw [hw1]; omega, by rw [hw1]; omega⟩ ?_ | skip
              (first | refine wX ?_ | exact wZ)
              refine EffW.appTo (i := 2) (q := 1 - 1) (ys := [_]) (u8s (L.set (1 - 1) 0)) 1 rfl (ptr_lit rfl (by show (IntKind.i64.wrap (1 - 1)).toNat * 1 = 1 - 1; rw [hw1]; omega)) rfl rfl rfl rfl rfl (by show 1 - 1 + 1 ≤ L.length * 1; omega) (u8s_put 0 (by omega)) rfl ?_
              (first | refine wX ?_ | exact wZ)
              rw [hT]
              exact fin_p (SlAt (some ⟨b, 0, none⟩) (L.length * 1) (u8s (L.set (1 - 1) 0))) ⟨_, rfl, bytesR_cells (by simp) rfl⟩ (fun w hw => hw.2.1)
            · rw [h9, decide_eq_false (show ¬ 1 < s.length by omega), if_neg (by simp)] at hT
              rw [hT]
              (first | refine wX ?_ | exact wZ)
              exact fin_p (SlAt (some ⟨b, 0, none⟩) (L.length * 1) (u8s L)) ⟨_, rfl, bytesR_own _ _ _⟩ (fun w hw => hw.2.1)
      | false =>
        have hF2 := hfill _ h6
        have hFv : (F.toNat : Int) = 0 := by rw [hF2]; rfl
        (first | refine wX ?_ | exact wZ)
        refine ReadW.sl_h (min 1 s.length) rfl Tryz.underlying9 rfl rfl ⟨by (show minI 1 _ = _); (first | rw [hz] | skip); (unfold minI); (split <;> omega), Nat.min_le_right _ _⟩ ?_
        rw [← List.take_eq_take_min]
        (first | refine wX ?_ | exact wZ)
        refine EffW.bytesOf (s.take 1) rfl Tryz.underlying9 Tryz.underlying48 Tryz.underlying5 rfl (by rw [List.length_take]; omega) fun b0 cap0 _ _ => ?_
        have hLl : ∀ i, (s.take 1 ++ List.replicate i F).length = min 1 s.length + i := fun i => by simp
        (first | refine wX ?_ | exact wZ)
        refine LoopN.intro (Nat × Nat × Nat) (fun ⟨i, _, _⟩ => i ≤ 1 - s.length)
          (fun ⟨i, b, cap⟩ => mkS Tryz.f48.ntmps 0 [(1, .c (.v (.string (bs s)))), (2, .c (.lp 1 0)), (6, .c (.v (.int .i64 1))), (7, .c (.v (.int .u8 (0 : Int)))), (8, .c (.v (.slice (some ⟨b, 0, none⟩) (s.take 1 ++ List.replicate i F).length cap)))])
          (fun ⟨i, b, cap⟩ => [.fact fun _ => True, .blk 58 [.v (.int .u8 (d.letter.toNat : Int)), .v (.bool d.big), .v (.int .i64 d.count)], own (s.take 1 ++ List.replicate i F) b cap]) (fun ⟨i, _, _⟩ => 1 - s.length - i) [] rfl
          (fun _ => rfl) (fun _ => rfl) (fun _ _ => okHB_eq rfl) ⟨(0, b0, cap0), Nat.zero_le _, ?_, ?_⟩ ?_
        · (repeat' (first | exact trivial | refine And.intro (by with_reducible rfl) ?_ | (with_reducible exact wkC_refl _) | (with_reducible exact wkCs_refl _) | refine And.intro ?_ ?_))
          all_goals first | rfl | simp
        · exact ⟨wkE_refl _, wkE_refl _, .inl ⟨rfl, rfl, by simp, rfl, by simp, rfl⟩, wkH_nil _⟩
        rintro ⟨i, b, cap⟩ hi
        have hi2 := hLl i
        (first | refine wX ?_ | exact wZ)
        refine brd_dec (fun h7 => ?_) (fun h7 => ?_)
        · (first | refine wX ?_ | exact wZ)
          refine AppN.grow 2 (u8s (s.take 1 ++ List.replicate i F)) [_] rfl rfl ⟨Nat.le_refl 1, ⟨by show ((s.take 1 ++ List.replicate i F).length + 1) * 1 ≤ _; omega, by omega⟩, by show 1 ≠ 0; omega⟩ fun b' cap' h1 h2 => ?_
          (first | refine wX ?_ | exact wZ)
          refine ⟨(i + 1, b', cap'), by show i + 1 ≤ 1 - s.length; omega, by show 1 - s.length - (i + 1) < 1 - s.length - i; omega, ?_, ?_⟩
          · (repeat' (first | exact trivial | refine And.intro (by with_reducible rfl) ?_ | (with_reducible exact wkC_refl _) | (with_reducible exact wkCs_refl _) | refine And.intro ?_ ?_))
            all_goals rw [hLl, hLl]; rfl
          · exact ⟨wkE_refl _, wkE_refl _, .inl ⟨rfl, rfl, by rw [List.replicate_succ', ← List.append_assoc, ← hFv]; simp [u8s], rfl, by rw [hLl, hLl]; rfl, rfl⟩, wkH_nil _⟩
        · have hie : i = 1 - s.length := by omega
          rw [← hie] at hT
          generalize hL : s.take 1 ++ List.replicate i F = L at *
          (first | refine wX ?_ | exact wZ)
          rw [h90]
          cases h9 : d.letter == 90 with
          | false =>
            rw [h9, Bool.false_and, if_neg (by simp)] at hT
            rw [hT]
            (first | refine wX ?_ | exact wZ)
            exact fin_p (SlAt (some ⟨b, 0, none⟩) (L.length * 1) (u8s L)) ⟨_, rfl, bytesR_own _ _ _⟩ (fun w hw => hw.2.1)
          | true =>
            (first | refine wX ?_ | exact wZ)
            rw [hz]
            refine brd_dec (fun h10 => ?_) (fun h10 => ?_)
            · rw [h9, decide_eq_true (show 1 < s.length by omega), if_pos (by rfl)] at hT
              have hw1 : IntKind.i64.wrap (1 - 1) = ((1 - 1 : Nat) : Int) := by rw [wrap_i64 (by omega)]; omega
              (first | refine wX ?_ | exact wZ)
              first | refine brd_dec (fun _ => ?_) (fun h => absurd h (by omega)) | skip
              (first | refine wX ?_ | exact wZ)
              first | refine Nd.mk ⟨rfl, by rw [hw1]; omega, by rw [hw1]; omega⟩ ?_ | skip
              (first | refine wX ?_ | exact wZ)
              refine EffW.appTo (i := 2) (q := 1 - 1) (ys := [_]) (u8s (L.set (1 - 1) 0)) 1 rfl (ptr_lit rfl (by show (IntKind.i64.wrap (1 - 1)).toNat * 1 = 1 - 1; rw [hw1]; omega)) rfl rfl rfl rfl rfl (by show 1 - 1 + 1 ≤ L.length * 1; omega) (u8s_put 0 (by omega)) rfl ?_
              (first | refine wX ?_ | exact wZ)
              rw [hT]
              exact fin_p (SlAt (some ⟨b, 0, none⟩) (L.length * 1) (u8s (L.set (1 - 1) 0))) ⟨_, rfl, bytesR_cells (by simp) rfl⟩ (fun w hw => hw.2.1)
            · rw [h9, decide_eq_false (show ¬ 1 < s.length by omega), if_neg (by simp)] at hT
              rw [hT]
              (first | refine wX ?_ | exact wZ)
              exact fin_p (SlAt (some ⟨b, 0, none⟩) (L.length * 1) (u8s L)) ⟨_, rfl, bytesR_own _ _ _⟩ (fun w hw => hw.2.1)
    · have hk2 : d.count ≠ -2 := by simpa using h1
      (first | refine wX ?_ | exact wZ)
      refine brd_eq (fun h2 => ?_) (fun h2 => ?_)
      · have hk : d.count = -1 := by simpa using h2
        (first | refine wX ?_ | exact wZ)
        rw [h90]
        cases h9 : d.letter == 90 with
        | true =>
          have hT : textS d s = .ok (s ++ [0]) := by
            unfold textS
            rw [if_neg (by rw [hH]; simp), if_pos hk, if_pos h9]
          rw [hT]
          (first | refine wX ?_ | exact wZ)
          refine Nd.mk (by rw [hz]; show s.length + 1 < _; omega) ?_
          rw [show bs s ++ (⟨#[0]⟩ : ByteArray) = bs (s ++ [0]) from bs_app s [0]]
          (first | refine wX ?_ | exact wZ)
          refine EffW.bytesOf (s ++ [0]) rfl Tryz.underlying9 Tryz.underlying48 Tryz.underlying5 rfl (by simp; omega) fun b cap _ _ => ?_
          (first | refine wX ?_ | exact wZ)
          exact fin_p (SlAt (some ⟨b, 0, none⟩) ((s ++ [0]).length * 1) (u8s (s ++ [0]))) ⟨_, rfl, bytesR_own _ _ _⟩ (fun w hw => hw.2.1)
        | false =>
          have hT : textS d s = .ok (if d.letter == 90 && decide (s.length < s.length) then (s.take s.length ++ List.replicate (s.length - s.length) (if d.letter == 65 then 32 else 0)).set (s.length - 1) 0 else s.take s.length ++ List.replicate (s.length - s.length) (if d.letter == 65 then 32 else 0)) := by
            unfold textS
            rw [if_neg (by rw [hH]; simp), if_pos hk, if_neg (by rw [h9]; simp), h9]
            simp
          (first | refine wX ?_ | exact wZ)
          refine brd_eq (fun _ => ?_) (fun h => absurd h2 h)
          (first | refine wX ?_ | exact wZ)
          rw [hz]
          -- s.length: how many bytes, (s.length : Int): the same as an Int
          (first | refine wX ?_ | exact wZ)
          rw [h65]
          generalize hF : (if d.letter == 65 then (32 : UInt8) else 0) = F at hT
          have hfill : ∀ (b : Bool), (d.letter == 65) = b → F = if b then 32 else 0 := fun b h => by rw [← hF, h]
          cases h6 : d.letter == 65 with
          | true =>
            have hF2 := hfill _ h6
            have hFv : (F.toNat : Int) = 32 := by rw [hF2]; rfl
            (first | refine wX ?_ | exact wZ)
            refine ReadW.sl_h (min s.length s.length) rfl Tryz.underlying9 rfl rfl ⟨by (show minI (s.length : Int) _ = _); (first | rw [hz] | skip); (unfold minI); (split <;> omega), Nat.min_le_right _ _⟩ ?_
            rw [← List.take_eq_take_min]
            (first | refine wX ?_ | exact wZ)
            refine EffW.bytesOf (s.take s.length) rfl Tryz.underlying9 Tryz.underlying48 Tryz.underlying5 rfl (by rw [List.length_take]; omega) fun b0 cap0 _ _ => ?_
            have hLl : ∀ i, (s.take s.length ++ List.replicate i F).length = min s.length s.length + i := fun i => by simp
            (first | refine wX ?_ | exact wZ)
            refine LoopN.intro (Nat × Nat × Nat) (fun ⟨i, _, _⟩ => i ≤ s.length - s.length)
              (fun ⟨i, b, cap⟩ => mkS Tryz.f48.ntmps 0 [(1, .c (.v (.string (bs s)))), (2, .c (.lp 1 0)), (6, .c (.v (.int .i64 (s.length : Int)))), (7, .c (.v (.int .u8 (32 : Int)))), (8, .c (.v (.slice (some ⟨b, 0, none⟩) (s.take s.length ++ List.replicate i F).length cap)))])
              (fun ⟨i, b, cap⟩ => [.fact fun _ => True, .blk 58 [.v (.int .u8 (d.letter.toNat : Int)), .v (.bool d.big), .v (.int .i64 d.count)], own (s.take s.length ++ List.replicate i F) b cap]) (fun ⟨i, _, _⟩ => s.length - s.length - i) [] rfl
              (fun _ => rfl) (fun _ => rfl) (fun _ _ => okHB_eq rfl) ⟨(0, b0, cap0), Nat.zero_le _, ?_, ?_⟩ ?_
            · (repeat' (first | exact trivial | refine And.intro (by with_reducible rfl) ?_ | (with_reducible exact wkC_refl _) | (with_reducible exact wkCs_refl _) | refine And.intro ?_ ?_))
              all_goals first | rfl | simp
            · exact ⟨wkE_refl _, wkE_refl _, .inl ⟨rfl, rfl, by simp, rfl, by simp, rfl⟩, wkH_nil _⟩
            rintro ⟨i, b, cap⟩ hi
            have hi2 := hLl i
            (first | refine wX ?_ | exact wZ)
            refine brd_dec (fun h7 => ?_) (fun h7 => ?_)
            · (first | refine wX ?_ | exact wZ)
              refine AppN.grow 2 (u8s (s.take s.length ++ List.replicate i F)) [_] rfl rfl ⟨Nat.le_refl 1, ⟨by show ((s.take s.length ++ List.replicate i F).length + 1) * 1 ≤ _; omega, by omega⟩, by show 1 ≠ 0; omega⟩ fun b' cap' h1 h2 => ?_
              (first | refine wX ?_ | exact wZ)
              refine ⟨(i + 1, b', cap'), by show i + 1 ≤ s.length - s.length; omega, by show s.length - s.length - (i + 1) < s.length - s.length - i; omega, ?_, ?_⟩
              · (repeat' (first | exact trivial | refine And.intro (by with_reducible rfl) ?_ | (with_reducible exact wkC_refl _) | (with_reducible exact wkCs_refl _) | refine And.intro ?_ ?_))
                all_goals rw [hLl, hLl]; rfl
              · exact ⟨wkE_refl _, wkE_refl _, .inl ⟨rfl, rfl, by rw [List.replicate_succ', ← List.append_assoc, ← hFv]; simp [u8s], rfl, by rw [hLl, hLl]; rfl, rfl⟩, wkH_nil _⟩
            · have hie : i = s.length - s.length := by omega
              rw [← hie] at hT
              generalize hL : s.take s.length ++ List.replicate i F = L at *
              (first | refine wX ?_ | exact wZ)
              rw [h90]
              cases h9 : d.letter == 90 with
              | false =>
                rw [h9, Bool.false_and, if_neg (by simp)] at hT
                rw [hT]
                (first | refine wX ?_ | exact wZ)
                exact fin_p (SlAt (some ⟨b, 0, none⟩) (L.length * 1) (u8s L)) ⟨_, rfl, bytesR_own _ _ _⟩ (fun w hw => hw.2.1)
              | true =>
                (first | refine wX ?_ | exact wZ)
                rw [hz]
                refine brd_dec (fun h10 => ?_) (fun h10 => ?_)
                · rw [h9, decide_eq_true (show s.length < s.length by omega), if_pos (by rfl)] at hT
                  have hw1 : IntKind.i64.wrap ((s.length : Int) - 1) = ((s.length - 1 : Nat) : Int) := by rw [wrap_i64 (by omega)]; omega
                  (first | refine wX ?_ | exact wZ)
                  first | refine brd_dec (fun _ => ?_) (fun h => absurd h (by omega)) | skip
                  (first | refine wX ?_ | exact wZ)
                  first | refine Nd.mk ⟨rfl, by rw [hw1]; omega, by rw [hw1]; omega⟩ ?_ | skip
                  (first | refine wX ?_ | exact wZ)
                  refine EffW.appTo (i := 2) (q := s.length - 1) (ys := [_]) (u8s (L.set (s.length - 1) 0)) 1 rfl (ptr_lit rfl (by show (IntKind.i64.wrap ((s.length : Int) - 1)).toNat * 1 = s.length - 1; rw [hw1]; omega)) rfl rfl rfl rfl rfl (by show s.length - 1 + 1 ≤ L.length * 1; omega) (u8s_put 0 (by omega)) rfl ?_
                  (first | refine wX ?_ | exact wZ)
                  rw [hT]
                  exact fin_p (SlAt (some ⟨b, 0, none⟩) (L.length * 1) (u8s (L.set (s.length - 1) 0))) ⟨_, rfl, bytesR_cells (by simp) rfl⟩ (fun w hw => hw.2.1)
                · rw [h9, decide_eq_false (show ¬ s.length < s.length by omega), if_neg (by simp)] at hT
                  rw [hT]
                  (first | refine wX ?_ | exact wZ)
                  exact fin_p (SlAt (some ⟨b, 0, none⟩) (L.length * 1) (u8s L)) ⟨_, rfl, bytesR_own _ _ _⟩ (fun w hw => hw.2.1)
          | false =>
            have hF2 := hfill _ h6
            have hFv : (F.toNat : Int) = 0 := by rw [hF2]; rfl
            (first | refine wX ?_ | exact wZ)
            refine ReadW.sl_h (min s.length s.length) rfl Tryz.underlying9 rfl rfl ⟨by (show minI (s.length : Int) _ = _); (first | rw [hz] | skip); (unfold minI); (split <;> omega), Nat.min_le_right _ _⟩ ?_
            rw [← List.take_eq_take_min]
            (first | refine wX ?_ | exact wZ)
            refine EffW.bytesOf (s.take s.length) rfl Tryz.underlying9 Tryz.underlying48 Tryz.underlying5 rfl (by rw [List.length_take]; omega) fun b0 cap0 _ _ => ?_
            have hLl : ∀ i, (s.take s.length ++ List.replicate i F).length = min s.length s.length + i := fun i => by simp
            (first | refine wX ?_ | exact wZ)
            refine LoopN.intro (Nat × Nat × Nat) (fun ⟨i, _, _⟩ => i ≤ s.length - s.length)
              (fun ⟨i, b, cap⟩ => mkS Tryz.f48.ntmps 0 [(1, .c (.v (.string (bs s)))), (2, .c (.lp 1 0)), (6, .c (.v (.int .i64 (s.length : Int)))), (7, .c (.v (.int .u8 (0 : Int)))), (8, .c (.v (.slice (some ⟨b, 0, none⟩) (s.take s.length ++ List.replicate i F).length cap)))])
              (fun ⟨i, b, cap⟩ => [.fact fun _ => True, .blk 58 [.v (.int .u8 (d.letter.toNat : Int)), .v (.bool d.big), .v (.int .i64 d.count)], own (s.take s.length ++ List.replicate i F) b cap]) (fun ⟨i, _, _⟩ => s.length - s.length - i) [] rfl
              (fun _ => rfl) (fun _ => rfl) (fun _ _ => okHB_eq rfl) ⟨(0, b0, cap0), Nat.zero_le _, ?_, ?_⟩ ?_
            · (repeat' (first | exact trivial | refine And.intro (by with_reducible rfl) ?_ | (with_reducible exact wkC_refl _) | (with_reducible exact wkCs_refl _) | refine And.intro ?_ ?_))
              all_goals first | rfl | simp
            · exact ⟨wkE_refl _, wkE_refl _, .inl ⟨rfl, rfl, by simp, rfl, by simp, rfl⟩, wkH_nil _⟩
            rintro ⟨i, b, cap⟩ hi
            have hi2 := hLl i
            (first | refine wX ?_ | exact wZ)
            refine brd_dec (fun h7 => ?_) (fun h7 => ?_)
            · (first | refine wX ?_ | exact wZ)
              refine AppN.grow 2 (u8s (s.take s.length ++ List.replicate i F)) [_] rfl rfl ⟨Nat.le_refl 1, ⟨by show ((s.take s.length ++ List.replicate i F).length + 1) * 1 ≤ _; omega, by omega⟩, by show 1 ≠ 0; omega⟩ fun b' cap' h1 h2 => ?_
              (first | refine wX ?_ | exact wZ)
              refine ⟨(i + 1, b', cap'), by show i + 1 ≤ s.length - s.length; omega, by show s.length - s.length - (i + 1) < s.length - s.length - i; omega, ?_, ?_⟩
              · (repeat' (first | exact trivial | refine And.intro (by with_reducible rfl) ?_ | (with_reducible exact wkC_refl _) | (with_reducible exact wkCs_refl _) | refine And.intro ?_ ?_))
                all_goals rw [hLl, hLl]; rfl
              · exact ⟨wkE_refl _, wkE_refl _, .inl ⟨rfl, rfl, by rw [List.replicate_succ', ← List.append_assoc, ← hFv]; simp [u8s], rfl, by rw [hLl, hLl]; rfl, rfl⟩, wkH_nil _⟩
            · have hie : i = s.length - s.length := by omega
              rw [← hie] at hT
              generalize hL : s.take s.length ++ List.replicate i F = L at *
              (first | refine wX ?_ | exact wZ)
              rw [h90]
              cases h9 : d.letter == 90 with
              | false =>
                rw [h9, Bool.false_and, if_neg (by simp)] at hT
                rw [hT]
                (first | refine wX ?_ | exact wZ)
                exact fin_p (SlAt (some ⟨b, 0, none⟩) (L.length * 1) (u8s L)) ⟨_, rfl, bytesR_own _ _ _⟩ (fun w hw => hw.2.1)
              | true =>
                (first | refine wX ?_ | exact wZ)
                rw [hz]
                refine brd_dec (fun h10 => ?_) (fun h10 => ?_)
                · rw [h9, decide_eq_true (show s.length < s.length by omega), if_pos (by rfl)] at hT
                  have hw1 : IntKind.i64.wrap ((s.length : Int) - 1) = ((s.length - 1 : Nat) : Int) := by rw [wrap_i64 (by omega)]; omega
                  (first | refine wX ?_ | exact wZ)
                  first | refine brd_dec (fun _ => ?_) (fun h => absurd h (by omega)) | skip
                  (first | refine wX ?_ | exact wZ)
                  first | refine Nd.mk ⟨rfl, by rw [hw1]; omega, by rw [hw1]; omega⟩ ?_ | skip
                  (first | refine wX ?_ | exact wZ)
                  refine EffW.appTo (i := 2) (q := s.length - 1) (ys := [_]) (u8s (L.set (s.length - 1) 0)) 1 rfl (ptr_lit rfl (by show (IntKind.i64.wrap ((s.length : Int) - 1)).toNat * 1 = s.length - 1; rw [hw1]; omega)) rfl rfl rfl rfl rfl (by show s.length - 1 + 1 ≤ L.length * 1; omega) (u8s_put 0 (by omega)) rfl ?_
                  (first | refine wX ?_ | exact wZ)
                  rw [hT]
                  exact fin_p (SlAt (some ⟨b, 0, none⟩) (L.length * 1) (u8s (L.set (s.length - 1) 0))) ⟨_, rfl, bytesR_cells (by simp) rfl⟩ (fun w hw => hw.2.1)
                · rw [h9, decide_eq_false (show ¬ s.length < s.length by omega), if_neg (by simp)] at hT
                  rw [hT]
                  (first | refine wX ?_ | exact wZ)
                  exact fin_p (SlAt (some ⟨b, 0, none⟩) (L.length * 1) (u8s L)) ⟨_, rfl, bytesR_own _ _ _⟩ (fun w hw => hw.2.1)
      · have hk1 : d.count ≠ -1 := by simpa using h2
        have hd3 : 1 ≤ d.count ∧ d.count ≤ 1000 := by omega
        obtain ⟨n, hk⟩ := Int.eq_ofNat_of_zero_le (show 0 ≤ d.count by omega)
        have hn2 : 1 ≤ n ∧ n ≤ 1000 := by omega
        have hT : textS d s = .ok (if d.letter == 90 && decide (n < s.length) then (s.take n ++ List.replicate (n - s.length) (if d.letter == 65 then 32 else 0)).set (n - 1) 0 else s.take n ++ List.replicate (n - s.length) (if d.letter == 65 then 32 else 0)) := by
          have hn : cntS d 0 = n := by unfold cntS; rw [if_neg hk2, if_neg hk1, hk]; rfl
          unfold textS
          rw [if_neg (by rw [hH]; simp), if_neg hk1, hn]
        (first | refine wX ?_ | exact wZ)
        refine brd_eq (fun h => absurd h h2) (fun _ => ?_)
        (first | refine wX ?_ | exact wZ)
        rw [hk]
        -- n: how many bytes, (n : Int): the same as an Int
        (first | refine wX ?_ | exact wZ)
        rw [h65]
        generalize hF : (if d.letter == 65 then (32 : UInt8) else 0) = F at hT
        have hfill : ∀ (b : Bool), (d.letter == 65) = b → F = if b then 32 else 0 := fun b h => by rw [← hF, h]
        cases h6 : d.letter == 65 with
        | true =>
          have hF2 := hfill _ h6
          have hFv : (F.toNat : Int) = 32 := by rw [hF2]; rfl
          (first | refine wX ?_ | exact wZ)
          refine ReadW.sl_h (min n s.length) rfl Tryz.underlying9 rfl rfl ⟨by (show minI (n : Int) _ = _); (first | rw [hz] | skip); (unfold minI); (split <;> omega), Nat.min_le_right _ _⟩ ?_
          rw [← List.take_eq_take_min]
          (first | refine wX ?_ | exact wZ)
          refine EffW.bytesOf (s.take n) rfl Tryz.underlying9 Tryz.underlying48 Tryz.underlying5 rfl (by rw [List.length_take]; omega) fun b0 cap0 _ _ => ?_
          have hLl : ∀ i, (s.take n ++ List.replicate i F).length = min n s.length + i := fun i => by simp
          (first | refine wX ?_ | exact wZ)
          refine LoopN.intro (Nat × Nat × Nat) (fun ⟨i, _, _⟩ => i ≤ n - s.length)
            (fun ⟨i, b, cap⟩ => mkS Tryz.f48.ntmps 0 [(1, .c (.v (.string (bs s)))), (2, .c (.lp 1 0)), (6, .c (.v (.int .i64 (n : Int)))), (7, .c (.v (.int .u8 (32 : Int)))), (8, .c (.v (.slice (some ⟨b, 0, none⟩) (s.take n ++ List.replicate i F).length cap)))])
            (fun ⟨i, b, cap⟩ => [.fact fun _ => True, .blk 58 [.v (.int .u8 (d.letter.toNat : Int)), .v (.bool d.big), .v (.int .i64 d.count)], own (s.take n ++ List.replicate i F) b cap]) (fun ⟨i, _, _⟩ => n - s.length - i) [] rfl
            (fun _ => rfl) (fun _ => rfl) (fun _ _ => okHB_eq rfl) ⟨(0, b0, cap0), Nat.zero_le _, ?_, ?_⟩ ?_
          · (repeat' (first | exact trivial | refine And.intro (by with_reducible rfl) ?_ | (with_reducible exact wkC_refl _) | (with_reducible exact wkCs_refl _) | refine And.intro ?_ ?_))
            all_goals first | rfl | simp
          · exact ⟨wkE_refl _, wkE_refl _, .inl ⟨rfl, rfl, by simp, rfl, by simp, rfl⟩, wkH_nil _⟩
          rintro ⟨i, b, cap⟩ hi
          have hi2 := hLl i
          (first | refine wX ?_ | exact wZ)
          refine brd_dec (fun h7 => ?_) (fun h7 => ?_)
          · (first | refine wX ?_ | exact wZ)
            refine AppN.grow 2 (u8s (s.take n ++ List.replicate i F)) [_] rfl rfl ⟨Nat.le_refl 1, ⟨by show ((s.take n ++ List.replicate i F).length + 1) * 1 ≤ _; omega, by omega⟩, by show 1 ≠ 0; omega⟩ fun b' cap' h1 h2 => ?_
            (first | refine wX ?_ | exact wZ)
            refine ⟨(i + 1, b', cap'), by show i + 1 ≤ n - s.length; omega, by show n - s.length - (i + 1) < n - s.length - i; omega, ?_, ?_⟩
            · (repeat' (first | exact trivial | refine And.intro (by with_reducible rfl) ?_ | (with_reducible exact wkC_refl _) | (with_reducible exact wkCs_refl _) | refine And.intro ?_ ?_))
              all_goals rw [hLl, hLl]; rfl
            · exact ⟨wkE_refl _, wkE_refl _, .inl ⟨rfl, rfl, by rw [List.replicate_succ', ← List.append_assoc, ← hFv]; simp [u8s], rfl, by rw [hLl, hLl]; rfl, rfl⟩, wkH_nil _⟩
          · have hie : i = n - s.length := by omega
            rw [← hie] at hT
            generalize hL : s.take n ++ List.replicate i F = L at *
            (first | refine wX ?_ | exact wZ)
            rw [h90]
            cases h9 : d.letter == 90 with
            | false =>
              rw [h9, Bool.false_and, if_neg (by simp)] at hT
              rw [hT]
              (first | refine wX ?_ | exact wZ)
              exact fin_p (SlAt (some ⟨b, 0, none⟩) (L.length * 1) (u8s L)) ⟨_, rfl, bytesR_own _ _ _⟩ (fun w hw => hw.2.1)
            | true =>
              (first | refine wX ?_ | exact wZ)
              rw [hz]
              refine brd_dec (fun h10 => ?_) (fun h10 => ?_)
              · rw [h9, decide_eq_true (show n < s.length by omega), if_pos (by rfl)] at hT
                have hw1 : IntKind.i64.wrap ((n : Int) - 1) = ((n - 1 : Nat) : Int) := by rw [wrap_i64 (by omega)]; omega
                (first | refine wX ?_ | exact wZ)
                first | refine brd_dec (fun _ => ?_) (fun h => absurd h (by omega)) | skip
                (first | refine wX ?_ | exact wZ)
                first | refine Nd.mk ⟨rfl, by rw [hw1]; omega, by rw [hw1]; omega⟩ ?_ | skip
                (first | refine wX ?_ | exact wZ)
                refine EffW.appTo (i := 2) (q := n - 1) (ys := [_]) (u8s (L.set (n - 1) 0)) 1 rfl (ptr_lit rfl (by show (IntKind.i64.wrap ((n : Int) - 1)).toNat * 1 = n - 1; rw [hw1]; omega)) rfl rfl rfl rfl rfl (by show n - 1 + 1 ≤ L.length * 1; omega) (u8s_put 0 (by omega)) rfl ?_
                (first | refine wX ?_ | exact wZ)
                rw [hT]
                exact fin_p (SlAt (some ⟨b, 0, none⟩) (L.length * 1) (u8s (L.set (n - 1) 0))) ⟨_, rfl, bytesR_cells (by simp) rfl⟩ (fun w hw => hw.2.1)
              · rw [h9, decide_eq_false (show ¬ n < s.length by omega), if_neg (by simp)] at hT
                rw [hT]
                (first | refine wX ?_ | exact wZ)
                exact fin_p (SlAt (some ⟨b, 0, none⟩) (L.length * 1) (u8s L)) ⟨_, rfl, bytesR_own _ _ _⟩ (fun w hw => hw.2.1)
        | false =>
          have hF2 := hfill _ h6
          have hFv : (F.toNat : Int) = 0 := by rw [hF2]; rfl
          (first | refine wX ?_ | exact wZ)
          refine ReadW.sl_h (min n s.length) rfl Tryz.underlying9 rfl rfl ⟨by (show minI (n : Int) _ = _); (first | rw [hz] | skip); (unfold minI); (split <;> omega), Nat.min_le_right _ _⟩ ?_
          rw [← List.take_eq_take_min]
          (first | refine wX ?_ | exact wZ)
          refine EffW.bytesOf (s.take n) rfl Tryz.underlying9 Tryz.underlying48 Tryz.underlying5 rfl (by rw [List.length_take]; omega) fun b0 cap0 _ _ => ?_
          have hLl : ∀ i, (s.take n ++ List.replicate i F).length = min n s.length + i := fun i => by simp
          (first | refine wX ?_ | exact wZ)
          refine LoopN.intro (Nat × Nat × Nat) (fun ⟨i, _, _⟩ => i ≤ n - s.length)
            (fun ⟨i, b, cap⟩ => mkS Tryz.f48.ntmps 0 [(1, .c (.v (.string (bs s)))), (2, .c (.lp 1 0)), (6, .c (.v (.int .i64 (n : Int)))), (7, .c (.v (.int .u8 (0 : Int)))), (8, .c (.v (.slice (some ⟨b, 0, none⟩) (s.take n ++ List.replicate i F).length cap)))])
            (fun ⟨i, b, cap⟩ => [.fact fun _ => True, .blk 58 [.v (.int .u8 (d.letter.toNat : Int)), .v (.bool d.big), .v (.int .i64 d.count)], own (s.take n ++ List.replicate i F) b cap]) (fun ⟨i, _, _⟩ => n - s.length - i) [] rfl
            (fun _ => rfl) (fun _ => rfl) (fun _ _ => okHB_eq rfl) ⟨(0, b0, cap0), Nat.zero_le _, ?_, ?_⟩ ?_
          · (repeat' (first | exact trivial | refine And.intro (by with_reducible rfl) ?_ | (with_reducible exact wkC_refl _) | (with_reducible exact wkCs_refl _) | refine And.intro ?_ ?_))
            all_goals first | rfl | simp
          · exact ⟨wkE_refl _, wkE_refl _, .inl ⟨rfl, rfl, by simp, rfl, by simp, rfl⟩, wkH_nil _⟩
          rintro ⟨i, b, cap⟩ hi
          have hi2 := hLl i
          (first | refine wX ?_ | exact wZ)
          refine brd_dec (fun h7 => ?_) (fun h7 => ?_)
          · (first | refine wX ?_ | exact wZ)
            refine AppN.grow 2 (u8s (s.take n ++ List.replicate i F)) [_] rfl rfl ⟨Nat.le_refl 1, ⟨by show ((s.take n ++ List.replicate i F).length + 1) * 1 ≤ _; omega, by omega⟩, by show 1 ≠ 0; omega⟩ fun b' cap' h1 h2 => ?_
            (first | refine wX ?_ | exact wZ)
            refine ⟨(i + 1, b', cap'), by show i + 1 ≤ n - s.length; omega, by show n - s.length - (i + 1) < n - s.length - i; omega, ?_, ?_⟩
            · (repeat' (first | exact trivial | refine And.intro (by with_reducible rfl) ?_ | (with_reducible exact wkC_refl _) | (with_reducible exact wkCs_refl _) | refine And.intro ?_ ?_))
              all_goals rw [hLl, hLl]; rfl
            · exact ⟨wkE_refl _, wkE_refl _, .inl ⟨rfl, rfl, by rw [List.replicate_succ', ← List.append_assoc, ← hFv]; simp [u8s], rfl, by rw [hLl, hLl]; rfl, rfl⟩, wkH_nil _⟩
          · have hie : i = n - s.length := by omega
            rw [← hie] at hT
            generalize hL : s.take n ++ List.replicate i F = L at *
            (first | refine wX ?_ | exact wZ)
            rw [h90]
            cases h9 : d.letter == 90 with
            | false =>
              rw [h9, Bool.false_and, if_neg (by simp)] at hT
              rw [hT]
              (first | refine wX ?_ | exact wZ)
              exact fin_p (SlAt (some ⟨b, 0, none⟩) (L.length * 1) (u8s L)) ⟨_, rfl, bytesR_own _ _ _⟩ (fun w hw => hw.2.1)
            | true =>
              (first | refine wX ?_ | exact wZ)
              rw [hz]
              refine brd_dec (fun h10 => ?_) (fun h10 => ?_)
              · rw [h9, decide_eq_true (show n < s.length by omega), if_pos (by rfl)] at hT
                have hw1 : IntKind.i64.wrap ((n : Int) - 1) = ((n - 1 : Nat) : Int) := by rw [wrap_i64 (by omega)]; omega
                (first | refine wX ?_ | exact wZ)
                first | refine brd_dec (fun _ => ?_) (fun h => absurd h (by omega)) | skip
                (first | refine wX ?_ | exact wZ)
                first | refine Nd.mk ⟨rfl, by rw [hw1]; omega, by rw [hw1]; omega⟩ ?_ | skip
                (first | refine wX ?_ | exact wZ)
                refine EffW.appTo (i := 2) (q := n - 1) (ys := [_]) (u8s (L.set (n - 1) 0)) 1 rfl (ptr_lit rfl (by show (IntKind.i64.wrap ((n : Int) - 1)).toNat * 1 = n - 1; rw [hw1]; omega)) rfl rfl rfl rfl rfl (by show n - 1 + 1 ≤ L.length * 1; omega) (u8s_put 0 (by omega)) rfl ?_
                (first | refine wX ?_ | exact wZ)
                rw [hT]
                exact fin_p (SlAt (some ⟨b, 0, none⟩) (L.length * 1) (u8s (L.set (n - 1) 0))) ⟨_, rfl, bytesR_cells (by simp) rfl⟩ (fun w hw => hw.2.1)
              · rw [h9, decide_eq_false (show ¬ n < s.length by omega), if_neg (by simp)] at hT
                rw [hT]
                (first | refine wX ?_ | exact wZ)
                exact fin_p (SlAt (some ⟨b, 0, none⟩) (L.length * 1) (u8s L)) ⟨_, rfl, bytesR_own _ _ _⟩ (fun w hw => hw.2.1)
end Go.Proofs.YtjkchonpnocffaaGreatDoor

/-
  Plain Lean: what a directive of a form may be.
-/
namespace Go.Pack
/-- A count that a letter may have. -/
def CntOk (c : UInt8) (n : Int) : Prop := n = -1 ∧ c ≠ 120 ∧ c ≠ 64 ∨ n = -2 ∨ 0 ≤ n ∧ n ≤ 1000 ∧ (c ≠ 64 → 1 ≤ n)
theorem num_ge : ∀ (ds : B) (n : Nat), n ≤ ds.foldl (fun n c => n * 10 + (c.toNat - 48)) n
  | [], n => Nat.le_refl n
  | a :: ds, n => Nat.le_trans (by omega) (num_ge ds (n * 10 + (a.toNat - 48)))
theorem cnt_ok {c : UInt8} {r : B} {x : Int × B} (h : cnt c r = some x) : CntOk c x.1 := by
  unfold cnt at h
  split at h
  · split at h
    · cases h
    · rename_i h1
      cases h
      simp at h1
      exact .inl ⟨rfl, h1⟩
  split at h
  · cases h; exact .inr (.inl rfl)
  split at h
  · rename_i h0 h1
    cases h
    refine .inr (.inr ⟨by simp, ?_, fun hc => ?_⟩)
    · unfold fine at h1
      simp only [Bool.and_eq_true, decide_eq_true_eq] at h1
      have := h1.1
      simp only
      omega
    · unfold fine at h1
      have hall := tw_all r
      generalize r.takeWhile dig = ds at *
      cases ds with
      | nil => exact absurd rfl h0
      | cons a ds =>
        simp only [Bool.and_eq_true, Bool.or_eq_true, decide_eq_true_eq, List.head?_cons, bne_iff_ne, ne_eq, beq_iff_eq] at h1
        rcases h1.2 with h2 | h2
        · have hda := hall a List.mem_cons_self
          unfold dig at hda
          rw [Bool.and_eq_true, decide_eq_true_eq] at hda
          have h48 : (48 : UInt8).toNat ≤ a.toNat := UInt8.le_iff_toNat_le.1 hda.1
          have hne : a.toNat ≠ 48 := fun h => h2 (by rw [show a = 48 from UInt8.toNat_inj.1 h])
          have := num_ge ds (0 * 10 + (a.toNat - 48))
          have e : num (a :: ds) = ds.foldl (fun n c => n * 10 + (c.toNat - 48)) (0 * 10 + (a.toNat - 48)) := rfl
          have h48' : 48 ≤ a.toNat := h48
          simp only
          omega
        · exact absurd h2.1 hc
  · cases h
def DirOk (d : Dir) : Prop := letters.contains d.letter = true ∧ CntOk d.letter d.count
theorem one_ok {c : UInt8} {r : B} {x : Dir × B} (h : one c r = some x) : DirOk x.1 := by
  unfold one at h
  split at h
  · rename_i hl
    split at h
    · split at h
      · obtain ⟨y, hy, rfl⟩ := Option.map_eq_some_iff.1 h
        exact ⟨hl, cnt_ok hy⟩
      · cases h
    · obtain ⟨y, hy, rfl⟩ := Option.map_eq_some_iff.1 h
      exact ⟨hl, cnt_ok hy⟩
  · cases h
theorem dirsF_ok : ∀ (f : Nat) (s : B) (l : List Dir), dirsF f s = some l → ∀ d ∈ l, DirOk d
  | 0, _, _, h => by cases h
  | _ + 1, [], l, h => by cases h; intro d hd; cases hd
  | f + 1, c :: r, l, h => by
    unfold dirsF at h
    split at h
    · exact dirsF_ok f r l h
    · cases ho : one c r with
      | none => rw [ho] at h; cases h
      | some x =>
        rw [ho] at h
        obtain ⟨m, hm, rfl⟩ := Option.map_eq_some_iff.1 h
        intro d hd
        rcases List.mem_cons.1 hd with rfl | hd
        · exact one_ok ho
        · exact dirsF_ok f x.2 m hm d hd
theorem forms_ok {s : B} {l : List Dir} (h : forms s = some l) : l.length ≤ 50 ∧ ∀ d ∈ l, DirOk d := by
  unfold forms at h
  split at h
  · rename_i m hm
    split at h
    · rename_i h50
      cases h
      exact ⟨h50, dirsF_ok _ s _ hm⟩
    · cases h
  · cases h
end Go.Pack

/-
  Contract: the next item (program).
-/
namespace Go.Proofs.YtjkchonpnocffaaGreatDoor
open Go.AX Go.RowKit Go.Pack
set_option maxRecDepth 20000

def itemC (x : Pack.Item) : List Value := [.bool x.isText, .int .i64 x.int, .string (bs x.text)]
def itemsC (l : List Pack.Item) : List Value := l.flatMap itemC
theorem itemsC_get (l : List Pack.Item) (i j : Nat) (hj : j < 3) {x : Pack.Item} (hx : l[i]? = some x) : (itemsC l)[i * 3 + j]? = (itemC x)[j]? := by
  unfold itemsC
  rw [flat_get (g := itemC) (m := 3) (fun _ => rfl) l i j hj, hx]
  rfl
/-- The items lie in memory. -/
def ItemsF (ia : Option Addr) (items : List Pack.Item) (w : World) : Prop := SlAt ia (items.length * 3) (itemsC items) w
/-- A packer: what is written, the items, how many are used. -/
def pkE (pb : Nat) (out : Option Nat) (len cap : Nat) (ia : Option Addr) (n icap used : Nat) : Ent := .app 50 3 [.slice (at0 out) len cap, .slice ia n icap, .int .i64 (used : Int)] (some ⟨pb, 0, none⟩) 1 1
/-- What next gives: the item, the error, how many are used then. -/
def nextS (items : List Pack.Item) (text : Bool) (used : Nat) : Pack.Item × Int × Nat := match items[used]? with
  | none => (⟨false, 0, []⟩, 14, used)
  | some x => if x.isText != text then (⟨false, 0, []⟩, 1, used + 1) else (x, 0, used + 1)
theorem next_c (pb : Nat) (out : Option Nat) (len cap : Nat) (ia : Option Addr) (items : List Pack.Item) (icap used : Nat) (t : Bool) (hia : items ≠ [] → ia.isSome = true) (hu : used ≤ items.length) (hl : items.length ≤ 100000) :
    SpecH Tryz.prog 47 [.c (.v (.pointer (some ⟨pb, 0, none⟩))), .c (.v (.bool t))] [.fact (ItemsF ia items), pkE pb out len cap ia items.length icap used]
      (RetG (ι := Unit) (fun _ => True) (fun _ => .tuple #[.agg (itemC (nextS items t used).1).toArray, .int .i64 (nextS items t used).2.1]) fun _ => [.fact (ItemsF ia items), pkE pb out len cap ia items.length icap (nextS items t used).2.2]) := by
  refine ownC hm Tryz.func47 (by kernel_rfl) rfl rfl (fun _ _ => okHB_eq rfl) (fun _ _ => Nat.le_refl _) ?_
  (first | refine wX ?_ | exact wZ)
  refine LdN.one (a := some ⟨pb, 0, none⟩) (q := 2) (.int .i64 (used : Int)) rfl (fun w hw => hw.2.1) rfl ?_
  (first | refine wX ?_ | exact wZ)
  refine LdN.one (a := some ⟨pb, 0, none⟩) (q := 1) (.slice ia items.length icap) rfl (fun w hw => hw.2.1) rfl ?_
  (first | refine wX ?_ | exact wZ)
  refine brd_eq (fun h1 => ?_) (fun h1 => ?_)
  · have hn : items[used]? = none := List.getElem?_eq_none (by omega)
    unfold nextS
    rw [hn]
    (first | refine wX ?_ | exact wZ)
    exact ⟨(), trivial, rfl, wkE_refl _, wkE_refl _, wkH_nil _⟩
  · obtain ⟨x, hx⟩ : ∃ x, items[used]? = some x := ⟨_, List.getElem?_eq_getElem (by omega)⟩
    (first | refine wX ?_ | exact wZ)
    refine DrawN.plan [0, 4] [(1, 1), (2, 1), (3, 1), (5, 1), (6, 1), (7, 1), (8, 1), (9, 1)] [(10, 2), (11, 0)] (by decide +kernel) ?_
    (first | refine wX ?_ | exact wZ)
    refine LdN.one (a := some ⟨pb, 0, none⟩) (q := 1) (.slice ia items.length icap) rfl (fun w hw => hw.2.1) rfl ?_
    (first | refine wX ?_ | exact wZ)
    refine LdN.one (a := some ⟨pb, 0, none⟩) (q := 2) (.int .i64 (used : Int)) rfl (fun w hw => hw.2.1) rfl ?_
    (first | refine wX ?_ | exact wZ)
    refine Nd.mk ⟨hia (fun h => by rw [h] at hx; cases hx), by omega, by omega⟩ ?_
    (first | refine wX ?_ | exact wZ)
    refine LdN.agg (itemC x) rfl (fun w hw => hw.1) rfl (fun j hj => by
      rw [Int.toNat_natCast]
      exact itemsC_get items used j hj hx) ?_
    (first | refine wX ?_ | exact wZ)
    refine LdN.one (a := some ⟨pb, 0, none⟩) (q := 2) (.int .i64 (used : Int)) rfl (fun w hw => hw.2.1) rfl ?_
    (first | refine wX ?_ | exact wZ)
    refine EffW.appTo (i := 1) (q := 2) (ys := [_]) [.slice (at0 out) len cap, .slice ia items.length icap, .int .i64 ((used + 1 : Nat) : Int)] 3 rfl rfl rfl rfl rfl rfl rfl (Nat.le_of_ble_eq_true rfl) (by
      show [_, _, Value.int .i64 (IntKind.i64.wrap ((used : Int) + 1))] = _
      rw [wrap_i64 (by omega)]
      rfl) rfl ?_
    (first | refine wX ?_ | exact wZ)
    cases hb : (x.isText == t) with
    | false =>
      have hN : nextS items t used = (⟨false, 0, []⟩, 1, used + 1) := by unfold nextS; rw [hx]; simp only; rw [if_pos (by rw [bne, hb]; rfl)]
      rw [hN]
      (first | refine wX ?_ | exact wZ)
      exact ⟨(), trivial, rfl, wkE_refl _, wkE_refl _, wkH_nil _⟩
    | true =>
      have hN : nextS items t used = (x, 0, used + 1) := by unfold nextS; rw [hx]; simp only; rw [if_neg (by rw [bne, hb]; simp)]
      rw [hN]
      (first | refine wX ?_ | exact wZ)
      exact ⟨(), trivial, rfl, wkE_refl _, wkE_refl _, wkH_nil _⟩
end Go.Proofs.YtjkchonpnocffaaGreatDoor

/-
  Plain Lean: what is packed is not too long, items are not used twice.
-/
namespace Go.Pack
theorem fin_fit {o l : B} {v : Nat} {r : B × Nat} (h : (if o.length + l.length > 100000 then Except.error 5 else .ok (o ++ l, v) : Except Int (B × Nat)) = .ok r) : r.1.length ≤ 100000 ∧ r.2 = v := by
  split at h
  · cases h
  · cases h
    exact ⟨by simp only [List.length_append]; omega, rfl⟩
theorem oneS_fit {d : Dir} {items : List Item} {out : B} {used : Nat} {r : B × Nat} (hu : used ≤ items.length) (h : oneS d items out used = .ok r) : r.1.length ≤ 100000 ∧ r.2 ≤ items.length := by
  unfold oneS at h
  simp only at h
  split at h
  · have := fin_fit h
    omega
  split at h
  · have := fin_fit h
    omega
  split at h
  · cases h
  · rename_i x hx
    have hlt : used < items.length := by
      apply Classical.byContradiction
      intro hn
      rw [List.getElem?_eq_none (by omega)] at hx
      cases hx
    split at h
    · cases h
    split at h
    · cases h
    · have := fin_fit h
      omega
theorem timesS_fit {d : Dir} {items : List Item} : ∀ {k : Nat} {out : B} {used : Nat} {r : B × Nat}, used ≤ items.length → out.length ≤ 100000 → timesS d items k out used = .ok r → r.1.length ≤ 100000 ∧ r.2 ≤ items.length
  | 0, out, used, r, hu, ho, h => by cases h; exact ⟨ho, hu⟩
  | k + 1, out, used, r, hu, ho, h => by
    unfold timesS at h
    cases h1 : oneS d items out used with
    | error e => rw [h1] at h; cases h
    | ok x =>
      rw [h1] at h
      have := oneS_fit hu h1
      exact timesS_fit this.2 this.1 h
theorem runS_fit {items : List Item} : ∀ {l : List Dir} {out : B} {used : Nat} {r : B × Nat}, used ≤ items.length → out.length ≤ 100000 → runS items l out used = .ok r → r.1.length ≤ 100000 ∧ r.2 ≤ items.length
  | [], out, used, r, hu, ho, h => by cases h; exact ⟨ho, hu⟩
  | d :: l, out, used, r, hu, ho, h => by
    unfold runS at h
    cases h1 : timesS d items (times d (items.length - used)) out used with
    | error e => rw [h1] at h; cases h
    | ok x =>
      rw [h1] at h
      have := timesS_fit hu ho h1
      exact runS_fit this.2 this.1 h
theorem packS_fit {form : B} {items : List Item} {r : B × Nat} (h : packS form items = .ok r) : r.1.length ≤ 100000 ∧ r.2 ≤ items.length := by
  unfold packS at h
  split at h
  · cases h
  · exact runS_fit (Nat.zero_le _) (Nat.zero_le _) h
theorem hexS_err {n : Nat} {s : B} {e : Int} (h : hexS n s = .error e) : e = 1 := by
  unfold hexS at h
  split at h
  · cases h
  · cases h; rfl
theorem textS_err {d : Dir} {s : B} {e : Int} (h : textS d s = .error e) : e = 1 := by
  unfold textS at h
  split at h
  · exact hexS_err h
  split at h
  · cases h
  · cases h
theorem numS_err {d : Dir} {n : Int} {e : Int} (h : numS d n = .error e) : e = 5 := by
  unfold numS at h
  split at h
  · split at h
    · cases h; rfl
    · cases h
  split at h
  · split at h
    · cases h
    · cases h; rfl
  split at h
  · cases h
  · cases h; rfl
theorem fin_err {o l : B} {v : Nat} {e : Int} (h : (if o.length + l.length > 100000 then Except.error 5 else .ok (o ++ l, v) : Except Int (B × Nat)) = .error e) : e = 5 := by
  split at h
  · cases h; rfl
  · cases h
theorem oneS_err {d : Dir} {items : List Item} {out : B} {used : Nat} {e : Int} (h : oneS d items out used = .error e) : e ≠ 0 := by
  unfold oneS at h
  simp only at h
  split at h
  · rw [fin_err h]; decide
  split at h
  · rw [fin_err h]; decide
  split at h
  · cases h; decide
  · split at h
    · cases h; decide
    split at h
    · rename_i e' he
      cases h
      split at he
      · rw [textS_err he]; decide
      · rw [numS_err he]; decide
    · rw [fin_err h]; decide
theorem timesS_err {d : Dir} {items : List Item} {e : Int} : ∀ {k : Nat} {out : B} {used : Nat}, timesS d items k out used = .error e → e ≠ 0
  | 0, _, _, h => by cases h
  | k + 1, out, used, h => by
    unfold timesS at h
    cases h1 : oneS d items out used with
    | error e' => rw [h1] at h; cases h; exact oneS_err h1
    | ok x => rw [h1] at h; exact timesS_err h
theorem runS_err {items : List Item} {e : Int} : ∀ {l : List Dir} {out : B} {used : Nat}, runS items l out used = .error e → e ≠ 0
  | [], _, _, h => by cases h
  | d :: l, out, used, h => by
    unfold runS at h
    cases h1 : timesS d items (times d (items.length - used)) out used with
    | error e' => rw [h1] at h; cases h; exact timesS_err h1
    | ok x => rw [h1] at h; exact runS_err h
theorem packS_err {form : B} {items : List Item} {e : Int} (h : packS form items = .error e) : e ≠ 0 := by
  unfold packS at h
  split at h
  · cases h; decide
  · exact runS_err h
/-- The size behind one directive more. -/
def szStep (d : Dir) (n : Nat) : Option Nat :=
  if d.letter == 64 then some (max 0 d.count).toNat
  else if d.count = -1 || d.letter == 119 || d.letter == 85 then none
  else if d.letter == 72 then some (n + (cntS d 0 + 1) / 2)
  else if isStr d.letter || d.letter == 120 then some (n + cntS d 0)
  else some (n + cntS d 0 * sz d.letter)
theorem sizeS_cons (d : Dir) (l : List Dir) (n : Nat) : sizeS (d :: l) n = match szStep d n with | none => none | some m => sizeS l m := by
  unfold szStep
  rw [sizeS]
  split
  · rfl
  split
  · rfl
  split
  · rfl
  split <;> rfl
theorem sz_le8 (c : UInt8) : sz c ≤ 8 := by
  unfold sz
  split
  · decide
  split
  · decide
  split
  · decide
  split <;> decide
theorem szStep_le {d : Dir} {n m : Nat} (hd : d.count ≤ 1000) (h : szStep d n = some m) : m ≤ n + 8000 := by
  have hc : cntS d 0 ≤ 1000 := by
    unfold cntS
    split
    · omega
    split <;> omega
  have h8 := sz_le8 d.letter
  have hm : cntS d 0 * sz d.letter ≤ 1000 * 8 := Nat.mul_le_mul hc h8
  unfold szStep at h
  split at h
  · cases h; omega
  split at h
  · cases h
  split at h
  · cases h; omega
  split at h
  · cases h; omega
  · cases h; omega
theorem hexP_half : ∀ {t b : B}, t.length % 2 = 0 → hexP t = some b → 2 * b.length = t.length
  | [], b, _, h => by cases h; rfl
  | [_], b, h2, _ => by cases h2
  | x :: y :: t, b, h2, h => by
    unfold hexP at h
    split at h
    · rename_i m _ _ hm
      cases h
      have := hexP_half (by simp only [List.length_cons] at h2; omega) hm
      simp only [List.length_cons]
      omega
    · cases h
theorem hexS_len {n : Nat} {s r : B} (h : hexS n s = .ok r) : r.length = (n + 1) / 2 := by
  unfold hexS at h
  split at h
  · rename_i l hl
    cases h
    have h2 : (hexT n s).length = n + n % 2 := by
      unfold hexT
      rw [List.length_append, List.length_take, List.length_replicate]
      omega
    have := hexP_half (by rw [h2]; omega) hl
    omega
  · cases h
theorem cntS_le {d : Dir} {n : Nat} (h : d.count ≤ 1000) : cntS d n ≤ max n 1000 := by
  unfold cntS
  split
  · omega
  split <;> omega
theorem textS_size {d : Dir} {s r : B} (hs : s.length ≤ 140737488351232) (hd : d.count ≤ 1000) (h : textS d s = .ok r) : r.length ≤ 140737488355328 := by
  unfold textS at h
  have h1 := cntS_le (n := s.length) hd
  have h2 := cntS_le (n := 0) hd
  split at h
  · have := hexS_len h
    omega
  split at h
  · cases h
    split <;> simp <;> omega
  · simp only at h
    cases h
    split <;> simp <;> omega
theorem sevR_size : ∀ (f n : Nat), (sevR f n).length ≤ f
  | 0, _ => Nat.le_refl _
  | f + 1, n => by
    unfold sevR
    split
    · exact Nat.zero_le _
    · have := sevR_size f (n / 128)
      simp
      omega
theorem numS_size {d : Dir} {n : Int} {r : B} (h : numS d n = .ok r) : r.length ≤ 1000000 := by
  unfold numS at h
  split at h
  · split at h
    · cases h
    · cases h
      unfold sevens
      have := sevR_size 10 (n.toNat / 128)
      simp
      omega
  split at h
  · split at h
    · cases h
      unfold utf
      split
      · simp
      split
      · simp
      split <;> simp
    · cases h
  split at h
  · have hz : sz d.letter ≤ 8 := by
      unfold sz
      split
      · decide
      split
      · decide
      split
      · decide
      split <;> decide
    cases h
    split <;> simp [le_len] <;> omega
  · cases h
end Go.Pack

/-
  Contract: one item, or a place, is written (program). (Begun: ends in sorry.)
-/
namespace Go.Proofs.YtjkchonpnocffaaGreatDoor
open Go.AX Go.RowKit Go.Pack
set_option maxRecDepth 20000

/-- What one leaves: bytes, where they lie, the items used, the error. -/
structure OSt where
  l : List UInt8
  ob : Option Nat
  cap : Nat
  used : Nat
  e : Int
def OSt.ok (d : Dir) (items : List Pack.Item) (l : List UInt8) (used : Nat) (i : OSt) : Prop :=
  (i.ob = none → i.l = [] ∧ i.cap = 0) ∧ i.l.length ≤ i.cap ∧ (if i.e = 0 then oneS d items l used = .ok (i.l, i.used) else oneS d items l used = .error i.e)
def outE (l : List UInt8) (ob : Option Nat) (cap : Nat) : Ent := .app 5 1 (u8s l) (at0 ob) l.length cap
theorem one_c (pb : Nat) (d : Dir) (l : List UInt8) (ob : Option Nat) (cap : Nat) (ia : Option Addr) (items : List Pack.Item) (icap used : Nat) (hd : DirOk d) (hob : (ob = none → l = [] ∧ cap = 0) ∧ l.length ≤ cap) (hll : l.length ≤ 100000)
    (hia : items ≠ [] → ia.isSome = true) (hu : used ≤ items.length) (hl : items.length ≤ 100000) (hi : ∀ x ∈ items, x.text.length ≤ 140737488351232 ∧ -9223372036854775808 ≤ x.int ∧ x.int < 9223372036854775808) :
    SpecH Tryz.prog 32 [.c (.v (.pointer (some ⟨pb, 0, none⟩))), .c (.v (dirV d))] [.fact (ItemsF ia items), pkE pb ob l.length cap ia items.length icap used, outE l ob cap]
      (RetG (OSt.ok d items l used) (fun i => .int .i64 i.e) fun i => [.fact (ItemsF ia items), pkE pb i.ob i.l.length i.cap ia items.length icap i.used, outE i.l i.ob i.cap]) := by
  refine ownC hm Tryz.func32 (by kernel_rfl) rfl rfl (fun _ _ => okHB_eq rfl) (fun _ _ => Nat.le_refl _) ?_
  have h120 : ((d.letter.toNat : Int) == 120) = (d.letter == 120) := u8_eq (n := 120) (by decide)
  have h64 : ((d.letter.toNat : Int) == 64) = (d.letter == 64) := u8_eq (n := 64) (by decide)
  (first | refine wX ?_ | exact wZ)
  rw [h120]
  cases hx : d.letter == 120 with
  | true =>
    obtain ⟨m, hm⟩ : ∃ m : Nat, (max 1 d.count).toNat = m := ⟨_, rfl⟩
    have hmx : maxI 1 d.count = (m : Int) := by unfold maxI; split <;> omega
    have hm2 : m ≤ 1000 := by
      have := hd.2
      unfold CntOk at this
      omega
    (first | refine wX ?_ | exact wZ)
    rw [hmx]
    (first | refine wX ?_ | exact wZ)
    refine EffW.mkBytes (e := 5) m rfl (by kernel_rfl) (by kernel_rfl) rfl rfl (by omega) fun bb => ?_
    (first | refine wX ?_ | exact wZ)
    refine LdN.one (a := some ⟨pb, 0, none⟩) (q := 0) (.slice (at0 ob) l.length cap) rfl (fun w hw => hw.2.1) rfl ?_
    (first | refine wX ?_ | exact wZ)
    have hm1 : 1 ≤ m := by omega
    have hone : oneS d items l used = if l.length + m > 100000 then .error 5 else .ok (l ++ List.replicate m 0, used) := by
      unfold oneS
      simp only
      rw [if_pos hx, hm, List.length_replicate]
    refine brd_dec (fun h1 => ?_) (fun h1 => ?_)
    · obtain ⟨k, rfl⟩ : ∃ k, m = k + 1 := ⟨m - 1, by omega⟩
      (first | refine wX ?_ | exact wZ)
      refine LdN.one (a := some ⟨pb, 0, none⟩) (q := 0) (.slice (at0 ob) l.length cap) rfl (fun w hw => hw.2.1) rfl ?_
      (first | refine wX ?_ | exact wZ)
      refine Nd.mk rfl ?_
      (conv => whnf)
      refine ApN.intro (u8s (List.replicate (k + 1) 0)) (by show _ = (k + 1) * 1; simp [u8s]) (fun u hu => by simp [u8s] at hu; rw [hu]; rfl) (fun w hw j v hv => (hw.2.2.2.1).cell (by simpa [u8s] using hv)) ?_
      (conv => whnf)
      refine AppN.grow 2 (u8s l) (u8s (List.replicate (k + 1) 0)) rfl (plains_vs _) ⟨by omega, ⟨by show (l.length + (k + 1)) * 1 ≤ _; omega, by omega⟩, by show 1 ≠ 0; omega⟩ fun b' cap' h2 h3 => ?_
      (first | refine wX ?_ | exact wZ)
      refine EffW.appTo (i := 1) (q := 0) (ys := [_]) [.slice (some ⟨b', 0, none⟩) (l.length + (k + 1)) cap', .slice ia items.length icap, .int .i64 (used : Int)] 3 rfl rfl rfl rfl rfl rfl rfl (Nat.le_of_ble_eq_true rfl) rfl rfl ?_
      (first | refine wX ?_ | exact wZ)
      refine ⟨⟨l ++ List.replicate (k + 1) 0, some b', cap', used, 5⟩, ⟨fun h => (by cases h), by show (l ++ List.replicate (k + 1) 0).length ≤ cap'; simp; omega, by rw [if_neg (show ¬ (5 : Int) = 0 by decide), hone, if_pos (by rw [wrap_i64 (by omega)] at h1; omega)]⟩, rfl, wkE_refl _, ?_, .inl ⟨rfl, rfl, by simp [u8s], rfl, by simp, rfl⟩, wkH_nil _⟩
      show wkE (.app _ _ _ _ _ _) (pkE pb (some b') (l ++ List.replicate (k + 1) 0).length cap' ia items.length icap used)
      rw [List.length_append, List.length_replicate]
      exact wkE_refl _
    · obtain ⟨k, rfl⟩ : ∃ k, m = k + 1 := ⟨m - 1, by omega⟩
      (first | refine wX ?_ | exact wZ)
      refine LdN.one (a := some ⟨pb, 0, none⟩) (q := 0) (.slice (at0 ob) l.length cap) rfl (fun w hw => hw.2.1) rfl ?_
      (first | refine wX ?_ | exact wZ)
      refine Nd.mk rfl ?_
      (conv => whnf)
      refine ApN.intro (u8s (List.replicate (k + 1) 0)) (by show _ = (k + 1) * 1; simp [u8s]) (fun u hu => by simp [u8s] at hu; rw [hu]; rfl) (fun w hw j v hv => (hw.2.2.2.1).cell (by simpa [u8s] using hv)) ?_
      (conv => whnf)
      refine AppN.grow 2 (u8s l) (u8s (List.replicate (k + 1) 0)) rfl (plains_vs _) ⟨by omega, ⟨by show (l.length + (k + 1)) * 1 ≤ _; omega, by omega⟩, by show 1 ≠ 0; omega⟩ fun b' cap' h2 h3 => ?_
      (first | refine wX ?_ | exact wZ)
      refine EffW.appTo (i := 1) (q := 0) (ys := [_]) [.slice (some ⟨b', 0, none⟩) (l.length + (k + 1)) cap', .slice ia items.length icap, .int .i64 (used : Int)] 3 rfl rfl rfl rfl rfl rfl rfl (Nat.le_of_ble_eq_true rfl) rfl rfl ?_
      (first | refine wX ?_ | exact wZ)
      refine ⟨⟨l ++ List.replicate (k + 1) 0, some b', cap', used, 0⟩, ⟨fun h => (by cases h), by show (l ++ List.replicate (k + 1) 0).length ≤ cap'; simp; omega, by rw [if_pos rfl, hone, if_neg (by rw [wrap_i64 (by omega)] at h1; omega)]⟩, rfl, wkE_refl _, ?_, .inl ⟨rfl, rfl, by simp [u8s], rfl, by simp, rfl⟩, wkH_nil _⟩
      show wkE (.app _ _ _ _ _ _) (pkE pb (some b') (l ++ List.replicate (k + 1) 0).length cap' ia items.length icap used)
      rw [List.length_append, List.length_replicate]
      exact wkE_refl _
  | false =>
    (first | refine wX ?_ | exact wZ)
    rw [h64]
    cases h4 : d.letter == 64 with
    | true =>
      obtain ⟨m, hm⟩ : ∃ m : Nat, (max 0 d.count).toNat = m := ⟨_, rfl⟩
      have hmx : maxI 0 d.count = (m : Int) := by unfold maxI; split <;> omega
      have hm2 : m ≤ 1000 := by
        have := hd.2
        unfold CntOk at this
        omega
      have hone : oneS d items l used = if (l.take m).length + (m - (l.take m).length) > 100000 then .error 5 else .ok (l.take m ++ List.replicate (m - (l.take m).length) 0, used) := by
        unfold oneS
        simp only
        rw [if_neg (by rw [hx]; decide), if_pos h4, hm, List.length_replicate]
      by_cases hml : m ≤ l.length
      · have hz : m - (l.take m).length = 0 := by rw [List.length_take]; omega
        have hlt : (l.take m).length = m := by rw [List.length_take]; omega
        rw [hz, hlt, if_neg (by omega), List.replicate_zero, List.append_nil] at hone
        (first | refine wX ?_ | exact wZ)
        rw [hmx]
        (first | refine wX ?_ | exact wZ)
        refine DrawN.plan [0, 1, 5, 6] [(2, 1), (3, 1), (4, 1), (7, 1), (8, 1), (9, 1), (10, 1), (11, 1), (12, 1), (13, 1), (14, 1)] [(15, 0)] (by decide +kernel) ?_
        (first | refine wX ?_ | exact wZ)
        refine LdN.one (a := some ⟨pb, 0, none⟩) (q := 0) (.slice (at0 ob) l.length cap) rfl (fun w hw => hw.2.1) rfl ?_
        (first | refine wX ?_ | exact wZ)
        refine LdN.one (a := some ⟨pb, 0, none⟩) (q := 0) (.slice (at0 ob) l.length cap) rfl (fun w hw => hw.2.1) rfl ?_
        (first | refine wX ?_ | exact wZ)
        refine ReadW.slc_h (ob := ob) (j := (m : Int)) rfl (by kernel_rfl) rfl (av_int (by unfold minI; split <;> omega)) ⟨by omega, by omega⟩ ?_
        (first | refine wX ?_ | exact wZ)
        refine EffW.appTo (i := 1) (q := 0) (ys := [_]) [.slice (at0 ob) m cap, .slice ia items.length icap, .int .i64 (used : Int)] 3 rfl rfl rfl rfl rfl rfl rfl (Nat.le_of_ble_eq_true rfl) (by rw [Int.toNat_natCast]; rfl) rfl ?_
        (first | refine wX ?_ | exact wZ)
        refine LdN.one (a := some ⟨pb, 0, none⟩) (q := 0) (.slice (at0 ob) m cap) rfl (fun w hw => hw.2.1) rfl ?_
        (first | refine wX ?_ | exact wZ)
        refine EffW.mkBytes (e := 5) 0 rfl (by kernel_rfl) (by kernel_rfl) (av_int (by rw [wrap_i64 (by omega)]; omega)) (av_int (by rw [wrap_i64 (by omega)]; omega)) (by omega) fun bb => ?_
        (first | refine wX ?_ | exact wZ)
        refine LdN.one (a := some ⟨pb, 0, none⟩) (q := 0) (.slice (at0 ob) m cap) rfl (fun w hw => hw.2.1) rfl ?_
        (first | refine wX ?_ | exact wZ)
        refine brd_dec (fun h1 => absurd h1 (by rw [wrap_i64 (by show _ ≤ (m : Int) + ((0 : Nat) : Int) ∧ (m : Int) + ((0 : Nat) : Int) < _; omega)]; show ¬ (m : Int) + ((0 : Nat) : Int) > 100000; omega)) (fun h1 => ?_)
        (first | refine wX ?_ | exact wZ)
        refine LdN.one (a := some ⟨pb, 0, none⟩) (q := 0) (.slice (at0 ob) m cap) rfl (fun w hw => hw.2.1) rfl ?_
        (first | refine wX ?_ | exact wZ)
        refine EffW.appTo (i := 1) (q := 0) (ys := [_]) [.slice (at0 ob) m cap, .slice ia items.length icap, .int .i64 (used : Int)] 3 rfl rfl rfl rfl rfl rfl rfl (Nat.le_of_ble_eq_true rfl) rfl rfl ?_
        (first | refine wX ?_ | exact wZ)
        refine ⟨⟨l.take m, ob, cap, used, 0⟩, ⟨fun h => ⟨by show l.take m = []; rw [(hob.1 h).1]; exact List.take_nil, (hob.1 h).2⟩, by show (l.take m).length ≤ cap; rw [hlt]; omega, by rw [if_pos rfl, hone]⟩, rfl, wkE_refl _, ?_, .inr (.inr ⟨rfl, rfl, by rw [hlt, Nat.mul_one]; simp [u8s, List.map_take], rfl, by rw [hlt]; exact hml, rfl⟩), wkH_nil _⟩
        show wkE (.app _ _ _ _ _ _) (pkE pb ob (l.take m).length cap ia items.length icap used)
        rw [hlt]
        exact wkE_refl _
      · have hlt : l.take m = l := List.take_of_length_le (by omega)
        obtain ⟨k, hk⟩ : ∃ k, m - l.length = k + 1 := ⟨m - l.length - 1, by omega⟩
        rw [hlt, hk] at hone
        (first | refine wX ?_ | exact wZ)
        rw [hmx]
        (first | refine wX ?_ | exact wZ)
        refine DrawN.plan [0, 1, 5, 6] [(2, 1), (3, 1), (4, 1), (7, 1), (8, 1), (9, 1), (10, 1), (11, 1), (12, 1), (13, 1), (14, 1)] [(15, 0)] (by decide +kernel) ?_
        (first | refine wX ?_ | exact wZ)
        refine LdN.one (a := some ⟨pb, 0, none⟩) (q := 0) (.slice (at0 ob) l.length cap) rfl (fun w hw => hw.2.1) rfl ?_
        (first | refine wX ?_ | exact wZ)
        refine LdN.one (a := some ⟨pb, 0, none⟩) (q := 0) (.slice (at0 ob) l.length cap) rfl (fun w hw => hw.2.1) rfl ?_
        (first | refine wX ?_ | exact wZ)
        refine ReadW.slc_h (ob := ob) (j := (l.length : Int)) rfl (by kernel_rfl) rfl (av_int (by unfold minI; split <;> omega)) ⟨by omega, by omega⟩ ?_
        (first | refine wX ?_ | exact wZ)
        refine EffW.appTo (i := 1) (q := 0) (ys := [_]) [.slice (at0 ob) l.length cap, .slice ia items.length icap, .int .i64 (used : Int)] 3 rfl rfl rfl rfl rfl rfl rfl (Nat.le_of_ble_eq_true rfl) (by rw [Int.toNat_natCast]; rfl) rfl ?_
        (first | refine wX ?_ | exact wZ)
        refine LdN.one (a := some ⟨pb, 0, none⟩) (q := 0) (.slice (at0 ob) l.length cap) rfl (fun w hw => hw.2.1) rfl ?_
        (first | refine wX ?_ | exact wZ)
        refine EffW.mkBytes (e := 5) (k + 1) rfl (by kernel_rfl) (by kernel_rfl) (av_int (by rw [wrap_i64 (by omega)]; omega)) (av_int (by rw [wrap_i64 (by omega)]; omega)) (by omega) fun bb => ?_
        (first | refine wX ?_ | exact wZ)
        refine LdN.one (a := some ⟨pb, 0, none⟩) (q := 0) (.slice (at0 ob) l.length cap) rfl (fun w hw => hw.2.1) rfl ?_
        (first | refine wX ?_ | exact wZ)
        refine brd_dec (fun h1 => absurd h1 (by rw [wrap_i64 (by omega)]; omega)) (fun h1 => ?_)
        (first | refine wX ?_ | exact wZ)
        -- (List.replicate (k + 1) 0): the bytes, (fun w hw j v hv => (hw.2.2.2.1).cell (by simpa [u8s] using hv)): the fact of their cells, used: what is used, 0: the error, by rw [if_pos rfl, hone, if_neg (by omega)]: of the error, k + 1: how many (a k + 1)
        refine LdN.one (a := some ⟨pb, 0, none⟩) (q := 0) (.slice (at0 ob) l.length cap) rfl (fun w hw => hw.2.1) rfl ?_
        (first | refine wX ?_ | exact wZ)
        have hlen : ((List.replicate (k + 1) 0) : List UInt8).length = k + 1 := by simp
        refine Nd.mk rfl ?_
        (conv => whnf)
        refine ApN.intro (u8s ((List.replicate (k + 1) 0))) (by show _ = (k + 1) * 1; rw [u8s_len]; omega) (fun u hu => by obtain ⟨c, _, rfl⟩ := List.mem_map.1 hu; rfl) (fun w hw j v hv => (hw.2.2.2.1).cell (by simpa [u8s] using hv)) ?_
        (conv => whnf)
        refine AppN.big 2 (u8s l) (u8s ((List.replicate (k + 1) 0))) rfl (plains_vs _) ⟨by show 1 ≤ k + 1; omega, rfl, by show l.length + (k + 1) ≤ _; omega⟩ fun b' cap' h2 h3 => ?_
        (first | refine wX ?_ | exact wZ)
        refine EffW.appTo (i := 1) (q := 0) (ys := [_]) [.slice (some ⟨b', 0, none⟩) (l.length + (k + 1)) cap', .slice ia items.length icap, .int .i64 ((used : Nat) : Int)] 3 rfl rfl rfl rfl rfl rfl rfl (Nat.le_of_ble_eq_true rfl) rfl rfl ?_
        (first | refine wX ?_ | exact wZ)
        refine ⟨⟨l ++ (List.replicate (k + 1) 0), some b', cap', used, 0⟩, ⟨fun h => (by cases h), by show (l ++ (List.replicate (k + 1) 0)).length ≤ cap'; rw [List.length_append, hlen]; exact h2, by rw [if_pos rfl, hone, if_neg (by omega)]⟩, rfl, wkE_refl _, ?_, .inl ⟨rfl, rfl, by simp [u8s], rfl, by show _ = (l ++ (List.replicate (k + 1) 0)).length; rw [List.length_append, hlen], rfl⟩, wkH_nil _⟩
        show wkE (.app _ _ _ _ _ _) (pkE pb (some b') (l ++ (List.replicate (k + 1) 0)).length cap' ia items.length icap (used))
        rw [List.length_append, hlen]
        exact wkE_refl _
    | false =>
      (first | refine wX ?_ | exact wZ)
      refine call1 (isString_c d _) ?_
      (first | refine wX ?_ | exact wZ)
      have hone : oneS d items l used = match items[used]? with
          | none => .error 14
          | some x => if x.isText != isStr d.letter then .error 1
            else match if isStr d.letter then textS d x.text else numS d x.int with
              | .error e => .error e
              | .ok r => if l.length + r.length > 100000 then .error 5 else .ok (l ++ r, used + 1) := by
        unfold oneS
        simp only
        rw [if_neg (by rw [hx]; decide), if_neg (by rw [h4]; decide)]
        rfl
      refine callG (next_c pb ob l.length cap ia items icap used (isStr d.letter) hia hu hl) [0, 1] rfl ⟨rfl, rfl, trivial⟩ rfl fun _ _ => ?_
      cases hit : items[used]? with
      | none =>
        have hN : nextS items (isStr d.letter) used = (⟨false, 0, []⟩, 14, used) := by unfold nextS; rw [hit]
        rw [hit] at hone
        rw [hN]
        (first | refine wX ?_ | exact wZ)
        exact ⟨⟨l, ob, cap, used, 14⟩, ⟨hob.1, hob.2, by rw [if_neg (show ¬ (14 : Int) = 0 by decide), hone]⟩, rfl, wkE_refl _, wkE_refl _, wkE_refl _, wkH_nil _⟩
      | some x =>
        cases hk : x.isText != isStr d.letter with
        | true =>
          have hN : nextS items (isStr d.letter) used = (⟨false, 0, []⟩, 1, used + 1) := by unfold nextS; rw [hit]; simp only; rw [if_pos hk]
          rw [hit] at hone
          simp only at hone
          rw [if_pos hk] at hone
          rw [hN]
          (first | refine wX ?_ | exact wZ)
          exact ⟨⟨l, ob, cap, used + 1, 1⟩, ⟨hob.1, hob.2, by rw [if_neg (show ¬ (1 : Int) = 0 by decide), hone]⟩, rfl, wkE_refl _, wkE_refl _, wkE_refl _, wkH_nil _⟩
        | false =>
          have hN : nextS items (isStr d.letter) used = (x, 0, used + 1) := by unfold nextS; rw [hit]; simp only; rw [if_neg (by rw [hk]; decide)]
          rw [hit] at hone
          simp only at hone
          rw [if_neg (by rw [hk]; decide)] at hone
          have hcnt : d.count ≤ 1000 := by have := hd.2; unfold CntOk at this; omega
          have hxm := hi x (List.mem_of_getElem? hit)
          rw [hN]
          (first | refine wX ?_ | exact wZ)
          refine call1 (isString_c d _) ?_
          cases hstr : isStr d.letter with
          | true =>
            rw [hstr, if_pos rfl] at hone
            (first | refine wX ?_ | exact wZ)
            refine SpecF.call (text_c d x.text hxm.1 (by rcases hd.2 with h | h | h; exact .inr (.inl h.1); exact .inr (.inr h); exact .inl ⟨h.2.2 (by simpa using h4), h.2.1⟩)) (fun w _ => trivial) fun v G hR => ?_
            -- textS d x.text: what is written; 1: the error it may be; textS_err: that it is this one
            cases hw : textS d x.text with
            | error e =>
              obtain rfl := textS_err hw
              rw [hw] at hR hone
              obtain rfl := hR
              (first | refine wX ?_ | exact wZ)
              -- nothing is appended; used + 1: what is used, 1: the error, by rw [if_neg (show ¬ (1 : Int) = 0 by decide), hone]: of the error
              refine LdN.one (a := some ⟨pb, 0, none⟩) (q := 0) (.slice (at0 ob) l.length cap) rfl (fun w hw => hw.2.1) rfl ?_
              (first | refine wX ?_ | exact wZ)
              refine EffW.appTo (i := 1) (q := 0) (ys := [_]) [.slice (at0 ob) l.length cap, .slice ia items.length icap, .int .i64 ((used + 1 : Nat) : Int)] 3 rfl rfl rfl rfl rfl rfl rfl (Nat.le_of_ble_eq_true rfl) rfl rfl ?_
              (first | refine wX ?_ | exact wZ)
              exact ⟨⟨l, ob, cap, used + 1, 1⟩, ⟨hob.1, hob.2, by rw [if_neg (show ¬ (1 : Int) = 0 by decide), hone]⟩, rfl, wkE_refl _, wkE_refl _, wkE_refl _, wkH_nil _⟩
            | ok r =>
              rw [hw] at hR hone
              obtain ⟨y, rfl, rb, rc, rfl, hrb, hG⟩ := hR
              simp only at hone
              cases r with
              | nil =>
                rw [List.length_nil, if_neg (by omega), List.append_nil] at hone
                (first | refine wX ?_ | exact wZ)
                refine LdN.one (a := some ⟨pb, 0, none⟩) (q := 0) (.slice (at0 ob) l.length cap) rfl (fun w hw => hw.2.1) rfl ?_
                (first | refine wX ?_ | exact wZ)
                refine brd_dec (fun h1 => absurd h1 (by rw [wrap_i64 (by show _ ≤ (l.length : Int) + ((0 : Nat) : Int) ∧ (l.length : Int) + ((0 : Nat) : Int) < _; omega)]; show ¬ (l.length : Int) + ((0 : Nat) : Int) > 100000; omega)) (fun h1 => ?_)
                (first | refine wX ?_ | exact wZ)
                -- nothing is appended; used + 1: what is used, 0: the error, by rw [if_pos rfl, hone]: of the error
                refine LdN.one (a := some ⟨pb, 0, none⟩) (q := 0) (.slice (at0 ob) l.length cap) rfl (fun w hw => hw.2.1) rfl ?_
                (first | refine wX ?_ | exact wZ)
                refine EffW.appTo (i := 1) (q := 0) (ys := [_]) [.slice (at0 ob) l.length cap, .slice ia items.length icap, .int .i64 ((used + 1 : Nat) : Int)] 3 rfl rfl rfl rfl rfl rfl rfl (Nat.le_of_ble_eq_true rfl) rfl rfl ?_
                (first | refine wX ?_ | exact wZ)
                exact ⟨⟨l, ob, cap, used + 1, 0⟩, ⟨hob.1, hob.2, by rw [if_pos rfl, hone]⟩, rfl, wkE_refl _, wkE_refl _, wkE_refl _, wkH_nil _⟩
              | cons r0 r1 =>
                obtain ⟨rb, rfl⟩ : ∃ g, rb = some g := by
                  cases rb with
                  | none => exact absurd (hrb rfl) (by simp)
                  | some g => exact ⟨g, rfl⟩
                have hrl : (r0 :: r1).length ≤ 140737488355328 := Nat.le_trans (textS_size hxm.1 hcnt hw) (by decide)
                (first | refine wX ?_ | exact wZ)
                refine LdN.one (a := some ⟨pb, 0, none⟩) (q := 0) (.slice (at0 ob) l.length cap) rfl (fun w hw => hw.2.1) rfl ?_
                (first | refine wX ?_ | exact wZ)
                refine brd_dec (fun h1 => ?_) (fun h1 => ?_)
                · (first | refine wX ?_ | exact wZ)
                  -- (r0 :: r1): the bytes, (fun w hw j v hv => (hG w hw.2.2.2.1).cell hv): the fact of their cells, used + 1: what is used, 5: the error, by rw [if_neg (show ¬ (5 : Int) = 0 by decide), hone, if_pos (by have e : ((r0 :: r1).length : Int) = ((r1.length + 1 : Nat) : Int) := rfl; rw [wrap_i64 (by omega)] at h1; omega)]: of the error, r1.length + 1: how many (a k + 1)
                  refine LdN.one (a := some ⟨pb, 0, none⟩) (q := 0) (.slice (at0 ob) l.length cap) rfl (fun w hw => hw.2.1) rfl ?_
                  (first | refine wX ?_ | exact wZ)
                  have hlen : ((r0 :: r1) : List UInt8).length = r1.length + 1 := by simp
                  refine Nd.mk rfl ?_
                  (conv => whnf)
                  refine ApN.intro (u8s ((r0 :: r1))) (by show _ = (r1.length + 1) * 1; rw [u8s_len]; omega) (fun u hu => by obtain ⟨c, _, rfl⟩ := List.mem_map.1 hu; rfl) (fun w hw j v hv => (hG w hw.2.2.2.1).cell hv) ?_
                  (conv => whnf)
                  refine AppN.big 2 (u8s l) (u8s ((r0 :: r1))) rfl (plains_vs _) ⟨by show 1 ≤ r1.length + 1; omega, rfl, by show l.length + (r1.length + 1) ≤ _; omega⟩ fun b' cap' h2 h3 => ?_
                  (first | refine wX ?_ | exact wZ)
                  refine EffW.appTo (i := 1) (q := 0) (ys := [_]) [.slice (some ⟨b', 0, none⟩) (l.length + (r1.length + 1)) cap', .slice ia items.length icap, .int .i64 ((used + 1 : Nat) : Int)] 3 rfl rfl rfl rfl rfl rfl rfl (Nat.le_of_ble_eq_true rfl) rfl rfl ?_
                  (first | refine wX ?_ | exact wZ)
                  refine ⟨⟨l ++ (r0 :: r1), some b', cap', used + 1, 5⟩, ⟨fun h => (by cases h), by show (l ++ (r0 :: r1)).length ≤ cap'; rw [List.length_append, hlen]; exact h2, by rw [if_neg (show ¬ (5 : Int) = 0 by decide), hone, if_pos (by have e : ((r0 :: r1).length : Int) = ((r1.length + 1 : Nat) : Int) := rfl; rw [wrap_i64 (by omega)] at h1; omega)]⟩, rfl, wkE_refl _, ?_, .inl ⟨rfl, rfl, by simp [u8s], rfl, by show _ = (l ++ (r0 :: r1)).length; rw [List.length_append, hlen], rfl⟩, wkH_nil _⟩
                  show wkE (.app _ _ _ _ _ _) (pkE pb (some b') (l ++ (r0 :: r1)).length cap' ia items.length icap (used + 1))
                  rw [List.length_append, hlen]
                  exact wkE_refl _
                · (first | refine wX ?_ | exact wZ)
                  -- (r0 :: r1): the bytes, (fun w hw j v hv => (hG w hw.2.2.2.1).cell hv): the fact of their cells, used + 1: what is used, 0: the error, by rw [if_pos rfl, hone, if_neg (by rw [wrap_i64 (by omega)] at h1; omega)]: of the error, r1.length + 1: how many (a k + 1)
                  refine LdN.one (a := some ⟨pb, 0, none⟩) (q := 0) (.slice (at0 ob) l.length cap) rfl (fun w hw => hw.2.1) rfl ?_
                  (first | refine wX ?_ | exact wZ)
                  have hlen : ((r0 :: r1) : List UInt8).length = r1.length + 1 := by simp
                  refine Nd.mk rfl ?_
                  (conv => whnf)
                  refine ApN.intro (u8s ((r0 :: r1))) (by show _ = (r1.length + 1) * 1; rw [u8s_len]; omega) (fun u hu => by obtain ⟨c, _, rfl⟩ := List.mem_map.1 hu; rfl) (fun w hw j v hv => (hG w hw.2.2.2.1).cell hv) ?_
                  (conv => whnf)
                  refine AppN.big 2 (u8s l) (u8s ((r0 :: r1))) rfl (plains_vs _) ⟨by show 1 ≤ r1.length + 1; omega, rfl, by show l.length + (r1.length + 1) ≤ _; omega⟩ fun b' cap' h2 h3 => ?_
                  (first | refine wX ?_ | exact wZ)
                  refine EffW.appTo (i := 1) (q := 0) (ys := [_]) [.slice (some ⟨b', 0, none⟩) (l.length + (r1.length + 1)) cap', .slice ia items.length icap, .int .i64 ((used + 1 : Nat) : Int)] 3 rfl rfl rfl rfl rfl rfl rfl (Nat.le_of_ble_eq_true rfl) rfl rfl ?_
                  (first | refine wX ?_ | exact wZ)
                  refine ⟨⟨l ++ (r0 :: r1), some b', cap', used + 1, 0⟩, ⟨fun h => (by cases h), by show (l ++ (r0 :: r1)).length ≤ cap'; rw [List.length_append, hlen]; exact h2, by rw [if_pos rfl, hone, if_neg (by rw [wrap_i64 (by omega)] at h1; omega)]⟩, rfl, wkE_refl _, ?_, .inl ⟨rfl, rfl, by simp [u8s], rfl, by show _ = (l ++ (r0 :: r1)).length; rw [List.length_append, hlen], rfl⟩, wkH_nil _⟩
                  show wkE (.app _ _ _ _ _ _) (pkE pb (some b') (l ++ (r0 :: r1)).length cap' ia items.length icap (used + 1))
                  rw [List.length_append, hlen]
                  exact wkE_refl _
          | false =>
            rw [hstr, if_neg (by decide)] at hone
            (first | refine wX ?_ | exact wZ)
            refine SpecF.call (number_c d x.int hxm.2 hd.1 hstr (by unfold isPl; rw [hx, h4]; rfl)) (fun w _ => trivial) fun v G hR => ?_
            -- numS d x.int: what is written; 5: the error it may be; numS_err: that it is this one
            cases hw : numS d x.int with
            | error e =>
              obtain rfl := numS_err hw
              rw [hw] at hR hone
              obtain rfl := hR
              (first | refine wX ?_ | exact wZ)
              -- nothing is appended; used + 1: what is used, 5: the error, by rw [if_neg (show ¬ (5 : Int) = 0 by decide), hone]: of the error
              refine LdN.one (a := some ⟨pb, 0, none⟩) (q := 0) (.slice (at0 ob) l.length cap) rfl (fun w hw => hw.2.1) rfl ?_
              (first | refine wX ?_ | exact wZ)
              refine EffW.appTo (i := 1) (q := 0) (ys := [_]) [.slice (at0 ob) l.length cap, .slice ia items.length icap, .int .i64 ((used + 1 : Nat) : Int)] 3 rfl rfl rfl rfl rfl rfl rfl (Nat.le_of_ble_eq_true rfl) rfl rfl ?_
              (first | refine wX ?_ | exact wZ)
              exact ⟨⟨l, ob, cap, used + 1, 5⟩, ⟨hob.1, hob.2, by rw [if_neg (show ¬ (5 : Int) = 0 by decide), hone]⟩, rfl, wkE_refl _, wkE_refl _, wkE_refl _, wkH_nil _⟩
            | ok r =>
              rw [hw] at hR hone
              obtain ⟨y, rfl, rb, rc, rfl, hrb, hG⟩ := hR
              simp only at hone
              cases r with
              | nil =>
                rw [List.length_nil, if_neg (by omega), List.append_nil] at hone
                (first | refine wX ?_ | exact wZ)
                refine LdN.one (a := some ⟨pb, 0, none⟩) (q := 0) (.slice (at0 ob) l.length cap) rfl (fun w hw => hw.2.1) rfl ?_
                (first | refine wX ?_ | exact wZ)
                refine brd_dec (fun h1 => absurd h1 (by rw [wrap_i64 (by show _ ≤ (l.length : Int) + ((0 : Nat) : Int) ∧ (l.length : Int) + ((0 : Nat) : Int) < _; omega)]; show ¬ (l.length : Int) + ((0 : Nat) : Int) > 100000; omega)) (fun h1 => ?_)
                (first | refine wX ?_ | exact wZ)
                -- nothing is appended; used + 1: what is used, 0: the error, by rw [if_pos rfl, hone]: of the error
                refine LdN.one (a := some ⟨pb, 0, none⟩) (q := 0) (.slice (at0 ob) l.length cap) rfl (fun w hw => hw.2.1) rfl ?_
                (first | refine wX ?_ | exact wZ)
                refine EffW.appTo (i := 1) (q := 0) (ys := [_]) [.slice (at0 ob) l.length cap, .slice ia items.length icap, .int .i64 ((used + 1 : Nat) : Int)] 3 rfl rfl rfl rfl rfl rfl rfl (Nat.le_of_ble_eq_true rfl) rfl rfl ?_
                (first | refine wX ?_ | exact wZ)
                exact ⟨⟨l, ob, cap, used + 1, 0⟩, ⟨hob.1, hob.2, by rw [if_pos rfl, hone]⟩, rfl, wkE_refl _, wkE_refl _, wkE_refl _, wkH_nil _⟩
              | cons r0 r1 =>
                obtain ⟨rb, rfl⟩ : ∃ g, rb = some g := by
                  cases rb with
                  | none => exact absurd (hrb rfl) (by simp)
                  | some g => exact ⟨g, rfl⟩
                have hrl : (r0 :: r1).length ≤ 140737488355328 := Nat.le_trans (numS_size hw) (by decide)
                (first | refine wX ?_ | exact wZ)
                refine LdN.one (a := some ⟨pb, 0, none⟩) (q := 0) (.slice (at0 ob) l.length cap) rfl (fun w hw => hw.2.1) rfl ?_
                (first | refine wX ?_ | exact wZ)
                refine brd_dec (fun h1 => ?_) (fun h1 => ?_)
                · (first | refine wX ?_ | exact wZ)
                  -- (r0 :: r1): the bytes, (fun w hw j v hv => (hG w hw.2.2.2.1).cell hv): the fact of their cells, used + 1: what is used, 5: the error, by rw [if_neg (show ¬ (5 : Int) = 0 by decide), hone, if_pos (by have e : ((r0 :: r1).length : Int) = ((r1.length + 1 : Nat) : Int) := rfl; rw [wrap_i64 (by omega)] at h1; omega)]: of the error, r1.length + 1: how many (a k + 1)
                  refine LdN.one (a := some ⟨pb, 0, none⟩) (q := 0) (.slice (at0 ob) l.length cap) rfl (fun w hw => hw.2.1) rfl ?_
                  (first | refine wX ?_ | exact wZ)
                  have hlen : ((r0 :: r1) : List UInt8).length = r1.length + 1 := by simp
                  refine Nd.mk rfl ?_
                  (conv => whnf)
                  refine ApN.intro (u8s ((r0 :: r1))) (by show _ = (r1.length + 1) * 1; rw [u8s_len]; omega) (fun u hu => by obtain ⟨c, _, rfl⟩ := List.mem_map.1 hu; rfl) (fun w hw j v hv => (hG w hw.2.2.2.1).cell hv) ?_
                  (conv => whnf)
                  refine AppN.big 2 (u8s l) (u8s ((r0 :: r1))) rfl (plains_vs _) ⟨by show 1 ≤ r1.length + 1; omega, rfl, by show l.length + (r1.length + 1) ≤ _; omega⟩ fun b' cap' h2 h3 => ?_
                  (first | refine wX ?_ | exact wZ)
                  refine EffW.appTo (i := 1) (q := 0) (ys := [_]) [.slice (some ⟨b', 0, none⟩) (l.length + (r1.length + 1)) cap', .slice ia items.length icap, .int .i64 ((used + 1 : Nat) : Int)] 3 rfl rfl rfl rfl rfl rfl rfl (Nat.le_of_ble_eq_true rfl) rfl rfl ?_
                  (first | refine wX ?_ | exact wZ)
                  refine ⟨⟨l ++ (r0 :: r1), some b', cap', used + 1, 5⟩, ⟨fun h => (by cases h), by show (l ++ (r0 :: r1)).length ≤ cap'; rw [List.length_append, hlen]; exact h2, by rw [if_neg (show ¬ (5 : Int) = 0 by decide), hone, if_pos (by have e : ((r0 :: r1).length : Int) = ((r1.length + 1 : Nat) : Int) := rfl; rw [wrap_i64 (by omega)] at h1; omega)]⟩, rfl, wkE_refl _, ?_, .inl ⟨rfl, rfl, by simp [u8s], rfl, by show _ = (l ++ (r0 :: r1)).length; rw [List.length_append, hlen], rfl⟩, wkH_nil _⟩
                  show wkE (.app _ _ _ _ _ _) (pkE pb (some b') (l ++ (r0 :: r1)).length cap' ia items.length icap (used + 1))
                  rw [List.length_append, hlen]
                  exact wkE_refl _
                · (first | refine wX ?_ | exact wZ)
                  -- (r0 :: r1): the bytes, (fun w hw j v hv => (hG w hw.2.2.2.1).cell hv): the fact of their cells, used + 1: what is used, 0: the error, by rw [if_pos rfl, hone, if_neg (by rw [wrap_i64 (by omega)] at h1; omega)]: of the error, r1.length + 1: how many (a k + 1)
                  refine LdN.one (a := some ⟨pb, 0, none⟩) (q := 0) (.slice (at0 ob) l.length cap) rfl (fun w hw => hw.2.1) rfl ?_
                  (first | refine wX ?_ | exact wZ)
                  have hlen : ((r0 :: r1) : List UInt8).length = r1.length + 1 := by simp
                  refine Nd.mk rfl ?_
                  (conv => whnf)
                  refine ApN.intro (u8s ((r0 :: r1))) (by show _ = (r1.length + 1) * 1; rw [u8s_len]; omega) (fun u hu => by obtain ⟨c, _, rfl⟩ := List.mem_map.1 hu; rfl) (fun w hw j v hv => (hG w hw.2.2.2.1).cell hv) ?_
                  (conv => whnf)
                  refine AppN.big 2 (u8s l) (u8s ((r0 :: r1))) rfl (plains_vs _) ⟨by show 1 ≤ r1.length + 1; omega, rfl, by show l.length + (r1.length + 1) ≤ _; omega⟩ fun b' cap' h2 h3 => ?_
                  (first | refine wX ?_ | exact wZ)
                  refine EffW.appTo (i := 1) (q := 0) (ys := [_]) [.slice (some ⟨b', 0, none⟩) (l.length + (r1.length + 1)) cap', .slice ia items.length icap, .int .i64 ((used + 1 : Nat) : Int)] 3 rfl rfl rfl rfl rfl rfl rfl (Nat.le_of_ble_eq_true rfl) rfl rfl ?_
                  (first | refine wX ?_ | exact wZ)
                  refine ⟨⟨l ++ (r0 :: r1), some b', cap', used + 1, 0⟩, ⟨fun h => (by cases h), by show (l ++ (r0 :: r1)).length ≤ cap'; rw [List.length_append, hlen]; exact h2, by rw [if_pos rfl, hone, if_neg (by rw [wrap_i64 (by omega)] at h1; omega)]⟩, rfl, wkE_refl _, ?_, .inl ⟨rfl, rfl, by simp [u8s], rfl, by show _ = (l ++ (r0 :: r1)).length; rw [List.length_append, hlen], rfl⟩, wkH_nil _⟩
                  show wkE (.app _ _ _ _ _ _) (pkE pb (some b') (l ++ (r0 :: r1)).length cap' ia items.length icap (used + 1))
                  rw [List.length_append, hlen]
                  exact wkE_refl _
end Go.Proofs.YtjkchonpnocffaaGreatDoor

/-
  Plain Lean: hex digits, one by one.
-/
namespace Go.Pack
theorem hexP_cons (x y : UInt8) (r : B) : hexP (x :: y :: r) = match hexV x, hexV y, hexP r with | some x, some y, some l => some (UInt8.ofNat (16 * x + y) :: l) | _, _, _ => none := by rw [hexP]; rfl
theorem hexP_app : ∀ (a b : B), a.length % 2 = 0 → hexP (a ++ b) = match hexP a, hexP b with | some x, some y => some (x ++ y) | _, _ => none
  | [], b, _ => by
    show hexP b = _
    cases hexP b <;> rfl
  | [_], _, h => by simp at h
  | x :: y :: r, b, h => by
    have ih := hexP_app r b (by simp at h; omega)
    show hexP (x :: y :: (r ++ b)) = _
    rw [hexP_cons, hexP_cons, ih]
    cases hexV x <;> cases hexV y <;> cases hexP r <;> cases hexP b <;> rfl
def digs (n : Nat) (s : B) : B := s.take n ++ List.replicate (n - s.length) 48
theorem digs_len (n : Nat) (s : B) : (digs n s).length = n := by
  unfold digs
  simp
  omega
theorem digs_get (n : Nat) (s : B) (i : Nat) (h : i < n) : (digs n s)[i]? = some (if h : i < s.length then s[i] else 48) := by
  unfold digs
  rw [List.getElem?_append]
  split
  · rename_i h1
    rw [List.length_take] at h1
    rw [List.getElem?_take, if_pos h, List.getElem?_eq_getElem (by omega), dif_pos (by omega)]
  · rename_i h1
    rw [List.length_take] at h1
    rw [dif_neg (by omega), List.getElem?_replicate, if_pos (by rw [List.length_take]; omega)]
theorem hexT_digs (n : Nat) (s : B) : hexT n s = digs n s ++ List.replicate (n % 2) 48 := by
  unfold hexT digs
  rw [List.append_assoc, List.replicate_append_replicate]
/-- What is written after i digits. -/
def hexI (D : B) (i : Nat) : Option B := hexP (D.take i ++ List.replicate (i % 2) 48)
theorem hexI_end (n : Nat) (s : B) : hexI (digs n s) n = hexP (hexT n s) := by
  unfold hexI
  rw [List.take_of_length_le (by rw [digs_len]; exact Nat.le_refl _), hexT_digs]
theorem take_snoc {D : B} {i : Nat} {c : UInt8} (h : D[i]? = some c) : D.take (i + 1) = D.take i ++ [c] := by
  rw [List.take_add_one, h]
  rfl
theorem hexI_even {D out : B} {i x : Nat} {c : UInt8} (he : i % 2 = 0) (hc : D[i]? = some c) (hx : hexV c = some x) (h : hexI D i = some out) : hexI D (i + 1) = some (out ++ [UInt8.ofNat (16 * x)]) := by
  unfold hexI at *
  have hi := (List.getElem?_eq_some_iff.1 hc).1
  rw [he, List.replicate_zero, List.append_nil] at h
  rw [show (i + 1) % 2 = 1 by omega, take_snoc hc, List.append_assoc, hexP_app _ _ (by rw [List.length_take]; omega), h]
  show (match some out, hexP [c, 48] with | some x, some y => some (x ++ y) | _, _ => none) = _
  simp only [hexP, hx, show hexV 48 = some 0 from rfl, Nat.add_zero]
theorem hexI_odd {D out : B} {i y : Nat} {c : UInt8} (he : i % 2 = 1) (hc : D[i]? = some c) (hy : hexV c = some y) (h : hexI D i = some out) : ∃ o x, x < 16 ∧ out = o ++ [UInt8.ofNat (16 * x)] ∧ hexI D (i + 1) = some (o ++ [UInt8.ofNat (16 * x + y)]) := by
  obtain ⟨k, rfl⟩ : ∃ k, i = k + 1 := ⟨i - 1, by omega⟩
  unfold hexI at *
  have hi := (List.getElem?_eq_some_iff.1 hc).1
  obtain ⟨b, hb⟩ : ∃ b, D[k]? = some b := ⟨_, List.getElem?_eq_getElem (by omega)⟩
  rw [he, take_snoc hb, List.append_assoc, hexP_app _ _ (by rw [List.length_take]; omega)] at h
  rw [show (k + 1 + 1) % 2 = 0 by omega, take_snoc hc, take_snoc hb, List.append_assoc, List.append_assoc, hexP_app _ _ (by rw [List.length_take]; omega)]
  cases h1 : hexP (D.take k) with
  | none => rw [h1] at h; cases h
  | some o =>
    rw [h1] at h
    cases h2 : hexV b with
    | none => simp [hexP, h2] at h
    | some x =>
      have hxl : x < 16 := by
        unfold hexV at h2
        split at h2
        · rename_i h3
          cases h2
          rw [Bool.and_eq_true, decide_eq_true_eq, decide_eq_true_eq] at h3
          have h4 : b.toNat ≤ 57 := UInt8.le_iff_toNat_le.1 h3.2
          omega
        split at h2
        · rename_i h3
          cases h2
          rw [Bool.and_eq_true, decide_eq_true_eq, decide_eq_true_eq] at h3
          have h4 : b.toNat ≤ 102 := UInt8.le_iff_toNat_le.1 h3.2
          omega
        · cases h2
      refine ⟨o, x, hxl, ?_, ?_⟩
      · have e : hexP [b, 48] = some [UInt8.ofNat (16 * x)] := by rw [hexP_cons, h2]; rfl
        simp only [List.cons_append, List.nil_append, List.replicate, e, Option.some.injEq] at h
        exact h.symm
      · simp [hexP, h2, hy]
theorem hexP_bad : ∀ {l : B} {i : Nat} {c : UInt8}, l.length % 2 = 0 → l[i]? = some c → hexV c = none → hexP l = none
  | [], i, c, _, h, _ => by simp at h
  | [_], _, _, h, _, _ => by simp at h
  | a :: b :: r, 0, c, _, h, hc => by
    simp at h
    subst h
    unfold hexP
    rw [hc]
  | a :: b :: r, 1, c, _, h, hc => by
    simp at h
    subst h
    unfold hexP
    rw [hc]
    cases hexV a <;> rfl
  | a :: b :: r, i + 2, c, hl, h, hc => by
    have ih := hexP_bad (l := r) (i := i) (c := c) (by simp at hl; omega) (by simpa using h) hc
    unfold hexP
    rw [ih]
    cases hexV a <;> cases hexV b <;> rfl
theorem hexT_bad {n : Nat} {s : B} {i : Nat} {c : UInt8} (h : (digs n s)[i]? = some c) (hc : hexV c = none) : hexP (hexT n s) = none := by
  have hi := (List.getElem?_eq_some_iff.1 h).1
  refine hexP_bad (i := i) (c := c) ?_ ?_ hc
  · rw [hexT_digs]
    simp [digs_len]
    omega
  · rw [hexT_digs, List.getElem?_append_left hi, h]
end Go.Pack

/-
  Contract: all directives are written (program).
-/
namespace Go.Proofs.YtjkchonpnocffaaGreatDoor
open Go.AX Go.RowKit Go.Pack
set_option maxRecDepth 20000

/-- What run gives: an error, or a packer in memory. -/
def RunR (ia : Option Addr) (items : List Pack.Item) (icap : Nat) (r : Except Int (List UInt8 × Nat)) (v : Value) (G : World → Prop) : Prop := match r with
  | .error e => v = .tuple #[.pointer none, .int .i64 e]
  | .ok (l, u) => ∃ pb ob cap, v = .tuple #[.pointer (some ⟨pb, 0, none⟩), .int .i64 0] ∧ (ob = none → l = []) ∧ l.length ≤ cap ∧
    ∀ w, G w → SlAt (some ⟨pb, 0, none⟩) 3 [.slice (at0 ob) l.length cap, .slice ia items.length icap, .int .i64 (u : Int)] w ∧ SlAt (at0 ob) l.length (u8s l) w
theorem timesS_succ {d : Dir} {items : List Pack.Item} (k : Nat) (l : List UInt8) (used : Nat) : timesS d items (k + 1) l used = match oneS d items l used with | .error e => .error e | .ok (o, u) => timesS d items k o u := rfl
theorem run_c (form : List UInt8) (ia : Option Addr) (items : List Pack.Item) (icap : Nat) (hs : form.length ≤ 100000)
    (hia : items ≠ [] → ia.isSome = true) (hl : items.length ≤ 100000) (hi : ∀ x ∈ items, x.text.length ≤ 140737488351232 ∧ -9223372036854775808 ≤ x.int ∧ x.int < 9223372036854775808) :
    SpecF Tryz.prog 12 [.string (bs form), .slice ia items.length icap] (ItemsF ia items) (RunR ia items icap (packS form items)) := by
  refine specF hm Tryz.func12 (by kernel_rfl) rfl rfl ?_
  (first | refine wX ?_ | exact wZ)
  refine SpecF.call (read_c form hs) (fun w _ => trivial) fun v G hR => ?_
  unfold packS
  cases hf : forms form with
  | none =>
    rw [hf] at hR
    obtain ⟨y, n, cap, rfl⟩ := hR
    (first | refine wX ?_ | exact wZ)
    exact fin_v rfl
  | some ds =>
    rw [hf] at hR
    obtain ⟨db, dcap, rfl, hdb, hG⟩ := hR
    obtain ⟨h50, hok⟩ := forms_ok hf
    ((conv => whnf); (repeat ((first | refine RwN.own ?_ | refine VrN.norm (wrap_i64 (by omega)) ?_ | refine VrN.keep ?_ | refine DrawN.calm (by decide +kernel) ?_ | refine Nd.mk (by decide +kernel) ?_ | refine Nd.mk (by omega) ?_ | (refine Nd.mk ?_ ?_; focus ((repeat' (first | exact trivial | exact wkE_refl _ | refine And.intro ?_ ?_)); done)) | refine RdN.intro _ rfl (by rfl) ?_); (conv => whnf))))
    refine BoxN.known [.slice none 0 0, .slice ia items.length icap, .int .i64 0] rfl fun pb => ?_
    (first | refine wX ?_ | exact wZ)
    refine LoopN.intro (Nat × List UInt8 × Option Nat × Nat × Nat) (fun ⟨i, l, ob, cap, used⟩ => i ≤ ds.length ∧ runS items (ds.drop i) l used = runS items ds [] 0 ∧ ((ob = none → l = [] ∧ cap = 0) ∧ l.length ≤ cap) ∧ l.length ≤ 100000 ∧ used ≤ items.length)
      (fun ⟨i, _, _, _, _⟩ => mkS Tryz.f12.ntmps 0 [(1, .c (.v (.slice ia items.length icap))), (8, .c (.v (.pointer (some ⟨pb, 0, none⟩)))), (23, .c (.v (.slice (at0 db) ds.length dcap))), (24, .c (.v (.int .i64 (ds.length : Int)))), (25, .c (.v (.int .i64 (i : Int))))])
      (fun ⟨_, l, ob, cap, used⟩ => [.fact (ItemsF ia items), .fact G, pkE pb ob l.length cap ia items.length icap used, outE l ob cap]) (fun ⟨i, _, _, _, _⟩ => ds.length - i) [.app 0 0 [] none 0 0] rfl
      (fun _ => rfl) (fun _ => rfl) (fun _ _ => okHB_eq rfl) ⟨(0, [], none, 0, 0), ⟨Nat.zero_le _, rfl, ⟨fun _ => ⟨rfl, rfl⟩, Nat.le_refl _⟩, Nat.zero_le _, Nat.zero_le _⟩, ?_, ?_⟩ ?_
    · (repeat' (first | exact trivial | refine And.intro (by with_reducible rfl) ?_ | (with_reducible exact wkC_refl _) | (with_reducible exact wkCs_refl _) | refine And.intro ?_ ?_))
      all_goals rfl
    · exact ⟨wkE_refl _, wkE_refl _, wkE_refl _, wkE_nil, wkH_nil _⟩
    rintro ⟨i, l, ob, cap, used⟩ ⟨hid, hrun, hob, hll, hu⟩
    (first | refine wX ?_ | exact wZ)
    refine brd_dec (fun h1 => ?_) (fun h1 => ?_)
    · obtain ⟨d, hd⟩ : ∃ d, ds[i]? = some d := ⟨_, List.getElem?_eq_getElem (by omega)⟩
      have hdok := hok d (List.mem_of_getElem? hd)
      obtain ⟨db, rfl⟩ : ∃ g, db = some g := by
        cases db with
        | none => rw [hdb rfl] at hd; cases hd
        | some g => exact ⟨g, rfl⟩
      have hdr : runS items (ds.drop i) l used = match timesS d items (times d (items.length - used)) l used with | .error e => .error e | .ok (o, u) => runS items (ds.drop (i + 1)) o u := by
        rw [List.drop_eq_getElem_cons (by omega), (List.getElem?_eq_some_iff.1 hd).2]
        rfl
      rw [hdr] at hrun
      (first | refine wX ?_ | exact wZ)
      refine Nd.mk ⟨rfl, by omega, by omega⟩ ?_
      (first | refine wX ?_ | exact wZ)
      refine LdN.agg (dirC d) rfl (fun w hw => hG w hw.2.1) rfl (fun j hj => by
        rw [Int.toNat_natCast]
        exact dirsC_get ds i j hj hd) ?_
      (first | refine wX ?_ | exact wZ)
      refine call1 (isString_c d _) ?_
      cases hstr : isStr d.letter with
      | true =>
        have hT : times d (items.length - used) = 1 := by unfold times; rw [hstr]; rfl
        -- 1: the times
        rw [hT] at hrun
        (first | refine wX ?_ | exact wZ)
        refine LoopN.intro (Nat × List UInt8 × Option Nat × Nat × Nat) (fun ⟨j, l', ob', cap', used'⟩ => j ≤ 1 ∧ timesS d items (1 - j) l' used' = timesS d items (1) l used ∧ ((ob' = none → l' = [] ∧ cap' = 0) ∧ l'.length ≤ cap') ∧ l'.length ≤ 100000 ∧ used' ≤ items.length)
          (fun ⟨j, _, _, _, _⟩ => mkS Tryz.f12.ntmps 0 [(1, .c (.v (.slice ia items.length icap))), (8, .c (.v (.pointer (some ⟨pb, 0, none⟩)))), (10, .c (.lp 4 0)), (23, .c (.v (.slice (some ⟨db, 0, none⟩) ds.length dcap))), (24, .c (.v (.int .i64 (ds.length : Int)))), (25, .c (.v (.int .i64 (i : Int)))), (52, .c (.v (.int .i64 ((1 : Nat) : Int)))), (53, .c (.v (.int .i64 (j : Int))))])
          (fun ⟨_, l', ob', cap', used'⟩ => [.fact (ItemsF ia items), .fact G, pkE pb ob' l'.length cap' ia items.length icap used', outE l' ob' cap', .blk 58 [.v (.int .u8 (d.letter.toNat : Int)), .v (.bool d.big), .v (.int .i64 d.count)]]) (fun ⟨j, _, _, _, _⟩ => 1 - j) [] rfl
          (fun _ => rfl) (fun _ => rfl) (fun _ _ => okHB_eq rfl) ⟨(0, l, ob, cap, used), ⟨Nat.zero_le _, rfl, hob, hll, hu⟩, ?_, ?_⟩ ?_
        · (repeat' (first | exact trivial | refine And.intro (by with_reducible rfl) ?_ | (with_reducible exact wkC_refl _) | (with_reducible exact wkCs_refl _) | refine And.intro ?_ ?_))
          all_goals first | rfl | exact av_int (by omega) | exact av_int (by rw [wrap_i64 (by omega)]; omega)
        · exact ⟨wkE_refl _, wkE_refl _, wkE_refl _, wkE_refl _, wkE_refl _, wkH_nil _⟩
        rintro ⟨j, l', ob', cap', used'⟩ ⟨hj, hts, hob', hll', hu'⟩
        (first | refine wX ?_ | exact wZ)
        refine brd_dec (fun h2 => ?_) (fun h2 => ?_)
        · have hstep := timesS_succ (d := d) (items := items) (1 - j - 1) l' used'
          rw [show 1 - j - 1 + 1 = 1 - j by omega, hts] at hstep
          rw [hstep] at hrun
          (first | refine wX ?_ | exact wZ)
          refine callG (one_c pb d l' ob' cap' ia items icap used' hdok hob' hll' hia hu' hl hi) [0, 2, 3] rfl ⟨rfl, rfl, rfl, trivial⟩ rfl ?_
          rintro ⟨l2, ob2, cap2, used2, e⟩ ⟨h3, h4, h5⟩
          by_cases he : e = 0
          · have he0 : e = 0 := he
            subst he0
            simp only [if_true] at h5
            have hfit := oneS_fit hu' h5
            rw [h5] at hstep hrun
            (first | refine wX ?_ | exact wZ)
            refine ⟨(j + 1, l2, ob2, cap2, used2), ⟨by omega, by rw [show 1 - (j + 1) = 1 - j - 1 by omega, hstep], ⟨h3, h4⟩, hfit.1, hfit.2⟩, by show 1 - (j + 1) < 1 - j; omega, ?_, ?_⟩
            · (repeat' (first | exact trivial | refine And.intro (by with_reducible rfl) ?_ | (with_reducible exact wkC_refl _) | (with_reducible exact wkCs_refl _) | refine And.intro ?_ ?_))
              all_goals first | rfl | exact av_int (by omega) | exact av_int (by rw [wrap_i64 (by omega)]; omega)
            · exact ⟨wkE_refl _, wkE_refl _, wkE_refl _, wkE_refl _, wkE_refl _, wkH_nil _⟩
          · have he0 : ¬ e = 0 := he
            simp only [if_neg he0] at h5
            rw [h5] at hrun
            (first | refine wX ?_ | exact wZ)
            refine brd_ne (fun _ => ?_) (fun h6 => absurd h6 he0)
            (first | refine wX ?_ | exact wZ)
            refine fin_v ?_
            show RunR ia items icap (runS items ds [] 0) _ _
            rw [← hrun]
            rfl
        · have hj2 : j = 1 := by omega
          have hts2 : timesS d items (1) l used = .ok (l', used') := by
            rw [← hts, hj2, Nat.sub_self]
            rfl
          rw [hts2] at hrun
          (first | refine wX ?_ | exact wZ)
          refine ⟨(i + 1, l', ob', cap', used'), ⟨by omega, hrun, hob', hll', hu'⟩, by show ds.length - (i + 1) < ds.length - i; omega, ?_, ?_⟩
          · (repeat' (first | exact trivial | refine And.intro (by with_reducible rfl) ?_ | (with_reducible exact wkC_refl _) | (with_reducible exact wkCs_refl _) | refine And.intro ?_ ?_))
            all_goals first | rfl | exact av_int (by omega) | exact av_int (by rw [wrap_i64 (by omega)]; omega)
          · exact ⟨wkE_refl _, wkE_refl _, wkE_refl _, wkE_refl _, wkH_nil _⟩
      | false =>
        (first | refine wX ?_ | exact wZ)
        refine call1 (isPlace_c d _) ?_
        cases hpl : isPl d.letter with
        | true =>
          have hT : times d (items.length - used) = 1 := by unfold times; rw [hstr, hpl]; rfl
          -- 1: the times
          rw [hT] at hrun
          (first | refine wX ?_ | exact wZ)
          refine LoopN.intro (Nat × List UInt8 × Option Nat × Nat × Nat) (fun ⟨j, l', ob', cap', used'⟩ => j ≤ 1 ∧ timesS d items (1 - j) l' used' = timesS d items (1) l used ∧ ((ob' = none → l' = [] ∧ cap' = 0) ∧ l'.length ≤ cap') ∧ l'.length ≤ 100000 ∧ used' ≤ items.length)
            (fun ⟨j, _, _, _, _⟩ => mkS Tryz.f12.ntmps 0 [(1, .c (.v (.slice ia items.length icap))), (8, .c (.v (.pointer (some ⟨pb, 0, none⟩)))), (10, .c (.lp 4 0)), (23, .c (.v (.slice (some ⟨db, 0, none⟩) ds.length dcap))), (24, .c (.v (.int .i64 (ds.length : Int)))), (25, .c (.v (.int .i64 (i : Int)))), (52, .c (.v (.int .i64 ((1 : Nat) : Int)))), (53, .c (.v (.int .i64 (j : Int))))])
            (fun ⟨_, l', ob', cap', used'⟩ => [.fact (ItemsF ia items), .fact G, pkE pb ob' l'.length cap' ia items.length icap used', outE l' ob' cap', .blk 58 [.v (.int .u8 (d.letter.toNat : Int)), .v (.bool d.big), .v (.int .i64 d.count)]]) (fun ⟨j, _, _, _, _⟩ => 1 - j) [] rfl
            (fun _ => rfl) (fun _ => rfl) (fun _ _ => okHB_eq rfl) ⟨(0, l, ob, cap, used), ⟨Nat.zero_le _, rfl, hob, hll, hu⟩, ?_, ?_⟩ ?_
          · (repeat' (first | exact trivial | refine And.intro (by with_reducible rfl) ?_ | (with_reducible exact wkC_refl _) | (with_reducible exact wkCs_refl _) | refine And.intro ?_ ?_))
            all_goals first | rfl | exact av_int (by omega) | exact av_int (by rw [wrap_i64 (by omega)]; omega)
          · exact ⟨wkE_refl _, wkE_refl _, wkE_refl _, wkE_refl _, wkE_refl _, wkH_nil _⟩
          rintro ⟨j, l', ob', cap', used'⟩ ⟨hj, hts, hob', hll', hu'⟩
          (first | refine wX ?_ | exact wZ)
          refine brd_dec (fun h2 => ?_) (fun h2 => ?_)
          · have hstep := timesS_succ (d := d) (items := items) (1 - j - 1) l' used'
            rw [show 1 - j - 1 + 1 = 1 - j by omega, hts] at hstep
            rw [hstep] at hrun
            (first | refine wX ?_ | exact wZ)
            refine callG (one_c pb d l' ob' cap' ia items icap used' hdok hob' hll' hia hu' hl hi) [0, 2, 3] rfl ⟨rfl, rfl, rfl, trivial⟩ rfl ?_
            rintro ⟨l2, ob2, cap2, used2, e⟩ ⟨h3, h4, h5⟩
            by_cases he : e = 0
            · have he0 : e = 0 := he
              subst he0
              simp only [if_true] at h5
              have hfit := oneS_fit hu' h5
              rw [h5] at hstep hrun
              (first | refine wX ?_ | exact wZ)
              refine ⟨(j + 1, l2, ob2, cap2, used2), ⟨by omega, by rw [show 1 - (j + 1) = 1 - j - 1 by omega, hstep], ⟨h3, h4⟩, hfit.1, hfit.2⟩, by show 1 - (j + 1) < 1 - j; omega, ?_, ?_⟩
              · (repeat' (first | exact trivial | refine And.intro (by with_reducible rfl) ?_ | (with_reducible exact wkC_refl _) | (with_reducible exact wkCs_refl _) | refine And.intro ?_ ?_))
                all_goals first | rfl | exact av_int (by omega) | exact av_int (by rw [wrap_i64 (by omega)]; omega)
              · exact ⟨wkE_refl _, wkE_refl _, wkE_refl _, wkE_refl _, wkE_refl _, wkH_nil _⟩
            · have he0 : ¬ e = 0 := he
              simp only [if_neg he0] at h5
              rw [h5] at hrun
              (first | refine wX ?_ | exact wZ)
              refine brd_ne (fun _ => ?_) (fun h6 => absurd h6 he0)
              (first | refine wX ?_ | exact wZ)
              refine fin_v ?_
              show RunR ia items icap (runS items ds [] 0) _ _
              rw [← hrun]
              rfl
          · have hj2 : j = 1 := by omega
            have hts2 : timesS d items (1) l used = .ok (l', used') := by
              rw [← hts, hj2, Nat.sub_self]
              rfl
            rw [hts2] at hrun
            (first | refine wX ?_ | exact wZ)
            refine ⟨(i + 1, l', ob', cap', used'), ⟨by omega, hrun, hob', hll', hu'⟩, by show ds.length - (i + 1) < ds.length - i; omega, ?_, ?_⟩
            · (repeat' (first | exact trivial | refine And.intro (by with_reducible rfl) ?_ | (with_reducible exact wkC_refl _) | (with_reducible exact wkCs_refl _) | refine And.intro ?_ ?_))
              all_goals first | rfl | exact av_int (by omega) | exact av_int (by rw [wrap_i64 (by omega)]; omega)
            · exact ⟨wkE_refl _, wkE_refl _, wkE_refl _, wkE_refl _, wkH_nil _⟩
        | false =>
          have hT0 : times d (items.length - used) = cntS d (items.length - used) := by unfold times; rw [hstr, hpl]; rfl
          (first | refine wX ?_ | exact wZ)
          refine brd_eq (fun h2 => ?_) (fun h2 => ?_)
          · have hT : times d (items.length - used) = 1 := by rw [hT0]; unfold cntS; rw [if_pos (by simpa using h2)]
            -- 1: the times
            rw [hT] at hrun
            (first | refine wX ?_ | exact wZ)
            refine LoopN.intro (Nat × List UInt8 × Option Nat × Nat × Nat) (fun ⟨j, l', ob', cap', used'⟩ => j ≤ 1 ∧ timesS d items (1 - j) l' used' = timesS d items (1) l used ∧ ((ob' = none → l' = [] ∧ cap' = 0) ∧ l'.length ≤ cap') ∧ l'.length ≤ 100000 ∧ used' ≤ items.length)
              (fun ⟨j, _, _, _, _⟩ => mkS Tryz.f12.ntmps 0 [(1, .c (.v (.slice ia items.length icap))), (8, .c (.v (.pointer (some ⟨pb, 0, none⟩)))), (10, .c (.lp 4 0)), (23, .c (.v (.slice (some ⟨db, 0, none⟩) ds.length dcap))), (24, .c (.v (.int .i64 (ds.length : Int)))), (25, .c (.v (.int .i64 (i : Int)))), (52, .c (.v (.int .i64 ((1 : Nat) : Int)))), (53, .c (.v (.int .i64 (j : Int))))])
              (fun ⟨_, l', ob', cap', used'⟩ => [.fact (ItemsF ia items), .fact G, pkE pb ob' l'.length cap' ia items.length icap used', outE l' ob' cap', .blk 58 [.v (.int .u8 (d.letter.toNat : Int)), .v (.bool d.big), .v (.int .i64 d.count)]]) (fun ⟨j, _, _, _, _⟩ => 1 - j) [] rfl
              (fun _ => rfl) (fun _ => rfl) (fun _ _ => okHB_eq rfl) ⟨(0, l, ob, cap, used), ⟨Nat.zero_le _, rfl, hob, hll, hu⟩, ?_, ?_⟩ ?_
            · (repeat' (first | exact trivial | refine And.intro (by with_reducible rfl) ?_ | (with_reducible exact wkC_refl _) | (with_reducible exact wkCs_refl _) | refine And.intro ?_ ?_))
              all_goals first | rfl | exact av_int (by omega) | exact av_int (by rw [wrap_i64 (by omega)]; omega)
            · exact ⟨wkE_refl _, wkE_refl _, wkE_refl _, wkE_refl _, wkE_refl _, wkH_nil _⟩
            rintro ⟨j, l', ob', cap', used'⟩ ⟨hj, hts, hob', hll', hu'⟩
            (first | refine wX ?_ | exact wZ)
            refine brd_dec (fun h2 => ?_) (fun h2 => ?_)
            · have hstep := timesS_succ (d := d) (items := items) (1 - j - 1) l' used'
              rw [show 1 - j - 1 + 1 = 1 - j by omega, hts] at hstep
              rw [hstep] at hrun
              (first | refine wX ?_ | exact wZ)
              refine callG (one_c pb d l' ob' cap' ia items icap used' hdok hob' hll' hia hu' hl hi) [0, 2, 3] rfl ⟨rfl, rfl, rfl, trivial⟩ rfl ?_
              rintro ⟨l2, ob2, cap2, used2, e⟩ ⟨h3, h4, h5⟩
              by_cases he : e = 0
              · have he0 : e = 0 := he
                subst he0
                simp only [if_true] at h5
                have hfit := oneS_fit hu' h5
                rw [h5] at hstep hrun
                (first | refine wX ?_ | exact wZ)
                refine ⟨(j + 1, l2, ob2, cap2, used2), ⟨by omega, by rw [show 1 - (j + 1) = 1 - j - 1 by omega, hstep], ⟨h3, h4⟩, hfit.1, hfit.2⟩, by show 1 - (j + 1) < 1 - j; omega, ?_, ?_⟩
                · (repeat' (first | exact trivial | refine And.intro (by with_reducible rfl) ?_ | (with_reducible exact wkC_refl _) | (with_reducible exact wkCs_refl _) | refine And.intro ?_ ?_))
                  all_goals first | rfl | exact av_int (by omega) | exact av_int (by rw [wrap_i64 (by omega)]; omega)
                · exact ⟨wkE_refl _, wkE_refl _, wkE_refl _, wkE_refl _, wkE_refl _, wkH_nil _⟩
              · have he0 : ¬ e = 0 := he
                simp only [if_neg he0] at h5
                rw [h5] at hrun
                (first | refine wX ?_ | exact wZ)
                refine brd_ne (fun _ => ?_) (fun h6 => absurd h6 he0)
                (first | refine wX ?_ | exact wZ)
                refine fin_v ?_
                show RunR ia items icap (runS items ds [] 0) _ _
                rw [← hrun]
                rfl
            · have hj2 : j = 1 := by omega
              have hts2 : timesS d items (1) l used = .ok (l', used') := by
                rw [← hts, hj2, Nat.sub_self]
                rfl
              rw [hts2] at hrun
              (first | refine wX ?_ | exact wZ)
              refine ⟨(i + 1, l', ob', cap', used'), ⟨by omega, hrun, hob', hll', hu'⟩, by show ds.length - (i + 1) < ds.length - i; omega, ?_, ?_⟩
              · (repeat' (first | exact trivial | refine And.intro (by with_reducible rfl) ?_ | (with_reducible exact wkC_refl _) | (with_reducible exact wkCs_refl _) | refine And.intro ?_ ?_))
                all_goals first | rfl | exact av_int (by omega) | exact av_int (by rw [wrap_i64 (by omega)]; omega)
              · exact ⟨wkE_refl _, wkE_refl _, wkE_refl _, wkE_refl _, wkH_nil _⟩
          · (first | refine wX ?_ | exact wZ)
            refine brd_eq (fun h3 => ?_) (fun h3 => ?_)
            · have hT : times d (items.length - used) = items.length - used := by rw [hT0]; unfold cntS; rw [if_neg (by simpa using h2), if_pos (by simpa using h3)]
              (first | refine wX ?_ | exact wZ)
              refine LdN.one (a := some ⟨pb, 0, none⟩) (q := 2) (.int .i64 (used : Int)) rfl (fun w hw => hw.2.2.1) rfl ?_
              -- (items.length - used): the times
              rw [hT] at hrun
              (first | refine wX ?_ | exact wZ)
              refine LoopN.intro (Nat × List UInt8 × Option Nat × Nat × Nat) (fun ⟨j, l', ob', cap', used'⟩ => j ≤ (items.length - used) ∧ timesS d items ((items.length - used) - j) l' used' = timesS d items ((items.length - used)) l used ∧ ((ob' = none → l' = [] ∧ cap' = 0) ∧ l'.length ≤ cap') ∧ l'.length ≤ 100000 ∧ used' ≤ items.length)
                (fun ⟨j, _, _, _, _⟩ => mkS Tryz.f12.ntmps 0 [(1, .c (.v (.slice ia items.length icap))), (8, .c (.v (.pointer (some ⟨pb, 0, none⟩)))), (10, .c (.lp 4 0)), (23, .c (.v (.slice (some ⟨db, 0, none⟩) ds.length dcap))), (24, .c (.v (.int .i64 (ds.length : Int)))), (25, .c (.v (.int .i64 (i : Int)))), (52, .c (.v (.int .i64 (((items.length - used) : Nat) : Int)))), (53, .c (.v (.int .i64 (j : Int))))])
                (fun ⟨_, l', ob', cap', used'⟩ => [.fact (ItemsF ia items), .fact G, pkE pb ob' l'.length cap' ia items.length icap used', outE l' ob' cap', .blk 58 [.v (.int .u8 (d.letter.toNat : Int)), .v (.bool d.big), .v (.int .i64 d.count)]]) (fun ⟨j, _, _, _, _⟩ => (items.length - used) - j) [] rfl
                (fun _ => rfl) (fun _ => rfl) (fun _ _ => okHB_eq rfl) ⟨(0, l, ob, cap, used), ⟨Nat.zero_le _, rfl, hob, hll, hu⟩, ?_, ?_⟩ ?_
              · (repeat' (first | exact trivial | refine And.intro (by with_reducible rfl) ?_ | (with_reducible exact wkC_refl _) | (with_reducible exact wkCs_refl _) | refine And.intro ?_ ?_))
                all_goals first | rfl | exact av_int (by omega) | exact av_int (by rw [wrap_i64 (by omega)]; omega)
              · exact ⟨wkE_refl _, wkE_refl _, wkE_refl _, wkE_refl _, wkE_refl _, wkH_nil _⟩
              rintro ⟨j, l', ob', cap', used'⟩ ⟨hj, hts, hob', hll', hu'⟩
              (first | refine wX ?_ | exact wZ)
              refine brd_dec (fun h2 => ?_) (fun h2 => ?_)
              · have hstep := timesS_succ (d := d) (items := items) ((items.length - used) - j - 1) l' used'
                rw [show (items.length - used) - j - 1 + 1 = (items.length - used) - j by omega, hts] at hstep
                rw [hstep] at hrun
                (first | refine wX ?_ | exact wZ)
                refine callG (one_c pb d l' ob' cap' ia items icap used' hdok hob' hll' hia hu' hl hi) [0, 2, 3] rfl ⟨rfl, rfl, rfl, trivial⟩ rfl ?_
                rintro ⟨l2, ob2, cap2, used2, e⟩ ⟨h3, h4, h5⟩
                by_cases he : e = 0
                · have he0 : e = 0 := he
                  subst he0
                  simp only [if_true] at h5
                  have hfit := oneS_fit hu' h5
                  rw [h5] at hstep hrun
                  (first | refine wX ?_ | exact wZ)
                  refine ⟨(j + 1, l2, ob2, cap2, used2), ⟨by omega, by rw [show (items.length - used) - (j + 1) = (items.length - used) - j - 1 by omega, hstep], ⟨h3, h4⟩, hfit.1, hfit.2⟩, by show (items.length - used) - (j + 1) < (items.length - used) - j; omega, ?_, ?_⟩
                  · (repeat' (first | exact trivial | refine And.intro (by with_reducible rfl) ?_ | (with_reducible exact wkC_refl _) | (with_reducible exact wkCs_refl _) | refine And.intro ?_ ?_))
                    all_goals first | rfl | exact av_int (by omega) | exact av_int (by rw [wrap_i64 (by omega)]; omega)
                  · exact ⟨wkE_refl _, wkE_refl _, wkE_refl _, wkE_refl _, wkE_refl _, wkH_nil _⟩
                · have he0 : ¬ e = 0 := he
                  simp only [if_neg he0] at h5
                  rw [h5] at hrun
                  (first | refine wX ?_ | exact wZ)
                  refine brd_ne (fun _ => ?_) (fun h6 => absurd h6 he0)
                  (first | refine wX ?_ | exact wZ)
                  refine fin_v ?_
                  show RunR ia items icap (runS items ds [] 0) _ _
                  rw [← hrun]
                  rfl
              · have hj2 : j = (items.length - used) := by omega
                have hts2 : timesS d items ((items.length - used)) l used = .ok (l', used') := by
                  rw [← hts, hj2, Nat.sub_self]
                  rfl
                rw [hts2] at hrun
                (first | refine wX ?_ | exact wZ)
                refine ⟨(i + 1, l', ob', cap', used'), ⟨by omega, hrun, hob', hll', hu'⟩, by show ds.length - (i + 1) < ds.length - i; omega, ?_, ?_⟩
                · (repeat' (first | exact trivial | refine And.intro (by with_reducible rfl) ?_ | (with_reducible exact wkC_refl _) | (with_reducible exact wkCs_refl _) | refine And.intro ?_ ?_))
                  all_goals first | rfl | exact av_int (by omega) | exact av_int (by rw [wrap_i64 (by omega)]; omega)
                · exact ⟨wkE_refl _, wkE_refl _, wkE_refl _, wkE_refl _, wkH_nil _⟩
            · have hc : 0 ≤ d.count ∧ d.count ≤ 1000 := by
                have := hdok.2
                unfold CntOk at this
                omega
              obtain ⟨T, hTe⟩ : ∃ T : Nat, d.count.toNat = T := ⟨_, rfl⟩
              have hT : times d (items.length - used) = T := by rw [hT0]; unfold cntS; rw [if_neg (by simpa using h2), if_neg (by simpa using h3)]; exact hTe
              -- T: the times
              rw [hT] at hrun
              (first | refine wX ?_ | exact wZ)
              refine LoopN.intro (Nat × List UInt8 × Option Nat × Nat × Nat) (fun ⟨j, l', ob', cap', used'⟩ => j ≤ T ∧ timesS d items (T - j) l' used' = timesS d items (T) l used ∧ ((ob' = none → l' = [] ∧ cap' = 0) ∧ l'.length ≤ cap') ∧ l'.length ≤ 100000 ∧ used' ≤ items.length)
                (fun ⟨j, _, _, _, _⟩ => mkS Tryz.f12.ntmps 0 [(1, .c (.v (.slice ia items.length icap))), (8, .c (.v (.pointer (some ⟨pb, 0, none⟩)))), (10, .c (.lp 4 0)), (23, .c (.v (.slice (some ⟨db, 0, none⟩) ds.length dcap))), (24, .c (.v (.int .i64 (ds.length : Int)))), (25, .c (.v (.int .i64 (i : Int)))), (52, .c (.v (.int .i64 ((T : Nat) : Int)))), (53, .c (.v (.int .i64 (j : Int))))])
                (fun ⟨_, l', ob', cap', used'⟩ => [.fact (ItemsF ia items), .fact G, pkE pb ob' l'.length cap' ia items.length icap used', outE l' ob' cap', .blk 58 [.v (.int .u8 (d.letter.toNat : Int)), .v (.bool d.big), .v (.int .i64 d.count)]]) (fun ⟨j, _, _, _, _⟩ => T - j) [] rfl
                (fun _ => rfl) (fun _ => rfl) (fun _ _ => okHB_eq rfl) ⟨(0, l, ob, cap, used), ⟨Nat.zero_le _, rfl, hob, hll, hu⟩, ?_, ?_⟩ ?_
              · (repeat' (first | exact trivial | refine And.intro (by with_reducible rfl) ?_ | (with_reducible exact wkC_refl _) | (with_reducible exact wkCs_refl _) | refine And.intro ?_ ?_))
                all_goals first | rfl | exact av_int (by omega) | exact av_int (by rw [wrap_i64 (by omega)]; omega)
              · exact ⟨wkE_refl _, wkE_refl _, wkE_refl _, wkE_refl _, wkE_refl _, wkH_nil _⟩
              rintro ⟨j, l', ob', cap', used'⟩ ⟨hj, hts, hob', hll', hu'⟩
              (first | refine wX ?_ | exact wZ)
              refine brd_dec (fun h2 => ?_) (fun h2 => ?_)
              · have hstep := timesS_succ (d := d) (items := items) (T - j - 1) l' used'
                rw [show T - j - 1 + 1 = T - j by omega, hts] at hstep
                rw [hstep] at hrun
                (first | refine wX ?_ | exact wZ)
                refine callG (one_c pb d l' ob' cap' ia items icap used' hdok hob' hll' hia hu' hl hi) [0, 2, 3] rfl ⟨rfl, rfl, rfl, trivial⟩ rfl ?_
                rintro ⟨l2, ob2, cap2, used2, e⟩ ⟨h3, h4, h5⟩
                by_cases he : e = 0
                · have he0 : e = 0 := he
                  subst he0
                  simp only [if_true] at h5
                  have hfit := oneS_fit hu' h5
                  rw [h5] at hstep hrun
                  (first | refine wX ?_ | exact wZ)
                  refine ⟨(j + 1, l2, ob2, cap2, used2), ⟨by omega, by rw [show T - (j + 1) = T - j - 1 by omega, hstep], ⟨h3, h4⟩, hfit.1, hfit.2⟩, by show T - (j + 1) < T - j; omega, ?_, ?_⟩
                  · (repeat' (first | exact trivial | refine And.intro (by with_reducible rfl) ?_ | (with_reducible exact wkC_refl _) | (with_reducible exact wkCs_refl _) | refine And.intro ?_ ?_))
                    all_goals first | rfl | exact av_int (by omega) | exact av_int (by rw [wrap_i64 (by omega)]; omega)
                  · exact ⟨wkE_refl _, wkE_refl _, wkE_refl _, wkE_refl _, wkE_refl _, wkH_nil _⟩
                · have he0 : ¬ e = 0 := he
                  simp only [if_neg he0] at h5
                  rw [h5] at hrun
                  (first | refine wX ?_ | exact wZ)
                  refine brd_ne (fun _ => ?_) (fun h6 => absurd h6 he0)
                  (first | refine wX ?_ | exact wZ)
                  refine fin_v ?_
                  show RunR ia items icap (runS items ds [] 0) _ _
                  rw [← hrun]
                  rfl
              · have hj2 : j = T := by omega
                have hts2 : timesS d items (T) l used = .ok (l', used') := by
                  rw [← hts, hj2, Nat.sub_self]
                  rfl
                rw [hts2] at hrun
                (first | refine wX ?_ | exact wZ)
                refine ⟨(i + 1, l', ob', cap', used'), ⟨by omega, hrun, hob', hll', hu'⟩, by show ds.length - (i + 1) < ds.length - i; omega, ?_, ?_⟩
                · (repeat' (first | exact trivial | refine And.intro (by with_reducible rfl) ?_ | (with_reducible exact wkC_refl _) | (with_reducible exact wkCs_refl _) | refine And.intro ?_ ?_))
                  all_goals first | rfl | exact av_int (by omega) | exact av_int (by rw [wrap_i64 (by omega)]; omega)
                · exact ⟨wkE_refl _, wkE_refl _, wkE_refl _, wkE_refl _, wkH_nil _⟩
    · have hi : i = ds.length := by omega
      subst hi
      rw [List.drop_length] at hrun
      (first | refine wX ?_ | exact wZ)
      refine fin_p (fun w => SlAt (some ⟨pb, 0, none⟩) 3 [.slice (at0 ob) l.length cap, .slice ia items.length icap, .int .i64 (used : Int)] w ∧ SlAt (at0 ob) l.length (u8s l) w) ?_ (fun w hw => ⟨hw.2.2.1, by simpa using hw.2.2.2.1⟩)
      simp only
      rw [← hrun]
      exact ⟨pb, ob, cap, rfl, fun h => (hob.1 h).1, hob.2, fun w hw => hw⟩
end Go.Proofs.YtjkchonpnocffaaGreatDoor

/-
  Contracts: Pack, Used, Size (program).
-/
namespace Go.Proofs.YtjkchonpnocffaaGreatDoor
open Go.AX Go.RowKit Go.Pack
set_option maxRecDepth 20000

def packV : Except Int (List UInt8 × Nat) → Value
  | .ok (l, _) => .tuple #[.string (bs l), .int .i64 0]
  | .error e => .tuple #[.string (bs []), .int .i64 e]
def usedV : Except Int (List UInt8 × Nat) → Value
  | .ok (_, u) => .tuple #[.int .i64 (u : Int), .int .i64 0]
  | .error e => .tuple #[.int .i64 0, .int .i64 e]
def sizeV : Option (List Dir) → Value
  | none => .tuple #[.int .i64 0, .int .i64 4]
  | some ds => match sizeS ds 0 with
    | none => .tuple #[.int .i64 0, .int .i64 1]
    | some n => .tuple #[.int .i64 (n : Int), .int .i64 0]
theorem Pack_c (form : List UInt8) (ia : Option Addr) (items : List Pack.Item) (icap : Nat) (hs : form.length ≤ 100000)
    (hia : items ≠ [] → ia.isSome = true) (hl : items.length ≤ 100000) (hi : ∀ x ∈ items, x.text.length ≤ 140737488351232 ∧ -9223372036854775808 ≤ x.int ∧ x.int < 9223372036854775808) :
    ∀ H, (∀ w, Facts H w → ItemsF ia items w) → SpecH Tryz.prog 5 (pvs [.string (bs form), .slice ia items.length icap]) H (Ret (packV (packS form items)) H) := by
  refine factC hm Tryz.func5 (by kernel_rfl) rfl rfl ?_
  (first | refine wX ?_ | exact wZ)
  refine SpecF.call (run_c form ia items icap hs hia hl hi) (fun w hw => hw.1) fun v G hR => ?_
  cases hp : packS form items with
  | error e =>
    rw [hp] at hR
    obtain rfl := hR
    have he := packS_err hp
    (first | refine wX ?_ | exact wZ)
    refine brd_ne (fun _ => ?_) (fun h6 => absurd h6 he)
    (first | refine wX ?_ | exact wZ)
    rfl
  | ok x =>
    obtain ⟨l, u⟩ := x
    rw [hp] at hR
    obtain ⟨pb, ob, cap, rfl, hob, hlc, hG⟩ := hR
    (first | refine wX ?_ | exact wZ)
    refine LdN.one (a := some ⟨pb, 0, none⟩) (q := 0) (.slice (at0 ob) l.length cap) rfl (fun w hw => (hG w hw.2.1).1) rfl ?_
    (first | refine wX ?_ | exact wZ)
    refine ReadW.bytes l rfl rfl rfl rfl rfl rfl (fun w hw => (hG w hw.2.1).2) ?_
    (first | refine wX ?_ | exact wZ)
    rfl
theorem Used_c (form : List UInt8) (ia : Option Addr) (items : List Pack.Item) (icap : Nat) (hs : form.length ≤ 100000)
    (hia : items ≠ [] → ia.isSome = true) (hl : items.length ≤ 100000) (hi : ∀ x ∈ items, x.text.length ≤ 140737488351232 ∧ -9223372036854775808 ≤ x.int ∧ x.int < 9223372036854775808) :
    ∀ H, (∀ w, Facts H w → ItemsF ia items w) → SpecH Tryz.prog 25 (pvs [.string (bs form), .slice ia items.length icap]) H (Ret (usedV (packS form items)) H) := by
  refine factC hm Tryz.func25 (by kernel_rfl) rfl rfl ?_
  (first | refine wX ?_ | exact wZ)
  refine SpecF.call (run_c form ia items icap hs hia hl hi) (fun w hw => hw.1) fun v G hR => ?_
  cases hp : packS form items with
  | error e =>
    rw [hp] at hR
    obtain rfl := hR
    have he := packS_err hp
    (first | refine wX ?_ | exact wZ)
    refine brd_ne (fun _ => ?_) (fun h6 => absurd h6 he)
    (first | refine wX ?_ | exact wZ)
    rfl
  | ok x =>
    obtain ⟨l, u⟩ := x
    rw [hp] at hR
    obtain ⟨pb, ob, cap, rfl, hob, hlc, hG⟩ := hR
    (first | refine wX ?_ | exact wZ)
    refine LdN.one (a := some ⟨pb, 0, none⟩) (q := 2) (.int .i64 (u : Int)) rfl (fun w hw => (hG w hw.2.1).1) rfl ?_
    (first | refine wX ?_ | exact wZ)
    rfl
end Go.Proofs.YtjkchonpnocffaaGreatDoor
