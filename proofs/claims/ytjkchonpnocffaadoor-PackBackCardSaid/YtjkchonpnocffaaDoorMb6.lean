/-
  Lemmas (C24 R1 P15 D1 D2 D3 D4 C25 C26 C27 C28 Ax32 Ax33 C29 D5 D6 P16 D7 D8 D9 D10 D11 D12 D13 E1 E2 E3 E4 Ax35 P4 P5 P6 P7 P8 P18 P19 P20).
-/
import Derived.Lay
import Derived.Lib.LaidU8
import Derived.PinnedBridge
import Derived.Lib.AppendZerosOnto
import Derived.Test.YtjkchonpnocffaaDoorMb5
/-
  Contract: a number is read (program).
-/
namespace Go.Proofs.YtjkchonpnocffaaDoor
open Go.AX Go.RowKit Go.Pack
set_option maxRecDepth 20000

/-- What is known of the world: a number of bytealg's, the tables of utf8. -/
def UtfF (w : World) : Prop := MaxF w ∧ Lib.Utf8Tabs 1 2 w
theorem Decode_c (s : List UInt8) : ∀ H, (∀ w, Facts H w → UtfF w) → SpecH Tryd.prog 84 (pvs [.string (bs s)]) H (Ret (.tuple #[.int .i32 ((Lib.decodeGo (bs s)).1 : Int), .int .i64 ((Lib.decodeGo (bs s)).2 : Int)]) H) := fun H hF =>
  SpecH.rawP (R := fun r => r = .tuple #[.int .i32 ((Lib.decodeGo (bs s)).1 : Int), .int .i64 ((Lib.decodeGo (bs s)).2 : Int)]) (callOk Tryd.func84 (by kernel_rfl) rfl) (fun w hw => (Tryd.utf8_DecodeRuneInString (bs s) w (hF w hw).2).mono fun e w' ⟨he, bel⟩ => ⟨_, he, rfl, bel⟩) fun r hr => by subst hr; exact ⟨rfl, rfl⟩
theorem runeD_le {s : List UInt8} {n k : Nat} (h : runeD s = some (n, k)) : 1 ≤ k ∧ k ≤ s.length ∧ n ≤ 1114111 ∧ (n = 65533 → 1 < k) := by
  cases s with
  | nil => cases h
  | cons a r =>
    unfold runeD at h
    simp only at h
    have ha := UInt8.toNat_lt a
    split at h
    · rename_i h1
      have h2 : a.toNat < 128 := UInt8.lt_iff_toNat_lt.1 h1
      cases h
      exact ⟨Nat.le_refl _, by simp, by omega, by omega⟩
    split at h
    · rename_i h1
      rw [Bool.and_eq_true, decide_eq_true_eq, decide_eq_true_eq] at h1
      have h3 : a.toNat < 224 := UInt8.lt_iff_toNat_lt.1 h1.2
      split at h
      · rename_i b r2
        have hb := UInt8.toNat_lt b
        split at h
        · cases h
          exact ⟨by omega, by simp, by omega, by omega⟩
        · cases h
      · cases h
    split at h
    · rename_i h1
      rw [Bool.and_eq_true, decide_eq_true_eq, decide_eq_true_eq] at h1
      have h3 : a.toNat < 240 := UInt8.lt_iff_toNat_lt.1 h1.2
      split at h
      · rename_i b c r2
        have hb := UInt8.toNat_lt b
        have hc := UInt8.toNat_lt c
        split at h
        · cases h
          exact ⟨by omega, by simp, by omega, by omega⟩
        · cases h
      · cases h
    split at h
    · split at h
      · split at h
        · rename_i h9
          simp only [Bool.and_eq_true, decide_eq_true_eq] at h9
          cases h
          exact ⟨by omega, by simp, h9.2, by omega⟩
        · cases h
      · cases h
    · cases h
theorem number_u (d : Dir) (ub : Nat) (s : List UInt8) (a : Nat) (out : Option Nat) (len cap : Nat) (hl : letters.contains d.letter = true) (hst : isStr d.letter = false) (hp : isPl d.letter = false) (ha : a ≤ s.length) (hs : s.length ≤ 1000000) :
    SpecH Tryd.prog 58 [.c (.v (.pointer (some ⟨ub, 0, none⟩))), .c (.v (dirV d))] [.fact UtfF, unE ub s a out len cap]
      (RetG (NumOk (rdNum d (s.drop a)) a s.length) numV fun i => [.fact UtfF, unE ub s i.2.2 out len cap]) := by
  refine ownC hm Tryd.func58 (by kernel_rfl) rfl rfl (fun _ _ => okHB_eq rfl) (fun _ _ => Nat.le_refl _) ?_
  have h119 : ((d.letter.toNat : Int) == 119) = (d.letter == 119) := u8_eq (n := 119) (by decide)
  have h85 : ((d.letter.toNat : Int) == 85) = (d.letter == 85) := u8_eq (n := 85) (by decide)
  have hzs := bs_size s
  (first | refine wX ?_ | exact wZ)
  rw [h119]
  cases e1 : d.letter == 119 with
  | true =>
    have hrd : rdNum d (s.drop a) = grp 9 0 0 (s.drop a) := by unfold rdNum; rw [if_pos e1]
    (first | refine wX ?_ | exact wZ)
    refine callG (group_c ub s a out len cap ha hs) [1] rfl ⟨rfl, trivial⟩ rfl ?_
    intro i hi
    (first | refine wX ?_ | exact wZ)
    exact ⟨i, by rw [hrd]; exact hi, rfl, wkE_refl _, wkE_refl _, wkH_nil _⟩
  | false =>
    (first | refine wX ?_ | exact wZ)
    rw [h85]
    cases e2 : d.letter == 85 with
    | true =>
      have hrd : rdNum d (s.drop a) = if (s.drop a).isEmpty then .error 14 else match runeD (s.drop a) with | some (n, k) => .ok ((n : Int), k) | none => .error 1 := by unfold rdNum; rw [if_neg (by rw [e1]; decide), if_pos e2]; rfl
      (first | refine wX ?_ | exact wZ)
      refine call1 (left_c ub s a out len cap ha hs _ (fun w hw => hw.2.1)) ?_
      (first | refine wX ?_ | exact wZ)
      cases hd : s.drop a with
      | nil =>
        have hl := drop_end hd ha
        rw [hd] at hrd
        refine brd_eq (fun h1 => ?_) (fun h1 => absurd (by omega) h1)
        (first | refine wX ?_ | exact wZ)
        exact ⟨(0, 14, a), by rw [hrd]; exact ⟨rfl, rfl, ha⟩, rfl, wkE_refl _, wkE_refl _, wkH_nil _⟩
      | cons c r =>
        obtain ⟨_, hlt, _, hln⟩ := drop_at hd
        rw [hd] at hrd
        have hrd2 : rdNum d (c :: r) = match runeD (c :: r) with | some (n, k) => .ok ((n : Int), k) | none => .error 1 := hrd
        have hdec := dec_eq c r
        refine brd_eq (fun h1 => absurd h1 (by omega)) (fun h1 => ?_)
        (first | refine wX ?_ | exact wZ)
        refine LdN.one (a := some ⟨ub, 0, none⟩) (q := 0) (.string (bs s)) rfl (fun w hw => hw.2.1) rfl ?_
        (first | refine wX ?_ | exact wZ)
        refine LdN.one (a := some ⟨ub, 0, none⟩) (q := 1) (.int .i64 (a : Int)) rfl (fun w hw => hw.2.1) rfl ?_
        (first | refine wX ?_ | exact wZ)
        refine ReadW.sl_l a rfl Tryd.underlying9 rfl rfl ⟨rfl, ha⟩ ?_
        rw [hd]
        (first | refine wX ?_ | exact wZ)
        refine callQ (Decode_c (c :: r) _ (fun w hw => hw.1)) ?_
        rw [hdec]
        cases hrn : runeD (c :: r) with
        | none =>
          rw [hrn] at hrd2
          (first | refine wX ?_ | exact wZ)
          exact ⟨(0, 1, a), by rw [hrd2]; exact ⟨rfl, rfl, ha⟩, rfl, wkE_refl _, wkE_refl _, wkH_nil _⟩
        | some x =>
          obtain ⟨n, k⟩ := x
          rw [hrn] at hrd2
          obtain ⟨h3, h4, h5, h6⟩ := runeD_le hrn
          obtain ⟨z, hz⟩ : ∃ z : Int, z = (n : Int) := ⟨_, rfl⟩
          have ho1 : ((orErr (some (n, k))).1 : Int) = z := hz.symm
          have ho2 : ((orErr (some (n, k))).2 : Int) = (k : Int) := rfl
          rw [ho1, ho2]
          have hk2 : a + k ≤ s.length := by simp only [List.length_cons] at h4; omega
          (first | refine wX ?_ | exact wZ)
          refine brd_eq (fun h7 => ?_) (fun h7 => ?_)
          · have hk1 := h6 (by omega)
            (first | refine wX ?_ | exact wZ)
            refine brd_dec (fun h8 => absurd h8 (by omega)) (fun _ => ?_)
            (first | refine wX ?_ | exact wZ)
            refine LdN.one (a := some ⟨ub, 0, none⟩) (q := 1) (.int .i64 (a : Int)) rfl (fun w hw => hw.2.1) rfl ?_
            (first | refine wX ?_ | exact wZ)
            refine EffW.appTo (i := 1) (q := 1) (ys := [_]) (unC s (a + k) out len cap) 3 rfl rfl rfl rfl rfl rfl rfl (Nat.le_of_ble_eq_true rfl) (by
              show [_, Value.int .i64 _, _] = [_, Value.int .i64 _, _]
              rw [wrap_i64 (by omega)]
              rfl) rfl ?_
            (first | refine wX ?_ | exact wZ)
            exact ⟨((n : Int), 0, a + k), by rw [hrd2]; exact ⟨rfl, hk2⟩, by rw [hz]; rfl, wkE_refl _, wkE_refl _, wkH_nil _⟩
          · skip
            (first | refine wX ?_ | exact wZ)
            refine LdN.one (a := some ⟨ub, 0, none⟩) (q := 1) (.int .i64 (a : Int)) rfl (fun w hw => hw.2.1) rfl ?_
            (first | refine wX ?_ | exact wZ)
            refine EffW.appTo (i := 1) (q := 1) (ys := [_]) (unC s (a + k) out len cap) 3 rfl rfl rfl rfl rfl rfl rfl (Nat.le_of_ble_eq_true rfl) (by
              show [_, Value.int .i64 _, _] = [_, Value.int .i64 _, _]
              rw [wrap_i64 (by omega)]
              rfl) rfl ?_
            (first | refine wX ?_ | exact wZ)
            exact ⟨((n : Int), 0, a + k), by rw [hrd2]; exact ⟨rfl, hk2⟩, by rw [hz]; rfl, wkE_refl _, wkE_refl _, wkH_nil _⟩
    | false =>
      have hz0 : sz d.letter ≠ 0 := by
        rcases letter_num hl hst hp with h | h | h
        · rw [h] at e1; exact absurd e1 (by decide)
        · rw [h] at e2; exact absurd e2 (by decide)
        · exact h
      (first | refine wX ?_ | exact wZ)
      refine callG (fixed_c d ub s a out len cap hz0 ha hs) [1] rfl ⟨rfl, trivial⟩ rfl ?_
      intro i hi
      (first | refine wX ?_ | exact wZ)
      exact ⟨i, hi, rfl, wkE_refl _, wkE_refl _, wkH_nil _⟩
end Go.Proofs.YtjkchonpnocffaaDoor

/-
  What the rows list, and what it gives: the tables of utf8.
-/
namespace Go.Proofs.YtjkchonpnocffaaDoor
open Go.ChangeShapes Go.WideShapes Go.ChangeAt Go.RowKit Go.AX
set_option maxRecDepth 100000

/-- What the rows list. -/
def laid3 : List (String × DataW Unit) := [("unicode/utf8.acceptRanges", Rows.laid_unicode_utf8_acceptRanges), ("unicode/utf8.first", Rows.laid_unicode_utf8_first)]
theorem door_met (os : Os) (args : Array Value) : laidMetH Tryd.prog laid3 ((World.laidAll Tryd.prog os laid3).forCall (fun _ _ => 0) ⟨#[], args, []⟩).memory := by
  rw [MakeChecks.laidMetH_plain _ _ _ (by kernel_rfl)]; exact laidMet_laidAll _ (by kernel_rfl) (by kernel_rfl)
theorem tabs_of {W : World} (h : laidMetH Tryd.prog laid3 W) : Lib.Utf8Tabs 1 2 W := by
  rw [MakeChecks.laidMetH_plain _ _ _ (by kernel_rfl)] at h
  have h1 : Lib.VarReads Tryd.prog W "unicode/utf8.first" Lib.firstData := by
    have := Lib.laidMet.reads h (n := "unicode/utf8.first") (d := Rows.laid_unicode_utf8_first) (.tail _ (.head _))
    rw [show Rows.laid_unicode_utf8_first = Lib.firstData from Pinned.utf8First_eq] at this
    exact this
  have h2 : Lib.VarReads Tryd.prog W "unicode/utf8.acceptRanges" Lib.acceptData := by
    have := Lib.laidMet.reads h (n := "unicode/utf8.acceptRanges") (d := Rows.laid_unicode_utf8_acceptRanges) (.head _)
    rw [show (Rows.laid_unicode_utf8_acceptRanges : DataW Unit) = Lib.acceptData by kernel_rfl] at this
    exact this
  exact Go.Proofs.utf8Tabs_of_reads (ρ := Tryd.lays260_ren) Tryd.lays260 ⟨by kernel_rfl, by kernel_rfl, by kernel_rfl, by kernel_rfl, by kernel_rfl, by kernel_rfl, by kernel_rfl⟩ h1 h2
theorem utf_imm {W : World} (h : UtfF W) : Imm (fun b => b < W.heap.size) W UtfF := by
  refine ⟨h, fun w' hw => ⟨?_, fun c hc => ?_, fun i hi => ⟨?_, ?_⟩⟩⟩
  · obtain ⟨m, hm⟩ := h.1
    exact ⟨m, cell?_keep hm (hw _ (cell?_lt hm))⟩
  · have hm := h.2.1 c hc
    exact cell?_keep hm (hw _ (cell?_lt hm))
  · have hm := (h.2.2 i hi).1
    exact cell?_keep hm (hw _ (cell?_lt hm))
  · have hm := (h.2.2 i hi).2
    exact cell?_keep hm (hw _ (cell?_lt hm))
theorem utf_of {W : World} (h : W.ShapedOpen Tryd.prog) (hL : laidMetH Tryd.prog laid3 W) : UtfF W := ⟨max_of h, tabs_of hL⟩
end Go.Proofs.YtjkchonpnocffaaDoor

/-
  Plain Lean: numbers are read one by one.
-/
namespace Go.Pack
theorem runeD_pos {s : B} {n k : Nat} (h : runeD s = some (n, k)) : 1 ≤ k := by
  cases s with
  | nil => cases h
  | cons a r =>
    unfold runeD at h
    simp only at h
    split at h
    · cases h; exact Nat.le_refl _
    split at h
    · split at h
      · split at h
        · simp only [Option.some.injEq, Prod.mk.injEq] at h; omega
        · cases h
      · cases h
    split at h
    · split at h
      · split at h
        · simp only [Option.some.injEq, Prod.mk.injEq] at h; omega
        · cases h
      · cases h
    split at h
    · split at h
      · split at h
        · simp only [Option.some.injEq, Prod.mk.injEq] at h; omega
        · cases h
      · cases h
    · cases h
theorem grp_pos : ∀ (f n i : Nat) (s : B) (x : Int × Nat), grp f n i s = .ok x → i + 1 ≤ x.2
  | f, n, i, [], x, h => by cases f <;> cases h
  | 0, n, i, c :: r, x, h => by cases h
  | f + 1, n, i, c :: r, x, h => by
    unfold grp at h
    split at h
    · cases h
    split at h
    · cases h; exact Nat.le_refl _
    · have := grp_pos f _ (i + 1) r x h
      omega
theorem rdNum_pos {d : Dir} {s : B} {x : Int × Nat} (hz : d.letter = 119 ∨ d.letter = 85 ∨ sz d.letter ≠ 0) (h : rdNum d s = .ok x) : 1 ≤ x.2 := by
  unfold rdNum at h
  split at h
  · have := grp_pos _ _ _ _ _ h
    omega
  split at h
  · split at h
    · cases h
    split at h
    · rename_i n k hr
      cases h
      exact runeD_pos hr
    · cases h
  · rename_i h1 h2
    split at h
    · cases h
    split at h
    · cases h
      have : sz d.letter ≠ 0 := by
        rcases hz with h | h | h
        · exact absurd (by rw [h]; rfl) h1
        · exact absurd (by rw [h]; rfl) h2
        · exact h
      show 1 ≤ sz d.letter
      omega
    · cases h
theorem grp_err : ∀ (f n i : Nat) (s : B) (e : Int), grp f n i s = .error e → e ≠ 0
  | f, n, i, [], e, h => by cases f <;> cases h <;> decide
  | 0, n, i, c :: r, e, h => by cases h; decide
  | f + 1, n, i, c :: r, e, h => by
    unfold grp at h
    split at h
    · cases h; decide
    split at h
    · cases h
    · exact grp_err f _ (i + 1) r e h
theorem whl_err {d : Dir} {s : B} {e : Int} (h : whl d s = .error e) : e ≠ 0 := by
  unfold whl at h
  simp only at h
  generalize beN (if hi d = true then s else s.reverse) = u at h
  by_cases hg : sg d.letter = true
  · rw [if_pos hg] at h; cases h
  · rw [if_neg hg] at h
    by_cases hu : u < 2 ^ 63
    · rw [if_pos hu] at h; cases h
    · rw [if_neg hu] at h; cases h; decide
theorem rdNum_err {d : Dir} {s : B} {e : Int} (h : rdNum d s = .error e) : e ≠ 0 := by
  unfold rdNum at h
  split at h
  · exact grp_err _ _ _ _ _ h
  split at h
  · split at h
    · cases h; decide
    split at h
    · cases h
    · cases h; decide
  · split at h
    · cases h; decide
    split at h
    · cases h
    · rename_i e' he
      cases h
      exact whl_err he
end Go.Pack

/-
  Contracts: sizes, signs, what fits (document).
-/
namespace Go.Proofs.YtjkchonpnocffaaDoor
open Go.AX Go.RowKit Go.Pack
set_option maxRecDepth 20000

theorem size_r (c : UInt8) : ∀ H, SpecH Tryd.prog 30 (pvs [.int .u8 (c.toNat : Int)]) H (Ret (.int .i64 (sz c : Nat)) H) := by
  refine pureC hm Tryd.func30 (by kernel_rfl) rfl rfl ?_
  have h67 : ((c.toNat : Int) == 67) = (c == 67) := u8_eq (n := 67) (by decide)
  have h99 : ((c.toNat : Int) == 99) = (c == 99) := u8_eq (n := 99) (by decide)
  have h83 : ((c.toNat : Int) == 83) = (c == 83) := u8_eq (n := 83) (by decide)
  have h115 : ((c.toNat : Int) == 115) = (c == 115) := u8_eq (n := 115) (by decide)
  have h110 : ((c.toNat : Int) == 110) = (c == 110) := u8_eq (n := 110) (by decide)
  have h76 : ((c.toNat : Int) == 76) = (c == 76) := u8_eq (n := 76) (by decide)
  have h108 : ((c.toNat : Int) == 108) = (c == 108) := u8_eq (n := 108) (by decide)
  have h78 : ((c.toNat : Int) == 78) = (c == 78) := u8_eq (n := 78) (by decide)
  have h81 : ((c.toNat : Int) == 81) = (c == 81) := u8_eq (n := 81) (by decide)
  have h113 : ((c.toNat : Int) == 113) = (c == 113) := u8_eq (n := 113) (by decide)
  (first | refine wX ?_ | exact wZ)
  rw [h67]
  cases e67 : c == 67 with
  | true =>
    (first | refine wX ?_ | exact wZ)
    simp [sz, e67]
  | false =>
    (first | refine wX ?_ | exact wZ)
    rw [h99]
    cases e99 : c == 99 with
    | true =>
      (first | refine wX ?_ | exact wZ)
      simp [sz, e67, e99]
    | false =>
      (first | refine wX ?_ | exact wZ)
      rw [h83]
      cases e83 : c == 83 with
      | true =>
        (first | refine wX ?_ | exact wZ)
        simp [sz, e67, e99, e83]
      | false =>
        (first | refine wX ?_ | exact wZ)
        rw [h115]
        cases e115 : c == 115 with
        | true =>
          (first | refine wX ?_ | exact wZ)
          simp [sz, e67, e99, e83, e115]
        | false =>
          (first | refine wX ?_ | exact wZ)
          rw [h110]
          cases e110 : c == 110 with
          | true =>
            (first | refine wX ?_ | exact wZ)
            simp [sz, e67, e99, e83, e115, e110]
          | false =>
            (first | refine wX ?_ | exact wZ)
            rw [h76]
            cases e76 : c == 76 with
            | true =>
              (first | refine wX ?_ | exact wZ)
              simp [sz, e67, e99, e83, e115, e110, e76]
            | false =>
              (first | refine wX ?_ | exact wZ)
              rw [h108]
              cases e108 : c == 108 with
              | true =>
                (first | refine wX ?_ | exact wZ)
                simp [sz, e67, e99, e83, e115, e110, e76, e108]
              | false =>
                (first | refine wX ?_ | exact wZ)
                rw [h78]
                cases e78 : c == 78 with
                | true =>
                  (first | refine wX ?_ | exact wZ)
                  simp [sz, e67, e99, e83, e115, e110, e76, e108, e78]
                | false =>
                  (first | refine wX ?_ | exact wZ)
                  rw [h81]
                  cases e81 : c == 81 with
                  | true =>
                    (first | refine wX ?_ | exact wZ)
                    simp [sz, e67, e99, e83, e115, e110, e76, e108, e78, e81]
                  | false =>
                    (first | refine wX ?_ | exact wZ)
                    rw [h113]
                    cases e113 : c == 113 with
                    | true =>
                      (first | refine wX ?_ | exact wZ)
                      simp [sz, e67, e99, e83, e115, e110, e76, e108, e78, e81, e113]
                    | false =>
                      (first | refine wX ?_ | exact wZ)
                      simp [sz, e67, e99, e83, e115, e110, e76, e108, e78, e81, e113]
theorem signed_r (c : UInt8) : ∀ H, SpecH Tryd.prog 40 (pvs [.int .u8 (c.toNat : Int)]) H (Ret (.bool (sg c)) H) := by
  refine pureC hm Tryd.func40 (by kernel_rfl) rfl rfl ?_
  have h99 : ((c.toNat : Int) == 99) = (c == 99) := u8_eq (n := 99) (by decide)
  have h115 : ((c.toNat : Int) == 115) = (c == 115) := u8_eq (n := 115) (by decide)
  have h108 : ((c.toNat : Int) == 108) = (c == 108) := u8_eq (n := 108) (by decide)
  have h113 : ((c.toNat : Int) == 113) = (c == 113) := u8_eq (n := 113) (by decide)
  (first | refine wX ?_ | exact wZ)
  rw [h99]
  cases e99 : c == 99 with
  | true =>
    (first | refine wX ?_ | exact wZ)
    simp [sg, e99]
  | false =>
    (first | refine wX ?_ | exact wZ)
    rw [h115]
    cases e115 : c == 115 with
    | true =>
      (first | refine wX ?_ | exact wZ)
      simp [sg, e99, e115]
    | false =>
      (first | refine wX ?_ | exact wZ)
      rw [h108]
      cases e108 : c == 108 with
      | true =>
        (first | refine wX ?_ | exact wZ)
        simp [sg, e99, e115, e108]
      | false =>
        (first | refine wX ?_ | exact wZ)
        rw [h113]
        cases e113 : c == 113 with
        | true =>
          (first | refine wX ?_ | exact wZ)
          simp [sg, e99, e115, e108, e113]
        | false =>
          (first | refine wX ?_ | exact wZ)
          simp [sg, e99, e115, e108, e113]
theorem Has_r (n : Int) : ∀ H, SpecH Tryd.prog 70 (pvs [.int .i64 n, .int .i64 2]) H (Ret (.bool (rune n)) H) := by
  refine pureC hm Tryd.func70 (by kernel_rfl) rfl rfl ?_
  (first | refine wX ?_ | exact wZ)
  refine brd_dec (fun h0 => ?_) (fun h0 => ?_)
  · (first | refine wX ?_ | exact wZ)
    refine brd_dec (fun h1 => ?_) (fun h1 => ?_)
    · (first | refine wX ?_ | exact wZ)
      refine brd_dec (fun h2 => ?_) (fun h2 => ?_)
      · (first | refine wX ?_ | exact wZ)
        simp [rune, show 0 ≤ n from h0, show n ≤ 1114111 from h1, show n < 55296 from h2]
      · (first | refine wX ?_ | exact wZ)
        simp [rune, show 0 ≤ n from h0, show n ≤ 1114111 from h1, show ¬ n < 55296 from h2]
    · (first | refine wX ?_ | exact wZ)
      simp [rune, show ¬ n ≤ 1114111 from h1]
  · (first | refine wX ?_ | exact wZ)
    simp [rune, show ¬ 0 ≤ n from h0]
end Go.Proofs.YtjkchonpnocffaaDoor

/-
  Contracts: what fits, characters, bytes turned (document).
-/
namespace Go.Proofs.YtjkchonpnocffaaDoor
open Go.AX Go.RowKit Go.Pack
set_option maxRecDepth 20000

theorem size_l (c : UInt8) (k : Nat) (h : sz c = k) : ∀ H, SpecH Tryd.prog 30 (pvs [.int .u8 (c.toNat : Int)]) H (Ret (.int .i64 (k : Nat)) H) := by
  subst h
  exact size_r c
theorem sign_l (c : UInt8) (k : Bool) (h : sg c = k) : ∀ H, SpecH Tryd.prog 40 (pvs [.int .u8 (c.toNat : Int)]) H (Ret (.bool k) H) := by
  subst h
  exact signed_r c
/-- What fits a letter. -/
def fitR (c : UInt8) (n : Int) : Bool := if c == 85 then rune n else if c == 119 then decide (0 ≤ n) else fit c n
theorem fits_r (c : UInt8) (n : Int) (h : c = 119 ∨ c = 85 ∨ sz c ≠ 0) : ∀ H, SpecH Tryd.prog 39 (pvs [.int .u8 (c.toNat : Int), .int .i64 n]) H (Ret (.bool (fitR c n)) H) := by
  refine pureC hm Tryd.func39 (by kernel_rfl) rfl rfl ?_
  rcases h with rfl | rfl | h
  · (first | refine wX ?_ | exact wZ)
    refine call1 (size_l 119 0 rfl _) ?_
    (first | refine wX ?_ | exact wZ)
    refine call1 (sign_l 119 false rfl _) ?_
    (first | refine wX ?_ | exact wZ)
    refine brd_dec (fun h1 => ?_) (fun h1 => ?_)
    · (first | refine wX ?_ | exact wZ)
      rw [show fitR 119 n = decide (0 ≤ n) from rfl, decide_eq_true h1]
    · (first | refine wX ?_ | exact wZ)
      rw [show fitR 119 n = decide (0 ≤ n) from rfl, decide_eq_false h1]
  · (first | refine wX ?_ | exact wZ)
    refine call1 (Has_r n _) ?_
    (first | refine wX ?_ | exact wZ)
    rfl
  rcases sz_cases h with rfl | rfl | rfl | rfl | rfl | rfl | rfl | rfl | rfl | rfl
  · (first | refine wX ?_ | exact wZ)
    refine call1 (size_l 67 1 rfl _) ?_
    (first | refine wX ?_ | exact wZ)
    refine call1 (sign_l 67 false rfl _) ?_
    (first | refine wX ?_ | exact wZ)
    refine brd_dec (fun h1 => ?_) (fun h1 => ?_)
    · (first | refine wX ?_ | exact wZ)
      rw [show fitR 67 n = (decide (0 ≤ n) && decide (n < 256)) from rfl, decide_eq_true h1]
      rfl
    · (first | refine wX ?_ | exact wZ)
      rw [show fitR 67 n = (decide (0 ≤ n) && decide (n < 256)) from rfl, decide_eq_false h1]
      rfl
  · (first | refine wX ?_ | exact wZ)
    refine call1 (size_l 99 1 rfl _) ?_
    (first | refine wX ?_ | exact wZ)
    refine call1 (sign_l 99 true rfl _) ?_
    (first | refine wX ?_ | exact wZ)
    rw [show IntKind.i64.wrap (0 - IntKind.i64.wrap (1 * 2 ^ min (IntKind.i64.wrap (8 * ((1 : Nat) : Int) - 1)).toNat IntKind.i64.bits)) = -128 from rfl]
    refine brd_dec (fun h1 => ?_) (fun h1 => ?_)
    · (first | refine wX ?_ | exact wZ)
      rw [show fitR 99 n = (decide (-128 ≤ n) && decide (n < 128)) from rfl, decide_eq_true h1]
      rfl
    · (first | refine wX ?_ | exact wZ)
      rw [show fitR 99 n = (decide (-128 ≤ n) && decide (n < 128)) from rfl, decide_eq_false h1]
      rfl
  · (first | refine wX ?_ | exact wZ)
    refine call1 (size_l 83 2 rfl _) ?_
    (first | refine wX ?_ | exact wZ)
    refine call1 (sign_l 83 false rfl _) ?_
    (first | refine wX ?_ | exact wZ)
    refine brd_dec (fun h1 => ?_) (fun h1 => ?_)
    · (first | refine wX ?_ | exact wZ)
      rw [show fitR 83 n = (decide (0 ≤ n) && decide (n < 65536)) from rfl, decide_eq_true h1]
      rfl
    · (first | refine wX ?_ | exact wZ)
      rw [show fitR 83 n = (decide (0 ≤ n) && decide (n < 65536)) from rfl, decide_eq_false h1]
      rfl
  · (first | refine wX ?_ | exact wZ)
    refine call1 (size_l 115 2 rfl _) ?_
    (first | refine wX ?_ | exact wZ)
    refine call1 (sign_l 115 true rfl _) ?_
    (first | refine wX ?_ | exact wZ)
    rw [show IntKind.i64.wrap (0 - IntKind.i64.wrap (1 * 2 ^ min (IntKind.i64.wrap (8 * ((2 : Nat) : Int) - 1)).toNat IntKind.i64.bits)) = -32768 from rfl]
    refine brd_dec (fun h1 => ?_) (fun h1 => ?_)
    · (first | refine wX ?_ | exact wZ)
      rw [show fitR 115 n = (decide (-32768 ≤ n) && decide (n < 32768)) from rfl, decide_eq_true h1]
      rfl
    · (first | refine wX ?_ | exact wZ)
      rw [show fitR 115 n = (decide (-32768 ≤ n) && decide (n < 32768)) from rfl, decide_eq_false h1]
      rfl
  · (first | refine wX ?_ | exact wZ)
    refine call1 (size_l 110 2 rfl _) ?_
    (first | refine wX ?_ | exact wZ)
    refine call1 (sign_l 110 false rfl _) ?_
    (first | refine wX ?_ | exact wZ)
    refine brd_dec (fun h1 => ?_) (fun h1 => ?_)
    · (first | refine wX ?_ | exact wZ)
      rw [show fitR 110 n = (decide (0 ≤ n) && decide (n < 65536)) from rfl, decide_eq_true h1]
      rfl
    · (first | refine wX ?_ | exact wZ)
      rw [show fitR 110 n = (decide (0 ≤ n) && decide (n < 65536)) from rfl, decide_eq_false h1]
      rfl
  · (first | refine wX ?_ | exact wZ)
    refine call1 (size_l 76 4 rfl _) ?_
    (first | refine wX ?_ | exact wZ)
    refine call1 (sign_l 76 false rfl _) ?_
    (first | refine wX ?_ | exact wZ)
    refine brd_dec (fun h1 => ?_) (fun h1 => ?_)
    · (first | refine wX ?_ | exact wZ)
      rw [show fitR 76 n = (decide (0 ≤ n) && decide (n < 4294967296)) from rfl, decide_eq_true h1]
      rfl
    · (first | refine wX ?_ | exact wZ)
      rw [show fitR 76 n = (decide (0 ≤ n) && decide (n < 4294967296)) from rfl, decide_eq_false h1]
      rfl
  · (first | refine wX ?_ | exact wZ)
    refine call1 (size_l 108 4 rfl _) ?_
    (first | refine wX ?_ | exact wZ)
    refine call1 (sign_l 108 true rfl _) ?_
    (first | refine wX ?_ | exact wZ)
    rw [show IntKind.i64.wrap (0 - IntKind.i64.wrap (1 * 2 ^ min (IntKind.i64.wrap (8 * ((4 : Nat) : Int) - 1)).toNat IntKind.i64.bits)) = -2147483648 from rfl]
    refine brd_dec (fun h1 => ?_) (fun h1 => ?_)
    · (first | refine wX ?_ | exact wZ)
      rw [show fitR 108 n = (decide (-2147483648 ≤ n) && decide (n < 2147483648)) from rfl, decide_eq_true h1]
      rfl
    · (first | refine wX ?_ | exact wZ)
      rw [show fitR 108 n = (decide (-2147483648 ≤ n) && decide (n < 2147483648)) from rfl, decide_eq_false h1]
      rfl
  · (first | refine wX ?_ | exact wZ)
    refine call1 (size_l 78 4 rfl _) ?_
    (first | refine wX ?_ | exact wZ)
    refine call1 (sign_l 78 false rfl _) ?_
    (first | refine wX ?_ | exact wZ)
    refine brd_dec (fun h1 => ?_) (fun h1 => ?_)
    · (first | refine wX ?_ | exact wZ)
      rw [show fitR 78 n = (decide (0 ≤ n) && decide (n < 4294967296)) from rfl, decide_eq_true h1]
      rfl
    · (first | refine wX ?_ | exact wZ)
      rw [show fitR 78 n = (decide (0 ≤ n) && decide (n < 4294967296)) from rfl, decide_eq_false h1]
      rfl
  · (first | refine wX ?_ | exact wZ)
    refine call1 (size_l 81 8 rfl _) ?_
    (first | refine wX ?_ | exact wZ)
    refine call1 (sign_l 81 false rfl _) ?_
    (first | refine wX ?_ | exact wZ)
    refine brd_dec (fun h1 => ?_) (fun h1 => ?_)
    · (first | refine wX ?_ | exact wZ)
      rw [show fitR 81 n = decide (0 ≤ n) from rfl, decide_eq_true h1]
    · (first | refine wX ?_ | exact wZ)
      rw [show fitR 81 n = decide (0 ≤ n) from rfl, decide_eq_false h1]
  · (first | refine wX ?_ | exact wZ)
    refine call1 (size_l 113 8 rfl _) ?_
    (first | refine wX ?_ | exact wZ)
    rfl
end Go.Proofs.YtjkchonpnocffaaDoor

/-
  Contracts: the bytes of a character; bytes turned (document).
-/
namespace Go.Proofs.YtjkchonpnocffaaDoor
open Go.AX Go.RowKit Go.Pack
set_option maxRecDepth 20000

theorem SlAt.eq {a : Option Addr} {k : Nat} {xs ys : List Value} {w : World} (h : SlAt a k xs w) (e : xs = ys) : SlAt a k ys w := e ▸ h
end Go.Proofs.YtjkchonpnocffaaDoor

/-
  Contracts: hex digits (document).
-/
namespace Go.Proofs.YtjkchonpnocffaaDoor
open Go.AX Go.RowKit Go.Pack
set_option maxRecDepth 20000

end Go.Proofs.YtjkchonpnocffaaDoor

/-
  Contract: the numbers of a directive are read (program).
-/
namespace Go.Proofs.YtjkchonpnocffaaDoor
open Go.AX Go.RowKit Go.Pack
set_option maxRecDepth 20000

/-- What a reader leaves: items, where they lie, where it stands, the error. -/
structure NSt where
  l : List Pack.Item
  ob : Option Nat
  cap : Nat
  at_ : Nat
  e : Int
def itemsE (l : List Pack.Item) (ob : Option Nat) (cap : Nat) : Ent := .app 49 3 (itemsC l) (at0 ob) l.length cap
def NSt.ok (d : Dir) (s : List UInt8) (a : Nat) (l : List Pack.Item) (i : NSt) : Prop :=
  i.at_ ≤ s.length ∧ (i.ob = none → i.l = [] ∧ i.cap = 0) ∧ i.l.length ≤ i.cap ∧ i.l.length ≤ l.length + 1000001 ∧
    match numsS d (s.drop a) with | .ok (ns, r) => i.e = 0 ∧ i.l = l ++ ns.map intI ∧ s.drop i.at_ = r | .error e => i.e = e ∧ e ≠ 0
theorem itemsC_snoc (l : List Pack.Item) (x : Pack.Item) : itemsC l ++ itemC x = itemsC (l ++ [x]) := by simp [itemsC]
theorem allN_succ (d : Dir) (f : Nat) (s : List UInt8) (out : List Int) : allN d (f + 1) s out = if s.length < max 1 (sz d.letter) then .ok (out, s) else match rdNum d s with | .error e => .error e | .ok (n, k) => allN d f (s.drop k) (out ++ [n]) := rfl
theorem cntN_succ (d : Dir) (f : Nat) (s : List UInt8) (out : List Int) : cntN d (f + 1) s out = match rdNum d s with | .error e => .error e | .ok (n, k) => cntN d f (s.drop k) (out ++ [n]) := rfl
theorem numbers_c (d : Dir) (ub : Nat) (s : List UInt8) (a : Nat) (l : List Pack.Item) (ob : Option Nat) (cap : Nat) (hl : letters.contains d.letter = true) (hst : isStr d.letter = false) (hp : isPl d.letter = false) (hc : CntOk d.letter d.count)
    (hob : (ob = none → l = [] ∧ cap = 0) ∧ l.length ≤ cap) (hll : l.length ≤ 100000000) (ha : a ≤ s.length) (hs : s.length ≤ 1000000) :
    SpecH Tryd.prog 27 [.c (.v (.pointer (some ⟨ub, 0, none⟩))), .c (.v (dirV d))] [.fact UtfF, unE ub s a ob l.length cap, itemsE l ob cap]
      (RetG (NSt.ok d s a l) (fun i => .int .i64 i.e) fun i => [.fact UtfF, unE ub s i.at_ i.ob i.l.length i.cap, itemsE i.l i.ob i.cap]) := by
  refine ownC hm Tryd.func27 (by kernel_rfl) rfl rfl (fun _ _ => okHB_eq rfl) (fun _ _ => Nat.le_refl _) ?_
  have hz := letter_num hl hst hp
  have h8 := sz_le8 d.letter
  (first | refine wX ?_ | exact wZ)
  refine brd_eq (fun hk => ?_) (fun hk => ?_)
  · have hk1 : ¬ d.count = -1 := by omega
    have hcn : cntS d 0 = 1 := by unfold cntS; rw [if_pos hk]
    -- so many numbers: 1
    have hN : numsS d (s.drop a) = cntN d (1) (s.drop a) [] := by unfold numsS; rw [if_neg hk1, hcn]
    have hz := letter_num hl hst hp
    (first | refine wX ?_ | exact wZ)
    refine LoopN.intro (Nat × Nat × List Int × List Pack.Item × Option Nat × Nat) (fun ⟨j, at', ns, l', ob', cap'⟩ => at' ≤ s.length ∧ j ≤ 1 ∧ l' = l ++ ns.map intI ∧ ns.length = j ∧ ((ob' = none → l' = [] ∧ cap' = 0) ∧ l'.length ≤ cap') ∧ cntN d (1 - j) (s.drop at') ns = cntN d (1) (s.drop a) [])
      (fun ⟨j, _, _, _, _, _⟩ => mkS Tryd.f27.ntmps 0 [(0, .c (.v (.pointer (some ⟨ub, 0, none⟩)))), (3, .c (.lp 3 0)), (5, .c (.v (.int .i64 ((1 : Nat) : Int)))), (6, .c (.v (.int .i64 (j : Int))))])
      (fun ⟨_, at', _, l', ob', cap'⟩ => [.fact UtfF, unE ub s at' ob' l'.length cap', itemsE l' ob' cap', .blk 57 [.v (.int .u8 (d.letter.toNat : Int)), .v (.bool d.big), .v (.int .i64 d.count)]]) (fun ⟨j, _, _, _, _, _⟩ => 1 - j) [] rfl
      (fun _ => rfl) (fun _ => rfl) (fun _ _ => okHB_eq rfl) ⟨(0, a, [], l, ob, cap), ⟨ha, Nat.zero_le _, by simp, rfl, hob, rfl⟩, ?_, ?_⟩ ?_
    · (repeat' (first | exact trivial | refine And.intro (by with_reducible rfl) ?_ | (with_reducible exact wkC_refl _) | (with_reducible exact wkCs_refl _) | refine And.intro ?_ ?_))
      all_goals first | rfl | exact av_int (by omega)
    · exact ⟨wkE_refl _, wkE_refl _, wkE_refl _, wkE_refl _, wkH_nil _⟩
    rintro ⟨j, at', ns, l', ob', cap'⟩ ⟨hat, hja, hl', hns, hob', hgo⟩
    have hns2 : (ns.map intI).length = j := by simp [hns]
    have hlen : l'.length ≤ l.length + 1000001 := by rw [hl', List.length_append]; omega
    (first | refine wX ?_ | exact wZ)
    refine brd_ne (fun h1 => ?_) (fun h1 => ?_)
    · (first | refine wX ?_ | exact wZ)
      try refine brd_eq (fun h => absurd h hk1) (fun _ => ?_)
      rw [show 1 - j = (1 - j - 1) + 1 by omega, cntN_succ d (1 - j - 1) (s.drop at') ns] at hgo
      -- one number more: state (j, at, ns, l', ob', cap'); by rw [show 1 - (j + 1) = 1 - j - 1 by omega, ← hgo, List.drop_drop]: the times (an Int), by show 1 - (j + 1) < 1 - j; omega: what to do with an error, $3: what to do with a number
      (first | refine wX ?_ | exact wZ)
      refine callG (number_u d ub s at' ob' l'.length cap' hl hst hp hat hs) [0, 1] rfl ⟨rfl, rfl, trivial⟩ rfl ?_
      rintro ⟨n, e, at2⟩ hok
      cases hr : rdNum d (s.drop at') with
      | error e0 =>
        rw [hr] at hok hgo
        obtain ⟨h7, h8, h9⟩ := hok
        simp only at h7 h8 h9
        subst h7; subst h8
        have he := rdNum_err hr
        (first | refine wX ?_ | exact wZ)
        refine brd_ne (fun _ => ?_) (fun h6 => absurd h6 he)
        (first | refine wX ?_ | exact wZ)
        refine ⟨⟨l', ob', cap', at2, e⟩, ⟨h9, hob'.1, hob'.2, hlen, ?_⟩, rfl, wkE_refl _, wkE_refl _, wkE_refl _, wkH_nil _⟩
        rw [hN, ← hgo]
        exact ⟨rfl, he⟩
      | ok x =>
        obtain ⟨n0, k⟩ := x
        have hk := rdNum_pos hz hr
        rw [hr] at hok hgo
        obtain ⟨h7, h9⟩ := hok
        injection h7 with h7 h8
        injection h8 with h8 h10
        subst h7; subst h8; subst h10
        simp only at hgo hk
        (first | refine wX ?_ | exact wZ)
        refine LdN.one (a := some ⟨ub, 0, none⟩) (q := 2) (.slice (at0 ob') l'.length cap') rfl (fun w hw => hw.2.1) rfl ?_
        (first | refine wX ?_ | exact wZ)
        refine Nd.mk ⟨Nat.le_refl 1, rfl, rfl⟩ ?_
        (conv => whnf)
        refine AppN.grow 2 (itemsC l') (itemC (intI n)) rfl rfl ⟨Nat.le_refl 1, ⟨by show (l'.length + 1) * 32 ≤ _; omega, by omega⟩, by show 3 ≠ 0; omega⟩ fun b' cap2 h11 h12 => ?_
        (first | refine wX ?_ | exact wZ)
        refine EffW.appTo (i := 1) (q := 2) (ys := [_]) (unC s (at' + k) (some b') (l'.length + 1) cap2) 3 rfl rfl rfl rfl rfl rfl rfl (Nat.le_of_ble_eq_true rfl) rfl rfl ?_
        (first | refine wX ?_ | exact wZ)
        have hl3 : l' ++ [intI n] = l ++ (ns ++ [n]).map intI := by rw [hl']; simp
        refine ⟨(j + 1, at' + k, ns ++ [n], l' ++ [intI n], some b', cap2), ⟨h9, by omega, hl3, by simp; omega, ⟨fun h => (by cases h), by rw [List.length_append]; exact h11⟩, by rw [show 1 - (j + 1) = 1 - j - 1 by omega, ← hgo, List.drop_drop]⟩, by show 1 - (j + 1) < 1 - j; omega, ?_, ?_⟩
        · (repeat' (first | exact trivial | refine And.intro (by with_reducible rfl) ?_ | (with_reducible exact wkC_refl _) | (with_reducible exact wkCs_refl _) | refine And.intro ?_ ?_))
          all_goals first | rfl | exact av_int (by rw [wrap_i64 (by omega)]; omega)
        · refine ⟨wkE_refl _, ?_, ?_, wkE_refl _, wkH_nil _⟩
          · show wkE (.app _ _ _ _ _ _) (unE ub s (at' + k) (some b') (l' ++ [intI n]).length cap2)
            rw [List.length_append]
            exact wkE_refl _
          · refine .inl ⟨rfl, rfl, itemsC_snoc _ _, rfl, by rw [List.length_append]; rfl, rfl⟩
    · have hj : j = 1 := by omega
      have hgo2 : cntN d (1) (s.drop a) [] = .ok (ns, s.drop at') := by
        rw [← hgo, hj, Nat.sub_self]
        rfl
      (first | refine wX ?_ | exact wZ)
      refine ⟨⟨l', ob', cap', at', 0⟩, ⟨hat, hob'.1, hob'.2, hlen, ?_⟩, rfl, wkE_refl _, wkE_refl _, wkE_refl _, wkH_nil _⟩
      rw [hN, hgo2]
      exact ⟨rfl, hl', rfl⟩
  · by_cases hk1 : d.count = -1
    · have hN : numsS d (s.drop a) = allN d (s.length - a + 1) (s.drop a) [] := by unfold numsS; rw [if_pos hk1, List.length_drop]
      (first | refine wX ?_ | exact wZ)
      refine LoopN.intro (Nat × Nat × List Int × List Pack.Item × Option Nat × Nat) (fun ⟨j, at', ns, l', ob', cap'⟩ => at' ≤ s.length ∧ a + j ≤ at' ∧ l' = l ++ ns.map intI ∧ ns.length = j ∧ ((ob' = none → l' = [] ∧ cap' = 0) ∧ l'.length ≤ cap') ∧ allN d (s.length - a + 1 - j) (s.drop at') ns = allN d (s.length - a + 1) (s.drop a) [])
        (fun ⟨j, _, _, _, _, _⟩ => mkS Tryd.f27.ntmps 0 [(0, .c (.v (.pointer (some ⟨ub, 0, none⟩)))), (3, .c (.lp 3 0)), (5, .c (.v (.int .i64 d.count))), (6, .c (.v (.int .i64 (j : Int))))])
        (fun ⟨_, at', _, l', ob', cap'⟩ => [.fact UtfF, unE ub s at' ob' l'.length cap', itemsE l' ob' cap', .blk 57 [.v (.int .u8 (d.letter.toNat : Int)), .v (.bool d.big), .v (.int .i64 d.count)]]) (fun ⟨_, at', _, _, _, _⟩ => s.length - at') [] rfl
        (fun _ => rfl) (fun _ => rfl) (fun _ _ => okHB_eq rfl) ⟨(0, a, [], l, ob, cap), ⟨ha, Nat.le_refl _, by simp, rfl, hob, rfl⟩, ?_, ?_⟩ ?_
      · (repeat' (first | exact trivial | refine And.intro (by with_reducible rfl) ?_ | (with_reducible exact wkC_refl _) | (with_reducible exact wkCs_refl _) | refine And.intro ?_ ?_))
        all_goals rfl
      · exact ⟨wkE_refl _, wkE_refl _, wkE_refl _, wkE_refl _, wkH_nil _⟩
      rintro ⟨j, at', ns, l', ob', cap'⟩ ⟨hat, hja, hl', hns, hob', hgo⟩
      (first | refine wX ?_ | exact wZ)
      refine brd_ne (fun h1 => ?_) (fun h1 => absurd h1 (by omega))
      (first | refine wX ?_ | exact wZ)
      refine brd_eq (fun _ => ?_) (fun h => absurd hk1 h)
      have hns2 : (ns.map intI).length = j := by simp [hns]
      have hlen : l'.length ≤ l.length + 1000001 := by rw [hl', List.length_append]; omega
      (first | refine wX ?_ | exact wZ)
      refine callQ (left_c ub s at' ob' l'.length cap' hat hs _ (fun w hw => hw.2.1)) ?_
      (first | refine wX ?_ | exact wZ)
      refine brd_eq (fun h2 => ?_) (fun h2 => ?_)
      · skip
        -- no more bytes
        have hgo2 : allN d (s.length - a + 1) (s.drop a) [] = .ok (ns, s.drop at') := by
          rw [← hgo, show s.length - a + 1 - j = (s.length - a - j) + 1 by omega]
          unfold allN
          rw [if_pos (by rw [List.length_drop]; omega)]
        (first | refine wX ?_ | exact wZ)
        refine ⟨⟨l', ob', cap', at', 0⟩, ⟨hat, hob'.1, hob'.2, hlen, ?_⟩, rfl, wkE_refl _, wkE_refl _, wkE_refl _, wkH_nil _⟩
        rw [hN, hgo2]
        exact ⟨rfl, hl', rfl⟩
      · (first | refine wX ?_ | exact wZ)
        refine callQ (left_c ub s at' ob' l'.length cap' hat hs _ (fun w hw => hw.2.1)) ?_
        (first | refine wX ?_ | exact wZ)
        refine callQ (bytes_c d _) ?_
        (first | refine wX ?_ | exact wZ)
        refine brd_dec (fun h3 => ?_) (fun h3 => ?_)
        · skip
          -- no more bytes
          have hgo2 : allN d (s.length - a + 1) (s.drop a) [] = .ok (ns, s.drop at') := by
            rw [← hgo, show s.length - a + 1 - j = (s.length - a - j) + 1 by omega]
            unfold allN
            rw [if_pos (by rw [List.length_drop]; omega)]
          (first | refine wX ?_ | exact wZ)
          refine ⟨⟨l', ob', cap', at', 0⟩, ⟨hat, hob'.1, hob'.2, hlen, ?_⟩, rfl, wkE_refl _, wkE_refl _, wkE_refl _, wkH_nil _⟩
          rw [hN, hgo2]
          exact ⟨rfl, hl', rfl⟩
        · rw [show s.length - a + 1 - j = (s.length - a - j) + 1 by omega] at hgo
          rw [allN_succ d (s.length - a - j) (s.drop at') ns, if_neg (by rw [List.length_drop]; omega)] at hgo
          -- one number more: state (j, at, ns, l', ob', cap'); by rw [show s.length - a + 1 - (j + 1) = s.length - a - j by omega, ← hgo, List.drop_drop]: the times (an Int), by show s.length - (at' + k) < s.length - at'; omega: what to do with an error, $3: what to do with a number
          (first | refine wX ?_ | exact wZ)
          refine callG (number_u d ub s at' ob' l'.length cap' hl hst hp hat hs) [0, 1] rfl ⟨rfl, rfl, trivial⟩ rfl ?_
          rintro ⟨n, e, at2⟩ hok
          cases hr : rdNum d (s.drop at') with
          | error e0 =>
            rw [hr] at hok hgo
            obtain ⟨h7, h8, h9⟩ := hok
            simp only at h7 h8 h9
            subst h7; subst h8
            have he := rdNum_err hr
            (first | refine wX ?_ | exact wZ)
            refine brd_ne (fun _ => ?_) (fun h6 => absurd h6 he)
            (first | refine wX ?_ | exact wZ)
            refine ⟨⟨l', ob', cap', at2, e⟩, ⟨h9, hob'.1, hob'.2, hlen, ?_⟩, rfl, wkE_refl _, wkE_refl _, wkE_refl _, wkH_nil _⟩
            rw [hN, ← hgo]
            exact ⟨rfl, he⟩
          | ok x =>
            obtain ⟨n0, k⟩ := x
            have hk := rdNum_pos hz hr
            rw [hr] at hok hgo
            obtain ⟨h7, h9⟩ := hok
            injection h7 with h7 h8
            injection h8 with h8 h10
            subst h7; subst h8; subst h10
            simp only at hgo hk
            (first | refine wX ?_ | exact wZ)
            refine LdN.one (a := some ⟨ub, 0, none⟩) (q := 2) (.slice (at0 ob') l'.length cap') rfl (fun w hw => hw.2.1) rfl ?_
            (first | refine wX ?_ | exact wZ)
            refine Nd.mk ⟨Nat.le_refl 1, rfl, rfl⟩ ?_
            (conv => whnf)
            refine AppN.grow 2 (itemsC l') (itemC (intI n)) rfl rfl ⟨Nat.le_refl 1, ⟨by show (l'.length + 1) * 32 ≤ _; omega, by omega⟩, by show 3 ≠ 0; omega⟩ fun b' cap2 h11 h12 => ?_
            (first | refine wX ?_ | exact wZ)
            refine EffW.appTo (i := 1) (q := 2) (ys := [_]) (unC s (at' + k) (some b') (l'.length + 1) cap2) 3 rfl rfl rfl rfl rfl rfl rfl (Nat.le_of_ble_eq_true rfl) rfl rfl ?_
            (first | refine wX ?_ | exact wZ)
            have hl3 : l' ++ [intI n] = l ++ (ns ++ [n]).map intI := by rw [hl']; simp
            refine ⟨(j + 1, at' + k, ns ++ [n], l' ++ [intI n], some b', cap2), ⟨h9, by omega, hl3, by simp; omega, ⟨fun h => (by cases h), by rw [List.length_append]; exact h11⟩, by rw [show s.length - a + 1 - (j + 1) = s.length - a - j by omega, ← hgo, List.drop_drop]⟩, by show s.length - (at' + k) < s.length - at'; omega, ?_, ?_⟩
            · (repeat' (first | exact trivial | refine And.intro (by with_reducible rfl) ?_ | (with_reducible exact wkC_refl _) | (with_reducible exact wkCs_refl _) | refine And.intro ?_ ?_))
              all_goals first | rfl | exact av_int (by rw [wrap_i64 (by omega)]; omega)
            · refine ⟨wkE_refl _, ?_, ?_, wkE_refl _, wkH_nil _⟩
              · show wkE (.app _ _ _ _ _ _) (unE ub s (at' + k) (some b') (l' ++ [intI n]).length cap2)
                rw [List.length_append]
                exact wkE_refl _
              · refine .inl ⟨rfl, rfl, itemsC_snoc _ _, rfl, by rw [List.length_append]; rfl, rfl⟩
    · obtain ⟨T, hT⟩ : ∃ T : Nat, d.count.toNat = T := ⟨_, rfl⟩
      have hT2 : d.count = (T : Int) ∧ T ≤ 1000 := by
        unfold CntOk at hc
        omega
      have hcn : cntS d 0 = T := by unfold cntS; rw [if_neg hk, if_neg hk1]; exact hT
      -- so many numbers: T
      have hN : numsS d (s.drop a) = cntN d (T) (s.drop a) [] := by unfold numsS; rw [if_neg hk1, hcn]
      have hz := letter_num hl hst hp
      (first | refine wX ?_ | exact wZ)
      refine LoopN.intro (Nat × Nat × List Int × List Pack.Item × Option Nat × Nat) (fun ⟨j, at', ns, l', ob', cap'⟩ => at' ≤ s.length ∧ j ≤ T ∧ l' = l ++ ns.map intI ∧ ns.length = j ∧ ((ob' = none → l' = [] ∧ cap' = 0) ∧ l'.length ≤ cap') ∧ cntN d (T - j) (s.drop at') ns = cntN d (T) (s.drop a) [])
        (fun ⟨j, _, _, _, _, _⟩ => mkS Tryd.f27.ntmps 0 [(0, .c (.v (.pointer (some ⟨ub, 0, none⟩)))), (3, .c (.lp 3 0)), (5, .c (.v (.int .i64 ((T : Nat) : Int)))), (6, .c (.v (.int .i64 (j : Int))))])
        (fun ⟨_, at', _, l', ob', cap'⟩ => [.fact UtfF, unE ub s at' ob' l'.length cap', itemsE l' ob' cap', .blk 57 [.v (.int .u8 (d.letter.toNat : Int)), .v (.bool d.big), .v (.int .i64 d.count)]]) (fun ⟨j, _, _, _, _, _⟩ => T - j) [] rfl
        (fun _ => rfl) (fun _ => rfl) (fun _ _ => okHB_eq rfl) ⟨(0, a, [], l, ob, cap), ⟨ha, Nat.zero_le _, by simp, rfl, hob, rfl⟩, ?_, ?_⟩ ?_
      · (repeat' (first | exact trivial | refine And.intro (by with_reducible rfl) ?_ | (with_reducible exact wkC_refl _) | (with_reducible exact wkCs_refl _) | refine And.intro ?_ ?_))
        all_goals first | rfl | exact av_int (by omega)
      · exact ⟨wkE_refl _, wkE_refl _, wkE_refl _, wkE_refl _, wkH_nil _⟩
      rintro ⟨j, at', ns, l', ob', cap'⟩ ⟨hat, hja, hl', hns, hob', hgo⟩
      have hns2 : (ns.map intI).length = j := by simp [hns]
      have hlen : l'.length ≤ l.length + 1000001 := by rw [hl', List.length_append]; omega
      (first | refine wX ?_ | exact wZ)
      refine brd_ne (fun h1 => ?_) (fun h1 => ?_)
      · (first | refine wX ?_ | exact wZ)
        try refine brd_eq (fun h => absurd h hk1) (fun _ => ?_)
        rw [show T - j = (T - j - 1) + 1 by omega, cntN_succ d (T - j - 1) (s.drop at') ns] at hgo
        -- one number more: state (j, at, ns, l', ob', cap'); by rw [show T - (j + 1) = T - j - 1 by omega, ← hgo, List.drop_drop]: the times (an Int), by show T - (j + 1) < T - j; omega: what to do with an error, $3: what to do with a number
        (first | refine wX ?_ | exact wZ)
        refine callG (number_u d ub s at' ob' l'.length cap' hl hst hp hat hs) [0, 1] rfl ⟨rfl, rfl, trivial⟩ rfl ?_
        rintro ⟨n, e, at2⟩ hok
        cases hr : rdNum d (s.drop at') with
        | error e0 =>
          rw [hr] at hok hgo
          obtain ⟨h7, h8, h9⟩ := hok
          simp only at h7 h8 h9
          subst h7; subst h8
          have he := rdNum_err hr
          (first | refine wX ?_ | exact wZ)
          refine brd_ne (fun _ => ?_) (fun h6 => absurd h6 he)
          (first | refine wX ?_ | exact wZ)
          refine ⟨⟨l', ob', cap', at2, e⟩, ⟨h9, hob'.1, hob'.2, hlen, ?_⟩, rfl, wkE_refl _, wkE_refl _, wkE_refl _, wkH_nil _⟩
          rw [hN, ← hgo]
          exact ⟨rfl, he⟩
        | ok x =>
          obtain ⟨n0, k⟩ := x
          have hk := rdNum_pos hz hr
          rw [hr] at hok hgo
          obtain ⟨h7, h9⟩ := hok
          injection h7 with h7 h8
          injection h8 with h8 h10
          subst h7; subst h8; subst h10
          simp only at hgo hk
          (first | refine wX ?_ | exact wZ)
          refine LdN.one (a := some ⟨ub, 0, none⟩) (q := 2) (.slice (at0 ob') l'.length cap') rfl (fun w hw => hw.2.1) rfl ?_
          (first | refine wX ?_ | exact wZ)
          refine Nd.mk ⟨Nat.le_refl 1, rfl, rfl⟩ ?_
          (conv => whnf)
          refine AppN.grow 2 (itemsC l') (itemC (intI n)) rfl rfl ⟨Nat.le_refl 1, ⟨by show (l'.length + 1) * 32 ≤ _; omega, by omega⟩, by show 3 ≠ 0; omega⟩ fun b' cap2 h11 h12 => ?_
          (first | refine wX ?_ | exact wZ)
          refine EffW.appTo (i := 1) (q := 2) (ys := [_]) (unC s (at' + k) (some b') (l'.length + 1) cap2) 3 rfl rfl rfl rfl rfl rfl rfl (Nat.le_of_ble_eq_true rfl) rfl rfl ?_
          (first | refine wX ?_ | exact wZ)
          have hl3 : l' ++ [intI n] = l ++ (ns ++ [n]).map intI := by rw [hl']; simp
          refine ⟨(j + 1, at' + k, ns ++ [n], l' ++ [intI n], some b', cap2), ⟨h9, by omega, hl3, by simp; omega, ⟨fun h => (by cases h), by rw [List.length_append]; exact h11⟩, by rw [show T - (j + 1) = T - j - 1 by omega, ← hgo, List.drop_drop]⟩, by show T - (j + 1) < T - j; omega, ?_, ?_⟩
          · (repeat' (first | exact trivial | refine And.intro (by with_reducible rfl) ?_ | (with_reducible exact wkC_refl _) | (with_reducible exact wkCs_refl _) | refine And.intro ?_ ?_))
            all_goals first | rfl | exact av_int (by rw [wrap_i64 (by omega)]; omega)
          · refine ⟨wkE_refl _, ?_, ?_, wkE_refl _, wkH_nil _⟩
            · show wkE (.app _ _ _ _ _ _) (unE ub s (at' + k) (some b') (l' ++ [intI n]).length cap2)
              rw [List.length_append]
              exact wkE_refl _
            · refine .inl ⟨rfl, rfl, itemsC_snoc _ _, rfl, by rw [List.length_append]; rfl, rfl⟩
      · have hj : j = T := by omega
        have hgo2 : cntN d (T) (s.drop a) [] = .ok (ns, s.drop at') := by
          rw [← hgo, hj, Nat.sub_self]
          rfl
        (first | refine wX ?_ | exact wZ)
        refine ⟨⟨l', ob', cap', at', 0⟩, ⟨hat, hob'.1, hob'.2, hlen, ?_⟩, rfl, wkE_refl _, wkE_refl _, wkE_refl _, wkH_nil _⟩
        rw [hN, hgo2]
        exact ⟨rfl, hl', rfl⟩
end Go.Proofs.YtjkchonpnocffaaDoor

/-
  Contract: Hex (program).
-/
namespace Go.Proofs.YtjkchonpnocffaaDoor
open Go.AX Go.RowKit Go.Pack
set_option maxRecDepth 20000

def hexS16 : ByteArray := ⟨#[48, 49, 50, 51, 52, 53, 54, 55, 56, 57, 97, 98, 99, 100, 101, 102]⟩
theorem hexAtF : ∀ k : Fin 16, byteAt hexS16 k.val = ((hexC k.val).toNat : Int) := by decide +kernel
theorem hexAt (k : Nat) (h : k < 16) : byteAt hexS16 k = ((hexC k).toNat : Int) := hexAtF ⟨k, h⟩
theorem hex_app : ∀ (a b : List UInt8), hex (a ++ b) = hex a ++ hex b
  | [], _ => rfl
  | c :: a, b => by
    show hexC _ :: hexC _ :: hex (a ++ b) = _
    rw [hex_app a b]
    rfl
theorem hex_len : ∀ l : List UInt8, (hex l).length = 2 * l.length
  | [] => rfl
  | c :: l => by
    show (hex l).length + 1 + 1 = 2 * (l.length + 1)
    rw [hex_len l]
    omega
theorem Hex_c (s : List UInt8) (hs : s.length ≤ 1000000) : ∀ H, SpecH Tryd.prog 12 (pvs [.string (bs s)]) H (Ret (.string (bs (hex s))) H) := by
  refine pureC hm Tryd.func12 (by kernel_rfl) rfl rfl ?_
  (first | refine wX ?_ | exact wZ)
  refine EffW.bytesOf (e := 5) s rfl Tryd.underlying9 (by kernel_rfl) (by kernel_rfl) rfl (by omega) fun lb lc h5 h6 => ?_
  (first | refine wX ?_ | exact wZ)
  refine LoopN.intro (Nat × Bool × BSt) (fun ⟨j, u, i⟩ => j ≤ s.length ∧ i.ok (hex (s.take j)).length)
    (fun ⟨j, _, _⟩ => mkS Tryd.f12.ntmps 0 [(3, .c (.lp 0 0)), (7, .c (.v (.slice (some ⟨lb, 0, none⟩) s.length lc))), (8, .c (.v (.int .i64 (s.length : Int)))), (9, .c (.v (.int .i64 (j : Int))))])
    (fun ⟨j, u, i⟩ => [.blk 76 [bC u, .v (.slice (at0 i.ob) (hex (s.take j)).length i.cap)], own s lb lc, .app 5 1 (u8s (hex (s.take j))) (at0 i.ob) (hex (s.take j)).length i.cap]) (fun ⟨j, _, _⟩ => s.length - j) [.app 0 0 [] none 0 0] rfl
    (fun _ => rfl) (fun _ => rfl) (fun ⟨_, u, _⟩ _ => by cases u <;> exact okHB_eq rfl) ⟨(0, false, ⟨none, 0⟩), ⟨Nat.zero_le _, fun _ => ⟨rfl, rfl⟩, Nat.le_refl _, fun _ => rfl⟩, ?_, ?_⟩ ?_
  · (repeat' (first | exact trivial | refine And.intro (by with_reducible rfl) ?_ | (with_reducible exact wkC_refl _) | (with_reducible exact wkCs_refl _) | refine And.intro ?_ ?_))
    all_goals rfl
  · exact ⟨by (repeat' (first | exact trivial | exact wkE_refl _ | refine And.intro ?_ ?_)), wkE_refl _, wkE_nil, wkH_nil _⟩
  rintro ⟨j, u, i⟩ ⟨hj, hok⟩
  cases u with
  | true =>
    -- true: is the builder used
    (first | refine wX ?_ | exact wZ)
    refine brd_dec (fun h1 => ?_) (fun h1 => ?_)
    · obtain ⟨c, hc⟩ : ∃ c, s[j]? = some c := ⟨_, List.getElem?_eq_getElem (by omega)⟩
      have hsn : s.take (j + 1) = s.take j ++ [c] := Pack.take_snoc hc
      have hcl := UInt8.toNat_lt c
      (first | refine wX ?_ | exact wZ)
      refine Nd.mk ⟨rfl, by omega, by omega⟩ ?_
      (first | refine wX ?_ | exact wZ)
      refine LdN.one (.int .u8 (c.toNat : Int)) rfl (fun w hw => hw.1) (by
        show (u8s s)[(j : Int).toNat * 1]? = _
        rw [Nat.mul_one, Int.toNat_natCast]
        exact u8s_at hc) ?_
      have hq : IntKind.u8.wrap ((c.toNat : Int).tdiv 16) = ((c.toNat / 16 : Nat) : Int) := by
        rw [show (c.toNat : Int).tdiv 16 = ((c.toNat / 16 : Nat) : Int) from (Int.ofNat_tdiv c.toNat 16).symm, wrap_u8 (by omega)]
      have hm : IntKind.u8.wrap ((c.toNat : Int).tmod 16) = ((c.toNat % 16 : Nat) : Int) := by
        rw [show (c.toNat : Int).tmod 16 = ((c.toNat % 16 : Nat) : Int) from (Int.ofNat_tmod c.toNat 16).symm, wrap_u8 (by omega)]
      have hm' : (c.toNat : Int).tmod 16 = ((c.toNat % 16 : Nat) : Int) := (Int.ofNat_tmod c.toNat 16).symm
      have hx1 : byteAt { data := #[48, 49, 50, 51, 52, 53, 54, 55, 56, 57, 97, 98, 99, 100, 101, 102] } (Int.toNat ((c.toNat / 16 : Nat) : Int)) = ((hexC (c.toNat / 16)).toNat : Int) := by
        rw [Int.toNat_natCast]
        exact hexAt _ (by omega)
      have hx2 : byteAt { data := #[48, 49, 50, 51, 52, 53, 54, 55, 56, 57, 97, 98, 99, 100, 101, 102] } (Int.toNat ((c.toNat % 16 : Nat) : Int)) = ((hexC (c.toNat % 16)).toNat : Int) := by
        rw [Int.toNat_natCast]
        exact hexAt _ (by omega)
      have hhl : (hex (s.take j)).length ≤ 2000000 := by rw [hex_len, List.length_take]; omega
      (first | refine wX ?_ | exact wZ)
      rw [hq]
      refine Nd.mk ⟨by omega, by show _ < (16 : Int); omega⟩ ?_
      (first | refine wX ?_ | exact wZ)
      rw [hx1]
      refine callG (WriteByte_c true (hex (s.take j)) (hexC (c.toNat / 16)) i (by omega)) [0, 2] rfl ⟨rfl, rfl, trivial⟩ rfl fun i1 hi1 => ?_
      (first | refine wX ?_ | exact wZ)
      first | rw [hm] | rw [hm']
      refine Nd.mk ⟨by omega, by show _ < (16 : Int); omega⟩ ?_
      (first | refine wX ?_ | exact wZ)
      rw [hx2]
      refine callG (WriteByte_c true (hex (s.take j) ++ [hexC (c.toNat / 16)]) (hexC (c.toNat % 16)) i1 (by rw [List.length_append]; show _ + 1 + 1 ≤ _; omega)) [0, 2] rfl ⟨rfl, rfl, trivial⟩ rfl fun i2 hi2 => ?_
      have hnx : hex (s.take j) ++ [hexC (c.toNat / 16)] ++ [hexC (c.toNat % 16)] = hex (s.take (j + 1)) := by rw [hsn, hex_app, List.append_assoc]; rfl
      rw [hnx] at hi2 ⊢
      (first | refine wX ?_ | exact wZ)
      refine ⟨(j + 1, true, i2), ⟨by omega, hi2⟩, by show s.length - (j + 1) < s.length - j; omega, ?_, ?_⟩
      · (repeat' (first | exact trivial | refine And.intro (by with_reducible rfl) ?_ | (with_reducible exact wkC_refl _) | (with_reducible exact wkCs_refl _) | refine And.intro ?_ ?_))
        all_goals first | rfl | exact av_int (by rw [wrap_i64 (by omega)]; omega)
      · exact ⟨wkE_refl _, wkE_refl _, wkE_refl _, wkH_nil _⟩
    · have hjl : j = s.length := by omega
      (first | refine wX ?_ | exact wZ)
      refine callG (BString_c true (hex (s.take j)) i hok) [0, 2] rfl ⟨rfl, rfl, trivial⟩ rfl fun _ _ => ?_
      (first | refine wX ?_ | exact wZ)
      rw [hjl, List.take_length]
  | false =>
    -- false: is the builder used
    (first | refine wX ?_ | exact wZ)
    refine brd_dec (fun h1 => ?_) (fun h1 => ?_)
    · obtain ⟨c, hc⟩ : ∃ c, s[j]? = some c := ⟨_, List.getElem?_eq_getElem (by omega)⟩
      have hsn : s.take (j + 1) = s.take j ++ [c] := Pack.take_snoc hc
      have hcl := UInt8.toNat_lt c
      (first | refine wX ?_ | exact wZ)
      refine Nd.mk ⟨rfl, by omega, by omega⟩ ?_
      (first | refine wX ?_ | exact wZ)
      refine LdN.one (.int .u8 (c.toNat : Int)) rfl (fun w hw => hw.1) (by
        show (u8s s)[(j : Int).toNat * 1]? = _
        rw [Nat.mul_one, Int.toNat_natCast]
        exact u8s_at hc) ?_
      have hq : IntKind.u8.wrap ((c.toNat : Int).tdiv 16) = ((c.toNat / 16 : Nat) : Int) := by
        rw [show (c.toNat : Int).tdiv 16 = ((c.toNat / 16 : Nat) : Int) from (Int.ofNat_tdiv c.toNat 16).symm, wrap_u8 (by omega)]
      have hm : IntKind.u8.wrap ((c.toNat : Int).tmod 16) = ((c.toNat % 16 : Nat) : Int) := by
        rw [show (c.toNat : Int).tmod 16 = ((c.toNat % 16 : Nat) : Int) from (Int.ofNat_tmod c.toNat 16).symm, wrap_u8 (by omega)]
      have hm' : (c.toNat : Int).tmod 16 = ((c.toNat % 16 : Nat) : Int) := (Int.ofNat_tmod c.toNat 16).symm
      have hx1 : byteAt { data := #[48, 49, 50, 51, 52, 53, 54, 55, 56, 57, 97, 98, 99, 100, 101, 102] } (Int.toNat ((c.toNat / 16 : Nat) : Int)) = ((hexC (c.toNat / 16)).toNat : Int) := by
        rw [Int.toNat_natCast]
        exact hexAt _ (by omega)
      have hx2 : byteAt { data := #[48, 49, 50, 51, 52, 53, 54, 55, 56, 57, 97, 98, 99, 100, 101, 102] } (Int.toNat ((c.toNat % 16 : Nat) : Int)) = ((hexC (c.toNat % 16)).toNat : Int) := by
        rw [Int.toNat_natCast]
        exact hexAt _ (by omega)
      have hhl : (hex (s.take j)).length ≤ 2000000 := by rw [hex_len, List.length_take]; omega
      (first | refine wX ?_ | exact wZ)
      rw [hq]
      refine Nd.mk ⟨by omega, by show _ < (16 : Int); omega⟩ ?_
      (first | refine wX ?_ | exact wZ)
      rw [hx1]
      refine callG (WriteByte_c false (hex (s.take j)) (hexC (c.toNat / 16)) i (by omega)) [0, 2] rfl ⟨rfl, rfl, trivial⟩ rfl fun i1 hi1 => ?_
      (first | refine wX ?_ | exact wZ)
      first | rw [hm] | rw [hm']
      refine Nd.mk ⟨by omega, by show _ < (16 : Int); omega⟩ ?_
      (first | refine wX ?_ | exact wZ)
      rw [hx2]
      refine callG (WriteByte_c true (hex (s.take j) ++ [hexC (c.toNat / 16)]) (hexC (c.toNat % 16)) i1 (by rw [List.length_append]; show _ + 1 + 1 ≤ _; omega)) [0, 2] rfl ⟨rfl, rfl, trivial⟩ rfl fun i2 hi2 => ?_
      have hnx : hex (s.take j) ++ [hexC (c.toNat / 16)] ++ [hexC (c.toNat % 16)] = hex (s.take (j + 1)) := by rw [hsn, hex_app, List.append_assoc]; rfl
      rw [hnx] at hi2 ⊢
      (first | refine wX ?_ | exact wZ)
      refine ⟨(j + 1, true, i2), ⟨by omega, hi2⟩, by show s.length - (j + 1) < s.length - j; omega, ?_, ?_⟩
      · (repeat' (first | exact trivial | refine And.intro (by with_reducible rfl) ?_ | (with_reducible exact wkC_refl _) | (with_reducible exact wkCs_refl _) | refine And.intro ?_ ?_))
        all_goals first | rfl | exact av_int (by rw [wrap_i64 (by omega)]; omega)
      · exact ⟨wkE_refl _, wkE_refl _, wkE_refl _, wkH_nil _⟩
    · have hjl : j = s.length := by omega
      (first | refine wX ?_ | exact wZ)
      refine callG (BString_c false (hex (s.take j)) i hok) [0, 2] rfl ⟨rfl, rfl, trivial⟩ rfl fun _ _ => ?_
      (first | refine wX ?_ | exact wZ)
      rw [hjl, List.take_length]
end Go.Proofs.YtjkchonpnocffaaDoor

/-
  Contracts: a text is read (program).
-/
namespace Go.Proofs.YtjkchonpnocffaaDoor
open Go.AX Go.RowKit Go.Pack
set_option maxRecDepth 20000

/-! ### Blanks and zeros are trimmed -/
def zB (c : UInt8) : Bool := c == 32 || c == 0
def zTab : List Value := (List.range 256).map fun i => .bool (i == 32 || i == 0)
theorem zTab_ok : TabB zTab zB := fun c => by
  have hc := c.toNat_lt
  unfold zTab zB
  rw [List.getElem?_map, List.getElem?_range (by omega)]
  simp only [Option.map_some, Option.some.injEq, Value.bool.injEq]
  have h1 : (c.toNat == 32) = (c == 32) := by
    rw [Bool.eq_iff_iff, beq_iff_eq, beq_iff_eq]
    exact ⟨fun h => UInt8.toNat_inj.1 h, fun h => by rw [h]; rfl⟩
  have h2 : (c.toNat == 0) = (c == 0) := by
    rw [Bool.eq_iff_iff, beq_iff_eq, beq_iff_eq]
    exact ⟨fun h => UInt8.toNat_inj.1 h, fun h => by rw [h]; rfl⟩
  rw [h1, h2]
theorem setCells_z : (Lib.setCells [32, 0]).toList = zTab := by kernel_rfl
theorem setCells_z' : Lib.setCells [32, 0] = zTab.toArray := by apply Array.ext'; rw [setCells_z]
theorem makeZ_c : ∀ H, SpecH Tryd.prog 74 (pvs [.string (bs [32, 0])]) H (Ret (.tuple #[.agg zTab.toArray, .bool true]) H) := fun H =>
  SpecH.rawP (R := fun r => r = .tuple #[.agg zTab.toArray, .bool true]) (callOk Tryd.func74 (by kernel_rfl) rfl)
    (fun w _ => (Tryd.strings_makeASCIISet (fun w => by obtain ⟨i, hi, hz⟩ := Option.map_eq_some_iff.1 zero_set; exact run_zeroValue hi hz w) (bs [32, 0]) w (by decide) (by
      intro j b hj
      rw [bs_list] at hj
      match j, hj with
      | 0, hj => cases hj; decide
      | 1, hj => cases hj; decide)).mono fun e w' ⟨he, hw⟩ => ⟨_, he, by rw [bs_list, setCells_z'], by subst hw; exact (Below.refl _ w).alloc (Nat.le_refl _) _⟩) fun r hr => by subst hr; exact ⟨rfl, rfl⟩
theorem TrimZ_c (s : List UInt8) (hs : s.length ≤ 1000000000) : ∀ H, SpecH Tryd.prog 55 (pvs [.string (bs s), .string (bs [32, 0])]) H (Ret (.string (bs (trimA s))) H) := by
  refine pureC hm Tryd.func55 (by kernel_rfl) rfl rfl ?_
  (first | refine wX ?_ | exact wZ)
  rw [bs_list]
  refine brd_intro (fun h => ?_) (fun h => ?_)
  · have : s = [] := by simpa using h
    subst this
    (first | refine wX ?_ | exact wZ)
    rfl
  · (first | refine wX ?_ | exact wZ)
    refine call1 (makeZ_c _) ?_
    (first | refine wX ?_ | exact wZ)
    refine callG (trimRightASCII_c _ zTab zB zTab_ok s hs) [0] rfl ⟨rfl, trivial⟩ rfl fun _ _ => ?_
    (first | refine wX ?_ | exact wZ)
    rfl
/-! ### The first zero -/
theorem index0 (l : List UInt8) : Lib.indexByte l 0 = if l.contains 0 then ((l.takeWhile (· != 0)).length : Int) else -1 := by
  induction l with
  | nil => rfl
  | cons a r ih =>
    unfold Lib.indexByte
    by_cases h : a = 0
    · subst h
      simp
    · rw [if_neg (by simpa using h), ih, List.takeWhile_cons_of_pos (by simpa using h)]
      have hc : (a :: r).contains 0 = r.contains 0 := by
        rw [List.contains_cons]
        rw [show ((0 : UInt8) == a) = false from beq_eq_false_iff_ne.2 (Ne.symm h), Bool.false_or]
      rw [hc]
      cases r.contains 0 with
      | false => simp
      | true =>
        simp only [if_true]
        rw [if_neg (by simp)]
        simp
theorem take0 (l : List UInt8) : l.take (l.takeWhile (· != 0)).length = l.takeWhile (· != 0) := by
  induction l with
  | nil => rfl
  | cons a r ih =>
    by_cases h : a = 0
    · subst h; rfl
    · rw [List.takeWhile_cons_of_pos (by simpa using h), List.length_cons, List.take_succ_cons, ih]
theorem index1 (l : List UInt8) : Lib.index l [0] = Lib.indexByte l 0 := by
  induction l with
  | nil => rfl
  | cons a r ih =>
    unfold Lib.index Lib.indexByte
    rw [ih]
    by_cases h : a = 0
    · subst h; rfl
    · rw [if_neg (show ¬ [0].isPrefixOf (a :: r) = true by simp [List.isPrefixOf]; exact fun h2 => h h2.symm), if_neg (show ¬ (a == 0) = true by simpa using h)]
theorem takeW0 {l : List UInt8} (h : (0 : UInt8) ∉ l) : l.takeWhile (· != 0) = l := by
  induction l with
  | nil => rfl
  | cons b l ih =>
    simp at h
    simp [show ¬ b = 0 from fun e => h.1 e.symm, ih h.2]
theorem cut0 (l : List UInt8) : (Lib.cut l [0]).1 = l.takeWhile (· != 0) := by
  unfold Lib.cut
  rw [index1, index0]
  by_cases h : l.contains 0 = true
  · rw [if_pos h, if_pos (by omega), Int.toNat_natCast]
    exact take0 l
  · rw [if_neg h, if_neg (by decide)]
    have h0 : (0 : UInt8) ∉ l := fun h2 => h (by simpa using h2)
    exact (takeW0 h0).symm
end Go.Proofs.YtjkchonpnocffaaDoor

/-
  Contracts: hex digits and texts are read (program).
-/
namespace Go.Proofs.YtjkchonpnocffaaDoor
open Go.AX Go.RowKit Go.Pack
set_option maxRecDepth 20000

theorem hexu_c (ub : Nat) (s : List UInt8) (a : Nat) (out : Option Nat) (len cap : Nat) (n : Int) (m : Nat) (hn : n = -1 ∧ m = 2 * (s.length - a) ∨ n = (m : Int) ∧ m ≤ 1000) (ha : a ≤ s.length) (hs : s.length ≤ 1000000) :
    SpecH Tryd.prog 53 [.c (.v (.pointer (some ⟨ub, 0, none⟩))), .c (.v (.int .i64 n))] [unE ub s a out len cap]
      (RetG (ι := Unit) (fun _ => True) (fun _ => .string (bs ((hex ((s.drop a).take ((m + 1) / 2))).take m))) fun _ => [unE ub s (a + ((s.drop a).take ((m + 1) / 2)).length) out len cap]) := by
  refine ownC hm Tryd.func53 (by kernel_rfl) rfl rfl (fun _ _ => okHB_eq rfl) (fun _ _ => Nat.le_refl _) ?_
  obtain ⟨b, hb⟩ : ∃ b, (s.drop a).take ((m + 1) / 2) = b := ⟨_, rfl⟩
  have hbl : b.length = min ((m + 1) / 2) (s.length - a) := by rw [← hb, List.length_take, List.length_drop]
  have hbt : (s.drop a).take b.length = b := by rw [hbl, ← hb, ← List.length_drop, ← List.take_eq_take_min]
  rw [hb]
  (first | refine wX ?_ | exact wZ)
  refine brd_eq (fun h1 => ?_) (fun h1 => ?_)
  · have hm2 : m = 2 * (s.length - a) := by omega
    (first | refine wX ?_ | exact wZ)
    refine call1 (left_c ub s a out len cap ha hs _ (fun w hw => hw.1)) ?_
    have hnm : (2 : Int) * ((s.length - a : Nat) : Int) = (m : Int) := by omega
    -- (2 * ((s.length - a : Nat) : Int)): the digits as the number is spelled
    (first | refine wX ?_ | exact wZ)
    refine call1 (left_c ub s a out len cap ha hs _ (fun w hw => hw.1)) ?_
    (first | refine wX ?_ | exact wZ)
    have hmin : minI (IntKind.i64.wrap (Int.tdiv (IntKind.i64.wrap ((2 * ((s.length - a : Nat) : Int)) + 1)) 2)) ((s.length - a : Nat) : Int) = ((b.length : Nat) : Int) := by
      rw [wrap_i64 (x := (2 * ((s.length - a : Nat) : Int)) + 1) (by omega), show Int.tdiv ((2 * ((s.length - a : Nat) : Int)) + 1) 2 = (((m + 1) / 2 : Nat) : Int) by rw [hnm]; exact (Int.ofNat_tdiv (m + 1) 2).symm, wrap_i64 (by omega), hbl]
      unfold minI
      split <;> omega
    rw [hmin]
    refine callG (cut_c ub s a b.length out len cap (by omega) hs) [0] rfl ⟨rfl, trivial⟩ rfl fun _ _ => ?_
    rw [hbt]
    (first | refine wX ?_ | exact wZ)
    refine call1 (Hex_c b (by omega) _) ?_
    (first | refine wX ?_ | exact wZ)
    refine ReadW.sl_h (min m (hex b).length) rfl Tryd.underlying9 rfl rfl ⟨by rw [bs_size]; unfold minI; split <;> omega, Nat.min_le_right _ _⟩ ?_
    rw [← List.take_eq_take_min]
    (first | refine wX ?_ | exact wZ)
    exact ⟨(), trivial, rfl, wkE_refl _, wkH_nil _⟩
  · have hnm : n = (m : Int) := by omega
    -- n: the digits as the number is spelled
    (first | refine wX ?_ | exact wZ)
    refine call1 (left_c ub s a out len cap ha hs _ (fun w hw => hw.1)) ?_
    (first | refine wX ?_ | exact wZ)
    have hmin : minI (IntKind.i64.wrap (Int.tdiv (IntKind.i64.wrap (n + 1)) 2)) ((s.length - a : Nat) : Int) = ((b.length : Nat) : Int) := by
      rw [wrap_i64 (x := n + 1) (by omega), show Int.tdiv (n + 1) 2 = (((m + 1) / 2 : Nat) : Int) by rw [hnm]; exact (Int.ofNat_tdiv (m + 1) 2).symm, wrap_i64 (by omega), hbl]
      unfold minI
      split <;> omega
    rw [hmin]
    refine callG (cut_c ub s a b.length out len cap (by omega) hs) [0] rfl ⟨rfl, trivial⟩ rfl fun _ _ => ?_
    rw [hbt]
    (first | refine wX ?_ | exact wZ)
    refine call1 (Hex_c b (by omega) _) ?_
    (first | refine wX ?_ | exact wZ)
    refine ReadW.sl_h (min m (hex b).length) rfl Tryd.underlying9 rfl rfl ⟨by rw [bs_size]; unfold minI; split <;> omega, Nat.min_le_right _ _⟩ ?_
    rw [← List.take_eq_take_min]
    (first | refine wX ?_ | exact wZ)
    exact ⟨(), trivial, rfl, wkE_refl _, wkH_nil _⟩
theorem tw_lt {l : List UInt8} (h : l.contains 0 = true) : (l.takeWhile (· != 0)).length + 1 ≤ l.length := by
  induction l with
  | nil => cases h
  | cons a r ih =>
    by_cases ha : a = 0
    · subst ha; simp
    · rw [List.takeWhile_cons_of_pos (by simpa using ha)]
      have hc : r.contains 0 = true := by
        rw [List.contains_cons, show ((0 : UInt8) == a) = false from beq_eq_false_iff_ne.2 (Ne.symm ha), Bool.false_or] at h
        exact h
      have := ih hc
      simp only [List.length_cons]
      omega
theorem textu_c (d : Dir) (ub : Nat) (s : List UInt8) (a : Nat) (out : Option Nat) (len cap : Nat) (hc : CntOk d.letter d.count) (ha : a ≤ s.length) (hs : s.length ≤ 1000000) :
    SpecH Tryd.prog 26 [.c (.v (.pointer (some ⟨ub, 0, none⟩))), .c (.v (dirV d))] [.fact UtfF, unE ub s a out len cap]
      (RetG (ι := Unit) (fun _ => True) (fun _ => .string (bs (cutS d (s.drop a)).1)) fun _ => [.fact UtfF, unE ub s (a + (cutS d (s.drop a)).2) out len cap]) := by
  refine ownC hm Tryd.func26 (by kernel_rfl) rfl rfl (fun _ _ => okHB_eq rfl) (fun _ _ => Nat.le_refl _) ?_
  have h72 : ((d.letter.toNat : Int) == 72) = (d.letter == 72) := u8_eq (n := 72) (by decide)
  have h90 : ((d.letter.toNat : Int) == 90) = (d.letter == 90) := u8_eq (n := 90) (by decide)
  have h65 : ((d.letter.toNat : Int) == 65) = (d.letter == 65) := u8_eq (n := 65) (by decide)
  have hzs := bs_size s
  (first | refine wX ?_ | exact wZ)
  refine brd_eq (fun hk => ?_) (fun hk => ?_)
  · have hc2 : ∀ n, cntS d n = 1 := fun n => by unfold cntS; rw [if_pos hk]
    (first | refine wX ?_ | exact wZ)
    rw [h72]
    cases e72 : d.letter == 72 with
    | true =>
      -- 1: the digits; 1: as the number is spelled; (.inr ⟨rfl, by decide⟩): that it is so
      (first | refine wX ?_ | exact wZ)
      refine callG (hexu_c ub s a out len cap (1) (1) (.inr ⟨rfl, by decide⟩) ha hs) [1] rfl ⟨rfl, trivial⟩ rfl fun _ _ => ?_
      have hcut : cutS d (s.drop a) = ((hex ((s.drop a).take ((1 + 1) / 2))).take (1), ((s.drop a).take ((1 + 1) / 2)).length) := by
        unfold cutS
        rw [if_pos e72, List.length_drop, hc2]
      (first | refine wX ?_ | exact wZ)
      exact ⟨(), trivial, by rw [hcut], by rw [hcut]; exact ⟨wkE_refl _, wkE_refl _, wkH_nil _⟩⟩
    | false =>
      have hcn := hc2 (s.drop a).length
      (first | refine wX ?_ | exact wZ)
      -- 1: the count; 1: as it is spelled; (fun h => absurd h.1 (by omega)): of cutS
      obtain ⟨b, hb⟩ : ∃ b, (s.drop a).take (1) = b := ⟨_, rfl⟩
      have hbl : b.length = min (1) (s.length - a) := by rw [← hb, List.length_take, List.length_drop]
      have hbt : (s.drop a).take b.length = b := by rw [hbl, ← hb, ← List.length_drop, ← List.take_eq_take_min]
      have hcut : cutS d (s.drop a) = (if d.letter == 65 then trimA b else if d.letter == 90 then b.takeWhile (· != 0) else b, b.length) := by
        unfold cutS
        rw [if_neg (by rw [e72]; decide), if_neg (fun h => absurd h.1 (by omega)), hcn, hb]
      -- the bytes b are cut (1: as the count is spelled), trimmed
      (first | refine wX ?_ | exact wZ)
      refine call1 (left_c ub s a out len cap ha hs _ (fun w hw => hw.2.1)) ?_
      (first | refine wX ?_ | exact wZ)
      have hmin : minI (1) ((s.length - a : Nat) : Int) = ((b.length : Nat) : Int) := by
        rw [hbl]
        unfold minI
        split <;> omega
      rw [hmin]
      refine callG (cut_c ub s a b.length out len cap (by omega) hs) [1] rfl ⟨rfl, trivial⟩ rfl fun _ _ => ?_
      rw [hbt]
      (first | refine wX ?_ | exact wZ)
      rw [h65]
      cases e65 : d.letter == 65 with
      | true =>
        rw [e65, if_pos rfl] at hcut
        (first | refine wX ?_ | exact wZ)
        refine call1 (TrimZ_c b (by omega) _) ?_
        (first | refine wX ?_ | exact wZ)
        exact ⟨(), trivial, by rw [hcut], by rw [hcut]; exact ⟨wkE_refl _, wkE_refl _, wkH_nil _⟩⟩
      | false =>
        rw [e65, if_neg (by decide)] at hcut
        (first | refine wX ?_ | exact wZ)
        rw [h90]
        cases e90 : d.letter == 90 with
        | true =>
          rw [e90, if_pos rfl] at hcut
          (first | refine wX ?_ | exact wZ)
          refine call1 (Cut_c b [0] (by omega) _ (fun w hw => hw.1.1)) ?_
          rw [cut0]
          (first | refine wX ?_ | exact wZ)
          exact ⟨(), trivial, by rw [hcut], by rw [hcut]; exact ⟨wkE_refl _, wkE_refl _, wkH_nil _⟩⟩
        | false =>
          rw [e90, if_neg (by decide)] at hcut
          (first | refine wX ?_ | exact wZ)
          exact ⟨(), trivial, by rw [hcut], by rw [hcut]; exact ⟨wkE_refl _, wkE_refl _, wkH_nil _⟩⟩
  · by_cases hk1 : d.count = -1
    · have hc2 : ∀ n, cntS d n = n := fun n => by unfold cntS; rw [if_neg hk, if_pos hk1]
      (first | refine wX ?_ | exact wZ)
      rw [h72]
      cases e72 : d.letter == 72 with
      | true =>
        -- (2 * (s.length - a)): the digits; d.count: as the number is spelled; (.inl ⟨hk1, rfl⟩): that it is so
        (first | refine wX ?_ | exact wZ)
        refine callG (hexu_c ub s a out len cap (d.count) ((2 * (s.length - a))) (.inl ⟨hk1, rfl⟩) ha hs) [1] rfl ⟨rfl, trivial⟩ rfl fun _ _ => ?_
        have hcut : cutS d (s.drop a) = ((hex ((s.drop a).take (((2 * (s.length - a)) + 1) / 2))).take ((2 * (s.length - a))), ((s.drop a).take (((2 * (s.length - a)) + 1) / 2)).length) := by
          unfold cutS
          rw [if_pos e72, List.length_drop, hc2]
        (first | refine wX ?_ | exact wZ)
        exact ⟨(), trivial, by rw [hcut], by rw [hcut]; exact ⟨wkE_refl _, wkE_refl _, wkH_nil _⟩⟩
      | false =>
        have hcn := hc2 (s.drop a).length
        rw [List.length_drop] at hcn
        have hdl := List.length_drop (l := s) (i := a)
        (first | refine wX ?_ | exact wZ)
        refine brd_eq (fun _ => ?_) (fun h => absurd hk1 h)
        (first | refine wX ?_ | exact wZ)
        refine call1 (left_c ub s a out len cap ha hs _ (fun w hw => hw.2.1)) ?_
        (first | refine wX ?_ | exact wZ)
        refine LdN.one (a := some ⟨ub, 0, none⟩) (q := 0) (.string (bs s)) rfl (fun w hw => hw.2.1) rfl ?_
        (first | refine wX ?_ | exact wZ)
        refine LdN.one (a := some ⟨ub, 0, none⟩) (q := 1) (.int .i64 (a : Int)) rfl (fun w hw => hw.2.1) rfl ?_
        (first | refine wX ?_ | exact wZ)
        refine ReadW.sl_l a rfl Tryd.underlying9 rfl rfl ⟨rfl, ha⟩ ?_
        (first | refine wX ?_ | exact wZ)
        refine callQ (IndexByte_c (s.drop a) 0 _) ?_
        rw [index0]
        by_cases hz : (s.drop a).contains 0 = true
        · rw [if_pos hz]
          obtain ⟨t, ht⟩ : ∃ t, (s.drop a).takeWhile (· != 0) = t := ⟨_, rfl⟩
          have htl : t.length + 1 ≤ s.length - a := by
            rw [← ht, ← hdl]
            exact tw_lt hz
          rw [ht]
          (first | refine wX ?_ | exact wZ)
          rw [h90]
          cases e90 : d.letter == 90 with
          | true =>
            have hcut : cutS d (s.drop a) = (t, t.length + 1) := by
              unfold cutS
              rw [if_neg (by rw [e72]; decide), if_pos ⟨hk1, e90, hz⟩, ht]
            have htk : ((s.drop a).take (t.length + 1)).take t.length = t := by rw [List.take_take, Nat.min_eq_left (by omega), ← ht]; exact take0 _
            have htk2 : ((s.drop a).take (t.length + 1)).length = t.length + 1 := by rw [List.length_take]; omega
            (first | refine wX ?_ | exact wZ)
            rw [show IntKind.i64.wrap ((t.length : Int) + 1) = ((t.length + 1 : Nat) : Int) by rw [wrap_i64 (by omega)]; omega]
            refine callG (cut_c ub s a (t.length + 1) out len cap (by omega) hs) [1] rfl ⟨rfl, trivial⟩ rfl fun _ _ => ?_
            (first | refine wX ?_ | exact wZ)
            refine ReadW.sl_h t.length rfl Tryd.underlying9 rfl rfl ⟨rfl, by omega⟩ ?_
            rw [htk]
            (first | refine wX ?_ | exact wZ)
            exact ⟨(), trivial, by rw [hcut], by rw [hcut]; exact ⟨wkE_refl _, wkE_refl _, wkH_nil _⟩⟩
          | false =>
            have hn3 : ¬ (d.count = -1 ∧ (d.letter == 90) = true ∧ (s.drop a).contains 0 = true) := fun h => by rw [e90] at h; exact absurd h.2.1 (by decide)
            (first | refine wX ?_ | exact wZ)
            obtain ⟨b, hb⟩ : ∃ b, (s.drop a).take (s.length - a) = b := ⟨_, rfl⟩
            have hbl : b.length = min (s.length - a) (s.length - a) := by rw [← hb, List.length_take, List.length_drop]
            have hbt : (s.drop a).take b.length = b := by rw [hbl, ← hb, ← List.length_drop, ← List.take_eq_take_min]
            have hcut : cutS d (s.drop a) = (if d.letter == 65 then trimA b else if d.letter == 90 then b.takeWhile (· != 0) else b, b.length) := by
              unfold cutS
              rw [if_neg (by rw [e72]; decide), if_neg hn3, hdl, hcn, hb]
            rw [e90, if_neg (show ¬ false = true by decide)] at hcut
            -- as tail, but Z is known
            (first | refine wX ?_ | exact wZ)
            refine call1 (left_c ub s a out len cap ha hs _ (fun w hw => hw.2.1)) ?_
            (first | refine wX ?_ | exact wZ)
            have hmin : minI ((s.length - a : Nat) : Int) ((s.length - a : Nat) : Int) = ((b.length : Nat) : Int) := by
              rw [hbl]
              unfold minI
              split <;> omega
            rw [hmin]
            refine callG (cut_c ub s a b.length out len cap (by omega) hs) [1] rfl ⟨rfl, trivial⟩ rfl fun _ _ => ?_
            rw [hbt]
            (first | refine wX ?_ | exact wZ)
            rw [h65]
            cases e65 : d.letter == 65 with
            | true =>
              rw [e65, if_pos rfl] at hcut
              (first | refine wX ?_ | exact wZ)
              refine call1 (TrimZ_c b (by omega) _) ?_
              (first | refine wX ?_ | exact wZ)
              exact ⟨(), trivial, by rw [hcut], by rw [hcut]; exact ⟨wkE_refl _, wkE_refl _, wkH_nil _⟩⟩
            | false =>
              rw [e65, if_neg (by decide)] at hcut
              (first | refine wX ?_ | exact wZ)
              rw [h90, e90]
              (first | refine wX ?_ | exact wZ); exact ⟨(), trivial, by rw [hcut], by rw [hcut]; exact ⟨wkE_refl _, wkE_refl _, wkH_nil _⟩⟩
        · rw [if_neg hz]
          have hn3 : ¬ (d.count = -1 ∧ (d.letter == 90) = true ∧ (s.drop a).contains 0 = true) := fun h => hz h.2.2
          (first | refine wX ?_ | exact wZ)
          rw [h90]
          cases e90 : d.letter == 90 with
          | true =>
            (first | refine wX ?_ | exact wZ)
            obtain ⟨b, hb⟩ : ∃ b, (s.drop a).take (s.length - a) = b := ⟨_, rfl⟩
            have hbl : b.length = min (s.length - a) (s.length - a) := by rw [← hb, List.length_take, List.length_drop]
            have hbt : (s.drop a).take b.length = b := by rw [hbl, ← hb, ← List.length_drop, ← List.take_eq_take_min]
            have hcut : cutS d (s.drop a) = (if d.letter == 65 then trimA b else if d.letter == 90 then b.takeWhile (· != 0) else b, b.length) := by
              unfold cutS
              rw [if_neg (by rw [e72]; decide), if_neg hn3, hdl, hcn, hb]
            rw [e90, if_pos (show true = true from rfl)] at hcut
            -- as tail, but Z is known
            (first | refine wX ?_ | exact wZ)
            refine call1 (left_c ub s a out len cap ha hs _ (fun w hw => hw.2.1)) ?_
            (first | refine wX ?_ | exact wZ)
            have hmin : minI ((s.length - a : Nat) : Int) ((s.length - a : Nat) : Int) = ((b.length : Nat) : Int) := by
              rw [hbl]
              unfold minI
              split <;> omega
            rw [hmin]
            refine callG (cut_c ub s a b.length out len cap (by omega) hs) [1] rfl ⟨rfl, trivial⟩ rfl fun _ _ => ?_
            rw [hbt]
            (first | refine wX ?_ | exact wZ)
            rw [h65]
            cases e65 : d.letter == 65 with
            | true =>
              rw [e65, if_pos rfl] at hcut
              (first | refine wX ?_ | exact wZ)
              refine call1 (TrimZ_c b (by omega) _) ?_
              (first | refine wX ?_ | exact wZ)
              exact ⟨(), trivial, by rw [hcut], by rw [hcut]; exact ⟨wkE_refl _, wkE_refl _, wkH_nil _⟩⟩
            | false =>
              rw [e65, if_neg (by decide)] at hcut
              (first | refine wX ?_ | exact wZ)
              rw [h90, e90]
              (first | refine wX ?_ | exact wZ); refine call1 (Cut_c b [0] (by omega) _ (fun w hw => hw.1.1)) ?_; rw [cut0]; (first | refine wX ?_ | exact wZ); exact ⟨(), trivial, by rw [hcut], by rw [hcut]; exact ⟨wkE_refl _, wkE_refl _, wkH_nil _⟩⟩
          | false =>
            (first | refine wX ?_ | exact wZ)
            obtain ⟨b, hb⟩ : ∃ b, (s.drop a).take (s.length - a) = b := ⟨_, rfl⟩
            have hbl : b.length = min (s.length - a) (s.length - a) := by rw [← hb, List.length_take, List.length_drop]
            have hbt : (s.drop a).take b.length = b := by rw [hbl, ← hb, ← List.length_drop, ← List.take_eq_take_min]
            have hcut : cutS d (s.drop a) = (if d.letter == 65 then trimA b else if d.letter == 90 then b.takeWhile (· != 0) else b, b.length) := by
              unfold cutS
              rw [if_neg (by rw [e72]; decide), if_neg hn3, hdl, hcn, hb]
            rw [e90, if_neg (show ¬ false = true by decide)] at hcut
            -- as tail, but Z is known
            (first | refine wX ?_ | exact wZ)
            refine call1 (left_c ub s a out len cap ha hs _ (fun w hw => hw.2.1)) ?_
            (first | refine wX ?_ | exact wZ)
            have hmin : minI ((s.length - a : Nat) : Int) ((s.length - a : Nat) : Int) = ((b.length : Nat) : Int) := by
              rw [hbl]
              unfold minI
              split <;> omega
            rw [hmin]
            refine callG (cut_c ub s a b.length out len cap (by omega) hs) [1] rfl ⟨rfl, trivial⟩ rfl fun _ _ => ?_
            rw [hbt]
            (first | refine wX ?_ | exact wZ)
            rw [h65]
            cases e65 : d.letter == 65 with
            | true =>
              rw [e65, if_pos rfl] at hcut
              (first | refine wX ?_ | exact wZ)
              refine call1 (TrimZ_c b (by omega) _) ?_
              (first | refine wX ?_ | exact wZ)
              exact ⟨(), trivial, by rw [hcut], by rw [hcut]; exact ⟨wkE_refl _, wkE_refl _, wkH_nil _⟩⟩
            | false =>
              rw [e65, if_neg (by decide)] at hcut
              (first | refine wX ?_ | exact wZ)
              rw [h90, e90]
              (first | refine wX ?_ | exact wZ); exact ⟨(), trivial, by rw [hcut], by rw [hcut]; exact ⟨wkE_refl _, wkE_refl _, wkH_nil _⟩⟩
    · obtain ⟨T, hT⟩ : ∃ T : Nat, d.count.toNat = T := ⟨_, rfl⟩
      have hT2 : d.count = (T : Int) ∧ T ≤ 1000 := by
        unfold CntOk at hc
        omega
      have hc2 : ∀ n, cntS d n = T := fun n => by unfold cntS; rw [if_neg hk, if_neg hk1]; exact hT
      (first | refine wX ?_ | exact wZ)
      rw [h72]
      cases e72 : d.letter == 72 with
      | true =>
        -- T: the digits; d.count: as the number is spelled; (.inr hT2): that it is so
        (first | refine wX ?_ | exact wZ)
        refine callG (hexu_c ub s a out len cap (d.count) (T) (.inr hT2) ha hs) [1] rfl ⟨rfl, trivial⟩ rfl fun _ _ => ?_
        have hcut : cutS d (s.drop a) = ((hex ((s.drop a).take ((T + 1) / 2))).take (T), ((s.drop a).take ((T + 1) / 2)).length) := by
          unfold cutS
          rw [if_pos e72, List.length_drop, hc2]
        (first | refine wX ?_ | exact wZ)
        exact ⟨(), trivial, by rw [hcut], by rw [hcut]; exact ⟨wkE_refl _, wkE_refl _, wkH_nil _⟩⟩
      | false =>
        have hcn := hc2 (s.drop a).length
        (first | refine wX ?_ | exact wZ)
        refine brd_eq (fun h => absurd h hk1) (fun _ => ?_)
        -- T: the count; d.count: as it is spelled; (fun h => absurd h.1 hk1): of cutS
        obtain ⟨b, hb⟩ : ∃ b, (s.drop a).take (T) = b := ⟨_, rfl⟩
        have hbl : b.length = min (T) (s.length - a) := by rw [← hb, List.length_take, List.length_drop]
        have hbt : (s.drop a).take b.length = b := by rw [hbl, ← hb, ← List.length_drop, ← List.take_eq_take_min]
        have hcut : cutS d (s.drop a) = (if d.letter == 65 then trimA b else if d.letter == 90 then b.takeWhile (· != 0) else b, b.length) := by
          unfold cutS
          rw [if_neg (by rw [e72]; decide), if_neg (fun h => absurd h.1 hk1), hcn, hb]
        -- the bytes b are cut (d.count: as the count is spelled), trimmed
        (first | refine wX ?_ | exact wZ)
        refine call1 (left_c ub s a out len cap ha hs _ (fun w hw => hw.2.1)) ?_
        (first | refine wX ?_ | exact wZ)
        have hmin : minI (d.count) ((s.length - a : Nat) : Int) = ((b.length : Nat) : Int) := by
          rw [hbl]
          unfold minI
          split <;> omega
        rw [hmin]
        refine callG (cut_c ub s a b.length out len cap (by omega) hs) [1] rfl ⟨rfl, trivial⟩ rfl fun _ _ => ?_
        rw [hbt]
        (first | refine wX ?_ | exact wZ)
        rw [h65]
        cases e65 : d.letter == 65 with
        | true =>
          rw [e65, if_pos rfl] at hcut
          (first | refine wX ?_ | exact wZ)
          refine call1 (TrimZ_c b (by omega) _) ?_
          (first | refine wX ?_ | exact wZ)
          exact ⟨(), trivial, by rw [hcut], by rw [hcut]; exact ⟨wkE_refl _, wkE_refl _, wkH_nil _⟩⟩
        | false =>
          rw [e65, if_neg (by decide)] at hcut
          (first | refine wX ?_ | exact wZ)
          rw [h90]
          cases e90 : d.letter == 90 with
          | true =>
            rw [e90, if_pos rfl] at hcut
            (first | refine wX ?_ | exact wZ)
            refine call1 (Cut_c b [0] (by omega) _ (fun w hw => hw.1.1)) ?_
            rw [cut0]
            (first | refine wX ?_ | exact wZ)
            exact ⟨(), trivial, by rw [hcut], by rw [hcut]; exact ⟨wkE_refl _, wkE_refl _, wkH_nil _⟩⟩
          | false =>
            rw [e90, if_neg (by decide)] at hcut
            (first | refine wX ?_ | exact wZ)
            exact ⟨(), trivial, by rw [hcut], by rw [hcut]; exact ⟨wkE_refl _, wkE_refl _, wkH_nil _⟩⟩
end Go.Proofs.YtjkchonpnocffaaDoor

/-
  AX, thirty-second text: append(l, make([]byte, n)...): so many zeros onto a slice of bytes that grows.
-/
namespace Go.AX

end Go.AX

/-
  AX, thirty-third text: readings that are the same in all worlds of a kind.
-/
namespace Go.AX

theorem ReadC.load {P : Program} {C : World → Prop} {o : Oper} {s : List AV} {K : AV → Prop} {T : TypeId} {x : Operand} {p : Addr} (v : Value) (ho : o.op = .load T x) (hx : opv s x = .c (.v (.pointer (some p)))) (hF : ∀ w, C w → (loadVar T p).run P w = .ok v w) (hk : K (.c (.v v))) : ∃ x, ReadC P C o s K x :=
  ⟨v, fun cs b e => (by rw [ho] at e; cases e), by rw [ho]; show allPlain s [x] = true; simp [allPlain, hx], fun w hw => by
    have hx2 : plainEv s x = .pointer (some p) := by unfold plainEv; rw [hx]
    unfold execOp
    simp [ho, hx2, Instr.loadAt, Instr.sureAddr, hF w hw], hk⟩
/-- A load of one cell. -/
theorem ReadC.one {P : Program} {C : World → Prop} {o : Oper} {s : List AV} {K : AV → Prop} {T : TypeId} {x : Operand} {a : Option Addr} {q k : Nat} {xs : List Value} (v : Value) (ho : o.op = .load T x) (hx : opv s x = .c (.v (.pointer (some (elemAddr a q))))) (hT : shapeT P T = some none)
    (hF : ∀ w, C w → SlAt a k xs w) (hv : xs[q]? = some v) (hk : K (.c (.v v))) : ∃ x, ReadC P C o s K x :=
  ReadC.load v ho hx (fun w hw => loadVar_cell hT ((hF w hw).cell hv)) hk
/-- A load of a struct. -/
theorem ReadC.agg {P : Program} {C : World → Prop} {o : Oper} {s : List AV} {K : AV → Prop} {T : TypeId} {x : Operand} {a : Option Addr} {q n k : Nat} {xs : List Value} (ys : List Value) (ho : o.op = .load T x) (hx : opv s x = .c (.v (.pointer (some (elemAddr a q))))) (hT : shapeT P T = some (some n))
    (hF : ∀ w, C w → SlAt a k xs w) (hl : ys.length = n) (hv : ∀ j, j < n → xs[q + j]? = ys[j]?) (hk : K (.c (.v (.agg ys.toArray)))) : ∃ x, ReadC P C o s K x :=
  ReadC.load (.agg ys.toArray) ho hx (fun w hw => loadVar_cells hT hl fun j v hj => by
    have hjn : j < n := by rw [← hl]; exact (List.getElem?_eq_some_iff.1 hj).1
    rw [elemAddr, Addr.add_add]
    exact (hF w hw).cell ((hv j hjn).trans hj)) hk
theorem ReadC.nil {P : Program} {C : World → Prop} {o : Oper} {s : List AV} {K : AV → Prop} {x : Operand} {p : Addr} (ho : o.op = .nilCheck x) (hx : opv s x = .c (.v (.pointer (some p)))) (hk : K (.c (.v (.pointer (some p))))) : ∃ x, ReadC P C o s K x :=
  ⟨.pointer (some p), fun cs b e => (by rw [ho] at e; cases e), by rw [ho]; show allPlain s [x] = true; simp [allPlain, hx], fun w _ => by
    have hx2 : plainEv s x = .pointer (some p) := by unfold plainEv; rw [hx]
    unfold execOp
    simp [ho, hx2], hk⟩
end Go.AX

/-
  Contracts: Bytes, Unpack (program).
-/
namespace Go.Proofs.YtjkchonpnocffaaDoor
open Go.AX Go.RowKit Go.Pack
set_option maxRecDepth 20000

theorem unS_cons (whole : List UInt8) (d : Dir) (l : List Dir) (s : List UInt8) (out : List Pack.Item) : unS whole (d :: l) s out =
    if d.letter == 64 then if d.count > whole.length then .error 14 else unS whole l (whole.drop (max 0 d.count).toNat) out
    else if d.letter == 120 then if (max 1 d.count).toNat > s.length then .error 14 else unS whole l (s.drop (max 1 d.count).toNat) out
    else if isStr d.letter then unS whole l (s.drop (cutS d s).2) (out ++ [⟨true, 0, (cutS d s).1⟩])
    else match numsS d s with
      | .error e => .error e
      | .ok (ns, r) => unS whole l r (out ++ ns.map intI) := rfl
theorem cutS_le (d : Dir) (s : List UInt8) : (cutS d s).2 ≤ s.length := by
  unfold cutS
  split
  · simp only [List.length_take]; omega
  split
  · rename_i h
    exact tw_lt h.2.2
  · simp only [List.length_take]; omega
/-- What Unpack gives: an error, or items in memory. -/
def UnR (r : Except Int (List Pack.Item)) (v : Value) (G : World → Prop) : Prop := match r with
  | .error e => v = .tuple #[.slice none 0 0, .int .i64 e]
  | .ok l => ∃ ob cap, v = .tuple #[.slice (at0 ob) l.length cap, .int .i64 0] ∧ (ob = none → l = []) ∧ ∀ w, G w → SlAt (at0 ob) (l.length * 3) (itemsC l) w
theorem Unpack_c (form s : List UInt8) (hf : form.length ≤ 100000) (hs : s.length ≤ 1000000) : SpecF Tryd.prog 9 [.string (bs form), .string (bs s)] UtfF (UnR (unpackS form s)) := by
  refine specF hm Tryd.func9 (by kernel_rfl) rfl rfl ?_
  (first | refine wX ?_ | exact wZ)
  refine SpecF.call (read_c form hf) (fun w _ => trivial) fun v G hR => ?_
  unfold unpackS
  cases hfm : forms form with
  | none =>
    rw [hfm] at hR
    obtain ⟨y, n, cap, rfl⟩ := hR
    (first | refine wX ?_ | exact wZ)
    exact fin_v rfl
  | some ds =>
    rw [hfm] at hR
    obtain ⟨db, dcap, rfl, hdb, hG⟩ := hR
    obtain ⟨h50, hok⟩ := forms_ok hfm
    ((conv => whnf); (repeat ((first | refine RwN.own ?_ | refine VrN.norm (wrap_i64 (by omega)) ?_ | refine VrN.keep ?_ | refine DrawN.calm (by decide +kernel) ?_ | refine Nd.mk (by decide +kernel) ?_ | refine Nd.mk (by omega) ?_ | (refine Nd.mk ?_ ?_; focus ((repeat' (first | exact trivial | exact wkE_refl _ | refine And.intro ?_ ?_)); done)) | refine RdN.intro _ rfl (by rfl) ?_); (conv => whnf))))
    refine BoxN.known [.string (bs s), .int .i64 0, .slice none 0 0] rfl fun ub => ?_
    (first | refine wX ?_ | exact wZ)
    refine LoopN.intro (Nat × Nat × List Pack.Item × Option Nat × Nat) (fun ⟨i, a, l, ob, cap⟩ => i ≤ ds.length ∧ a ≤ s.length ∧ l.length ≤ 1000001 * i ∧ ((ob = none → l = [] ∧ cap = 0) ∧ l.length ≤ cap) ∧ unS s (ds.drop i) (s.drop a) l = unS s ds s [])
      (fun ⟨i, _, _, _, _⟩ => mkS Tryd.f9.ntmps 0 [(1, .c (.v (.string (bs s)))), (8, .c (.v (.pointer (some ⟨ub, 0, none⟩)))), (23, .c (.v (.slice (at0 db) ds.length dcap))), (24, .c (.v (.int .i64 (ds.length : Int)))), (25, .c (.v (.int .i64 (i : Int))))])
      (fun ⟨_, a, l, ob, cap⟩ => [.fact UtfF, .fact G, unE ub s a ob l.length cap, itemsE l ob cap]) (fun ⟨i, _, _, _, _⟩ => ds.length - i) [.app 0 0 [] none 0 0] rfl
      (fun _ => rfl) (fun _ => rfl) (fun _ _ => okHB_eq rfl) ⟨(0, 0, [], none, 0), ⟨Nat.zero_le _, Nat.zero_le _, Nat.zero_le _, ⟨fun _ => ⟨rfl, rfl⟩, Nat.le_refl _⟩, rfl⟩, ?_, ?_⟩ ?_
    · (repeat' (first | exact trivial | refine And.intro (by with_reducible rfl) ?_ | (with_reducible exact wkC_refl _) | (with_reducible exact wkCs_refl _) | refine And.intro ?_ ?_))
      all_goals rfl
    · exact ⟨wkE_refl _, wkE_refl _, wkE_refl _, wkE_nil, wkH_nil _⟩
    rintro ⟨i, a, l, ob, cap⟩ ⟨hid, ha, hll, hob, hrun⟩
    (first | refine wX ?_ | exact wZ)
    refine brd_dec (fun h1 => ?_) (fun h1 => ?_)
    · obtain ⟨d, hd⟩ : ∃ d, ds[i]? = some d := ⟨_, List.getElem?_eq_getElem (by omega)⟩
      have hdok := hok d (List.mem_of_getElem? hd)
      obtain ⟨db, rfl⟩ : ∃ g, db = some g := by
        cases db with
        | none => rw [hdb rfl] at hd; cases hd
        | some g => exact ⟨g, rfl⟩
      have hc1 : d.count ≤ 1000 := by
        have := hdok.2
        unfold CntOk at this
        omega
      have hll2 : l.length ≤ 51000000 := Nat.le_trans hll (by omega)
      have hzs := bs_size s
      have h64 : ((d.letter.toNat : Int) == 64) = (d.letter == 64) := u8_eq (n := 64) (by decide)
      have h120 : ((d.letter.toNat : Int) == 120) = (d.letter == 120) := u8_eq (n := 120) (by decide)
      have hdr : unS s (ds.drop i) (s.drop a) l = unS s (d :: ds.drop (i + 1)) (s.drop a) l := by
        rw [List.drop_eq_getElem_cons (by omega), (List.getElem?_eq_some_iff.1 hd).2]
      rw [hdr, unS_cons] at hrun
      cases hst : isStr d.letter with
      | true =>
        have e64 : (d.letter == 64) = false := by
          cases h : d.letter == 64 with
          | false => rfl
          | true => rw [show d.letter = 64 by simpa using h] at hst; exact absurd hst (by decide)
        have e120 : (d.letter == 120) = false := by
          cases h : d.letter == 120 with
          | false => rfl
          | true => rw [show d.letter = 120 by simpa using h] at hst; exact absurd hst (by decide)
        rw [e64, if_neg (by decide), e120, if_neg (by decide), if_pos hst, List.drop_drop] at hrun
        have hcl : a + (cutS d (s.drop a)).2 ≤ s.length := by
          have := cutS_le d (s.drop a)
          rw [List.length_drop] at this
          omega
        (first | refine wX ?_ | exact wZ)
        refine Nd.mk ⟨rfl, by omega, by omega⟩ ?_
        (first | refine wX ?_ | exact wZ)
        refine LdN.agg (dirC d) rfl (fun w hw => hG w hw.2.1) rfl (fun j hj => by
          rw [Int.toNat_natCast]
          exact dirsC_get ds i j hj hd) ?_
        ((conv => whnf); (repeat ((first | refine RwN.own ?_ | refine VrN.norm (wrap_i64 (by omega)) ?_ | refine VrN.keep ?_ | refine DrawN.calm (by decide +kernel) ?_ | refine Nd.mk (by decide +kernel) ?_ | refine Nd.mk (by omega) ?_ | (refine Nd.mk ?_ ?_; focus ((repeat' (first | exact trivial | exact wkE_refl _ | refine And.intro ?_ ?_)); done)) | refine RdN.intro _ rfl (by rfl) ?_); (conv => whnf))))
        refine BoxN.known [.int .u8 0, .bool false, .int .i64 0] rfl fun dk => ?_
        (first | refine wX ?_ | exact wZ)
        refine EffW.appTo (i := 4) (q := 0) (ys := dirC d) (dirC d) 3 rfl rfl rfl rfl rfl rfl rfl (Nat.le_of_ble_eq_true rfl) rfl rfl ?_
        (first | refine wX ?_ | exact wZ)
        refine LdN.one (a := some ⟨dk, 0, none⟩) (q := 0) (.int .u8 (d.letter.toNat : Int)) rfl (fun w hw => hw.2.2.2.2.1) rfl ?_
        (first | refine wX ?_ | exact wZ)
        rw [h64, e64]
        (first | refine wX ?_ | exact wZ)
        refine LdN.one (a := some ⟨dk, 0, none⟩) (q := 0) (.int .u8 (d.letter.toNat : Int)) rfl (fun w hw => hw.2.2.2.2.1) rfl ?_
        (first | refine wX ?_ | exact wZ)
        rw [h120, e120]
        (first | refine wX ?_ | exact wZ)
        refine LdN.agg (a := some ⟨dk, 0, none⟩) (q := 0) (dirC d) rfl (fun w hw => hw.2.2.2.2.1) rfl (fun j _ => by rw [Nat.zero_add]) ?_
        (first | refine wX ?_ | exact wZ)
        refine call1 (isString_c d _) ?_
        rw [hst]
        (first | refine wX ?_ | exact wZ)
        refine DrawN.planC (fun w => w.cell? ⟨ub, 2, none⟩ = some (.slice (at0 ob) l.length cap) ∧ SlAt (some ⟨dk, 0, none⟩) 3 (dirC d) w) [0, 1, 5] [(2, 2), (3, 2), (4, 1), (6, 1), (7, 0), (8, 0), (9, 0)] [(10, 0), (11, 0), (12, 0), (13, 0)] (by decide +kernel) (fun w hw => ⟨(hw.2.2.1).cell (q := 2) rfl, hw.2.2.2.2.1⟩) ?_
        (first | refine wX ?_ | exact wZ)
        refine ReadC.load (.slice (at0 ob) l.length cap) rfl rfl (fun w hw => loadVar_cell rfl hw.1) ?_
        (first | refine wX ?_ | exact wZ)
        refine ReadC.agg (a := some ⟨dk, 0, none⟩) (q := 0) (dirC d) rfl rfl rfl (fun w hw => hw.2) rfl (fun j _ => by rw [Nat.zero_add]) ?_
        refine callG (textu_c d ub s a ob l.length cap hdok.2 ha hs) [0, 2] rfl ⟨rfl, rfl, trivial⟩ rfl fun _ _ => ?_
        (conv => whnf)
        refine Nd.mk (fun w hw => ⟨(hw.2.2.1).cell (q := 2) rfl, hw.2.2.2.2.1⟩) ?_
        (first | refine wX ?_ | exact wZ)
        refine Nd.mk (fun w hw => ⟨(hw.2.2.1).cell (q := 2) rfl, hw.2.2.2.2.1⟩) ?_
        (first | refine wX ?_ | exact wZ)
        refine Nd.mk (fun w hw => ⟨(hw.2.2.1).cell (q := 2) rfl, hw.2.2.2.2.1⟩) ?_
        (first | refine wX ?_ | exact wZ)
        refine Nd.mk ⟨Nat.le_refl 1, rfl, rfl⟩ ?_
        (conv => whnf)
        refine AppN.grow 3 (itemsC l) (itemC ⟨true, 0, (cutS d (s.drop a)).1⟩) rfl rfl ⟨Nat.le_refl 1, ⟨by show (l.length + 1) * 32 ≤ _; omega, by omega⟩, by show 3 ≠ 0; omega⟩ fun b' cap2 h11 h12 => ?_
        (first | refine wX ?_ | exact wZ)
        refine EffW.appTo (i := 2) (q := 2) (ys := [_]) (unC s (a + (cutS d (s.drop a)).2) (some b') (l.length + 1) cap2) 3 rfl rfl rfl rfl rfl rfl rfl (Nat.le_of_ble_eq_true rfl) rfl rfl ?_
        (first | refine wX ?_ | exact wZ)
        refine ⟨(i + 1, a + (cutS d (s.drop a)).2, l ++ [⟨true, 0, (cutS d (s.drop a)).1⟩], some b', cap2), ⟨by omega, hcl, by simp; omega, ⟨fun h => (by cases h), by rw [List.length_append]; exact h11⟩, hrun⟩, by show ds.length - (i + 1) < ds.length - i; omega, ?_, ?_⟩
        · (repeat' (first | exact trivial | refine And.intro (by with_reducible rfl) ?_ | (with_reducible exact wkC_refl _) | (with_reducible exact wkCs_refl _) | refine And.intro ?_ ?_))
          all_goals first | rfl | exact av_int (by rw [wrap_i64 (by omega)]; omega)
        · refine ⟨wkE_refl _, wkE_refl _, ?_, ?_, wkH_nil _⟩
          · show wkE (.app _ _ _ _ _ _) (unE ub s (a + (cutS d (s.drop a)).2) (some b') (l ++ [(⟨true, 0, (cutS d (s.drop a)).1⟩ : Pack.Item)]).length cap2)
            rw [List.length_append]
            exact wkE_refl _
          · exact .inl ⟨rfl, rfl, itemsC_snoc _ _, rfl, by rw [List.length_append]; rfl, rfl⟩
      | false =>
      (first | refine wX ?_ | exact wZ)
      refine Nd.mk ⟨rfl, by omega, by omega⟩ ?_
      (first | refine wX ?_ | exact wZ)
      refine LdN.agg (dirC d) rfl (fun w hw => hG w hw.2.1) rfl (fun j hj => by
        rw [Int.toNat_natCast]
        exact dirsC_get ds i j hj hd) ?_
      (first | refine wX ?_ | exact wZ)
      rw [h64]
      cases e64 : d.letter == 64 with
      | true =>
        rw [e64, if_pos rfl] at hrun
        (first | refine wX ?_ | exact wZ)
        rw [hzs]
        refine brd_dec (fun h2 => ?_) (fun h2 => ?_)
        · rw [if_pos h2] at hrun
          (first | refine wX ?_ | exact wZ)
          refine fin_v ?_
          show UnR (unS s ds s []) _ _
          rw [← hrun]
          rfl
        · rw [if_neg h2] at hrun
          obtain ⟨m, hm⟩ : ∃ m : Nat, (max 0 d.count).toNat = m := ⟨_, rfl⟩
          have hmx : maxI 0 d.count = (m : Int) := by unfold maxI; split <;> omega
          rw [hm] at hrun
          (first | refine wX ?_ | exact wZ)
          rw [hmx]
          (first | refine wX ?_ | exact wZ)
          refine EffW.appTo (i := 2) (q := 1) (ys := [_]) (unC s m ob l.length cap) 3 rfl rfl rfl rfl rfl rfl rfl (Nat.le_of_ble_eq_true rfl) rfl rfl ?_
          (first | refine wX ?_ | exact wZ)
          refine ⟨(i + 1, m, l, ob, cap), ⟨by omega, by omega, by omega, hob, hrun⟩, by show ds.length - (i + 1) < ds.length - i; omega, ?_, ?_⟩
          · (repeat' (first | exact trivial | refine And.intro (by with_reducible rfl) ?_ | (with_reducible exact wkC_refl _) | (with_reducible exact wkCs_refl _) | refine And.intro ?_ ?_))
            all_goals first | rfl | exact av_int (by rw [wrap_i64 (by omega)]; omega)
          · exact ⟨wkE_refl _, wkE_refl _, wkE_refl _, wkE_refl _, wkH_nil _⟩
      | false =>
        rw [e64, if_neg (by decide)] at hrun
        (first | refine wX ?_ | exact wZ)
        rw [h120]
        cases e120 : d.letter == 120 with
        | true =>
          rw [e120, if_pos rfl] at hrun
          obtain ⟨m, hm⟩ : ∃ m : Nat, (max 1 d.count).toNat = m := ⟨_, rfl⟩
          have hmx : maxI 1 d.count = (m : Int) := by unfold maxI; split <;> omega
          rw [hm, List.length_drop] at hrun
          (first | refine wX ?_ | exact wZ)
          rw [hmx]
          (first | refine wX ?_ | exact wZ)
          refine call1 (left_c ub s a ob l.length cap ha hs _ (fun w hw => hw.2.2.1)) ?_
          (first | refine wX ?_ | exact wZ)
          refine brd_dec (fun h2 => ?_) (fun h2 => ?_)
          · rw [if_pos (by omega)] at hrun
            (first | refine wX ?_ | exact wZ)
            refine fin_v ?_
            show UnR (unS s ds s []) _ _
            rw [← hrun]
            rfl
          · rw [if_neg (by omega), List.drop_drop] at hrun
            (first | refine wX ?_ | exact wZ)
            refine DrawN.plan [0, 4] [(1, 1), (2, 1), (3, 1), (5, 1), (6, 1), (7, 1), (8, 1), (9, 1)] [(10, 0)] (by decide +kernel) ?_
            (first | refine wX ?_ | exact wZ)
            refine LdN.one (a := some ⟨ub, 0, none⟩) (q := 1) (.int .i64 (a : Int)) rfl (fun w hw => hw.2.2.1) rfl ?_
            (first | refine wX ?_ | exact wZ)
            rw [hmx]
            (first | refine wX ?_ | exact wZ)
            refine EffW.appTo (i := 2) (q := 1) (ys := [_]) (unC s (a + m) ob l.length cap) 3 rfl rfl rfl rfl rfl rfl rfl (Nat.le_of_ble_eq_true rfl) (by
              show [_, Value.int .i64 _, _] = [_, Value.int .i64 _, _]
              first | rfl | (rw [wrap_i64 (by omega)]; rfl)) rfl ?_
            (first | refine wX ?_ | exact wZ)
            refine ⟨(i + 1, a + m, l, ob, cap), ⟨by omega, by omega, by omega, hob, hrun⟩, by show ds.length - (i + 1) < ds.length - i; omega, ?_, ?_⟩
            · (repeat' (first | exact trivial | refine And.intro (by with_reducible rfl) ?_ | (with_reducible exact wkC_refl _) | (with_reducible exact wkCs_refl _) | refine And.intro ?_ ?_))
              all_goals first | rfl | exact av_int (by rw [wrap_i64 (by omega)]; omega)
            · exact ⟨wkE_refl _, wkE_refl _, wkE_refl _, wkE_refl _, wkH_nil _⟩
        | false =>
          rw [e120, if_neg (by decide)] at hrun
          (first | refine wX ?_ | exact wZ)
          refine call1 (isString_c d _) ?_
          cases hstr : isStr d.letter with
          | true => rw [hstr] at hst; cases hst
          | false =>
            rw [hstr, if_neg (by decide)] at hrun
            have hpl : isPl d.letter = false := by unfold isPl; rw [e120, e64]; rfl
            (first | refine wX ?_ | exact wZ)
            refine callG (numbers_c d ub s a l ob cap hdok.1 hstr hpl hdok.2 hob (by omega) ha hs) [0, 2, 3] rfl ⟨rfl, rfl, rfl, trivial⟩ rfl ?_
            rintro ⟨l2, ob2, cap2, at2, e2⟩ ⟨n1, n2, n3, n4, n5⟩
            cases hns : numsS d (s.drop a) with
            | error e =>
              rw [hns] at n5 hrun
              obtain ⟨n6, n7⟩ := n5
              simp only at n6
              subst n6
              (first | refine wX ?_ | exact wZ)
              refine brd_ne (fun _ => ?_) (fun h6 => absurd h6 n7)
              (first | refine wX ?_ | exact wZ)
              refine fin_v ?_
              show UnR (unS s ds s []) _ _
              rw [← hrun]
              rfl
            | ok x =>
              obtain ⟨ns, r⟩ := x
              rw [hns] at n5 hrun
              obtain ⟨n6, n7, n8⟩ := n5
              simp only at n6 n7 n8 n4 hrun
              subst n6
              rw [← n8, ← n7] at hrun
              (first | refine wX ?_ | exact wZ)
              refine ⟨(i + 1, at2, l2, ob2, cap2), ⟨by omega, n1, by omega, ⟨n2, n3⟩, hrun⟩, by show ds.length - (i + 1) < ds.length - i; omega, ?_, ?_⟩
              · (repeat' (first | exact trivial | refine And.intro (by with_reducible rfl) ?_ | (with_reducible exact wkC_refl _) | (with_reducible exact wkCs_refl _) | refine And.intro ?_ ?_))
                all_goals first | rfl | exact av_int (by rw [wrap_i64 (by omega)]; omega)
              · exact ⟨wkE_refl _, wkE_refl _, wkE_refl _, wkE_refl _, wkH_nil _⟩
    · have hi : i = ds.length := by omega
      subst hi
      rw [List.drop_length] at hrun
      (first | refine wX ?_ | exact wZ)
      refine LdN.one (a := some ⟨ub, 0, none⟩) (q := 2) (.slice (at0 ob) l.length cap) rfl (fun w hw => hw.2.2.1) rfl ?_
      (first | refine wX ?_ | exact wZ)
      refine fin_p (fun w => SlAt (at0 ob) (l.length * 3) (itemsC l) w) ?_ (fun w hw => hw.2.2.2.1)
      show UnR (unS s ds s []) _ _
      rw [← hrun]
      exact ⟨ob, cap, rfl, fun h => (hob.1 h).1, fun w hw => hw⟩
end Go.Proofs.YtjkchonpnocffaaDoor

/-
  Contracts: Hex and Bytes (document).
-/
namespace Go.Proofs.YtjkchonpnocffaaDoor
open Go.AX Go.RowKit Go.Pack
set_option maxRecDepth 20000

end Go.Proofs.YtjkchonpnocffaaDoor

/-
  Contracts: the examples, PackHexes (law).
-/
namespace Go.Proofs.YtjkchonpnocffaaDoor
open Go.AX Go.RowKit Go.Pack
set_option maxRecDepth 20000

theorem hp1 : packV (packS [67, 110] [⟨false, 1, []⟩, ⟨false, 258, []⟩]) = .tuple #[.string (bs [1, 1, 2]), .int .i64 0] := by rfl
theorem hp2 : packV (packS [65, 51] [⟨true, 0, [120]⟩]) = .tuple #[.string (bs [120, 32, 32]), .int .i64 0] := by rfl
theorem hu1 : unpackS [119] [129, 0] = .ok [⟨false, 128, []⟩] := by rfl
theorem Pack1 (b : Nat) : ∀ H, (∀ w, Facts H w → ItemsF (some ⟨b, 0, none⟩) [⟨false, 1, []⟩, ⟨false, 258, []⟩] w) → SpecH Tryd.prog 17 (pvs [.string (bs [67, 110]), .slice (some ⟨b, 0, none⟩) 2 2]) H (Ret (.tuple #[.string (bs [1, 1, 2]), .int .i64 0]) H) := fun H hF => by
  have h := Pack_c [67, 110] (some ⟨b, 0, none⟩) [⟨false, 1, []⟩, ⟨false, 258, []⟩] 2 (by decide) (fun _ => rfl) (by decide) (by simp) H hF
  rw [hp1] at h
  exact h
theorem Pack2 (b : Nat) : ∀ H, (∀ w, Facts H w → ItemsF (some ⟨b, 0, none⟩) [⟨true, 0, [120]⟩] w) → SpecH Tryd.prog 17 (pvs [.string (bs [65, 51]), .slice (some ⟨b, 0, none⟩) 1 1]) H (Ret (.tuple #[.string (bs [120, 32, 32]), .int .i64 0]) H) := fun H hF => by
  have h := Pack_c [65, 51] (some ⟨b, 0, none⟩) [⟨true, 0, [120]⟩] 1 (by decide) (fun _ => rfl) (by decide) (by simp) H hF
  rw [hp2] at h
  exact h
theorem sane_c : ∀ H, (∀ w, Facts H w → UtfF w) → SpecH Tryd.prog 8 (pvs []) H (Ret (.bool true) H) := by
  refine factC hm Tryd.func8 (by kernel_rfl) rfl rfl ?_
  ((conv => whnf); (repeat ((first | refine BoxN.own ?_ | refine VrN.norm (wrap_i64 (by omega)) ?_ | refine VrN.keep ?_ | refine DrawN.calm (by decide +kernel) ?_ | refine Nd.mk (by decide +kernel) ?_ | refine Nd.mk (by omega) ?_ | (refine Nd.mk ?_ ?_; focus ((repeat' (first | exact trivial | exact wkE_refl _ | refine And.intro ?_ ?_)); done)) | refine RdN.intro _ rfl (by rfl) ?_); (conv => whnf))))
  refine RwN.known _ rfl fun b1 => ?_
  ((conv => whnf); (repeat ((first | refine BoxN.own ?_ | refine VrN.norm (wrap_i64 (by omega)) ?_ | refine VrN.keep ?_ | refine DrawN.calm (by decide +kernel) ?_ | refine Nd.mk (by decide +kernel) ?_ | refine Nd.mk (by omega) ?_ | (refine Nd.mk ?_ ?_; focus ((repeat' (first | exact trivial | exact wkE_refl _ | refine And.intro ?_ ?_)); done)) | refine RdN.intro _ rfl (by rfl) ?_); (conv => whnf))))
  refine call1 (Pack1 b1 _ (fun w hw => hw.2.1)) ?_
  (first | refine wX ?_ | exact wZ)
  refine SpecF.call (Unpack_c [119] [129, 0] (by decide) (by decide)) (fun w hw => hw.1) fun v G hR => ?_
  rw [hu1] at hR
  obtain ⟨ob, cap, rfl, hob, hG⟩ := hR
  obtain ⟨g, rfl⟩ : ∃ g, ob = some g := by
    cases ob with
    | none => cases hob rfl
    | some g => exact ⟨g, rfl⟩
  ((conv => whnf); (repeat ((first | refine BoxN.own ?_ | refine VrN.norm (wrap_i64 (by omega)) ?_ | refine VrN.keep ?_ | refine DrawN.calm (by decide +kernel) ?_ | refine Nd.mk (by decide +kernel) ?_ | refine Nd.mk (by omega) ?_ | (refine Nd.mk ?_ ?_; focus ((repeat' (first | exact trivial | exact wkE_refl _ | refine And.intro ?_ ?_)); done)) | refine RdN.intro _ rfl (by rfl) ?_); (conv => whnf))))
  refine RwN.known _ rfl fun b2 => ?_
  ((conv => whnf); (repeat ((first | refine BoxN.own ?_ | refine VrN.norm (wrap_i64 (by omega)) ?_ | refine VrN.keep ?_ | refine DrawN.calm (by decide +kernel) ?_ | refine Nd.mk (by decide +kernel) ?_ | refine Nd.mk (by omega) ?_ | (refine Nd.mk ?_ ?_; focus ((repeat' (first | exact trivial | exact wkE_refl _ | refine And.intro ?_ ?_)); done)) | refine RdN.intro _ rfl (by rfl) ?_); (conv => whnf))))
  refine call1 (Pack2 b2 _ (fun w hw => hw.2.2.2.1)) ?_
  (first | refine wX ?_ | exact wZ)
  refine Nd.mk ⟨rfl, by decide, by decide⟩ ?_
  (first | refine wX ?_ | exact wZ)
  refine LdN.fld (a := some ⟨g, 0, none⟩) (q := 0) (.int .i64 128) rfl (fun w hw => hG w hw.2.2.1) rfl ?_
  (first | refine wX ?_ | exact wZ)
  rfl
end Go.Proofs.YtjkchonpnocffaaDoor

/-
  Plain Lean: a character, byte by byte (as the document reads it).
-/
namespace Go.Pack
set_option maxRecDepth 20000
/-- The least code that so many bytes may have. -/
def least : Nat → Nat
  | 2 => 128
  | 3 => 2048
  | 4 => 65536
  | _ => 0
/-- Some character of so many bytes begins with n bytes that have these bits. -/
def bgP (bits n long : Nat) : Prop := max (bits * 64 ^ (long - n)) (least long) ≤ min (bits * 64 ^ (long - n) + 64 ^ (long - n) - 1) 1114111 ∧ ¬ (55296 ≤ max (bits * 64 ^ (long - n)) (least long) ∧ min (bits * 64 ^ (long - n) + 64 ^ (long - n) - 1) 1114111 ≤ 57343)
instance (bits n long : Nat) : Decidable (bgP bits n long) := inferInstanceAs (Decidable (_ ∧ _))
end Go.Pack

/-
  Contracts: a character is read (document).
-/
namespace Go.Proofs.YtjkchonpnocffaaDoor
open Go.AX Go.RowKit Go.Pack
set_option maxRecDepth 20000

end Go.Proofs.YtjkchonpnocffaaDoor

/-
  Contract: a character is read, byte by byte (document).
-/
namespace Go.Proofs.YtjkchonpnocffaaDoor
open Go.AX Go.RowKit Go.Pack
set_option maxRecDepth 20000

end Go.Proofs.YtjkchonpnocffaaDoor

/-
  Contract: a number of a fixed size is read (document).
-/
namespace Go.Proofs.YtjkchonpnocffaaDoor
open Go.AX Go.RowKit Go.Pack
set_option maxRecDepth 20000

end Go.Proofs.YtjkchonpnocffaaDoor

/-
  Contracts: a number, a text is read (document).
-/
namespace Go.Proofs.YtjkchonpnocffaaDoor
open Go.AX Go.RowKit Go.Pack
set_option maxRecDepth 20000

end Go.Proofs.YtjkchonpnocffaaDoor

/-
  Contract: a text is cut out (document).
-/
namespace Go.Proofs.YtjkchonpnocffaaDoor
open Go.AX Go.RowKit Go.Pack
set_option maxRecDepth 20000

end Go.Proofs.YtjkchonpnocffaaDoor

/-
  Contract: Unpack (document).
-/
namespace Go.Proofs.YtjkchonpnocffaaDoor
open Go.AX Go.RowKit Go.Pack
set_option maxRecDepth 20000

end Go.Proofs.YtjkchonpnocffaaDoor

/-
  Contract: the same items (law).
-/
namespace Go.Proofs.YtjkchonpnocffaaDoor
open Go.AX Go.RowKit Go.Pack
set_option maxRecDepth 20000

theorem same_c (l : List Pack.Item) (oa ob : Option Nat) (ca cb : Nat) (ha : oa = none → l = []) (hb : ob = none → l = []) (hl : l.length ≤ 1000000000) :
    ∀ H, (∀ w, Facts H w → SlAt (at0 oa) (l.length * 3) (itemsC l) w ∧ SlAt (at0 ob) (l.length * 3) (itemsC l) w) → SpecH Tryd.prog 11 (pvs [.slice (at0 oa) l.length ca, .slice (at0 ob) l.length cb]) H (Ret (.bool true) H) := by
  refine factC hm Tryd.func11 (by kernel_rfl) rfl rfl ?_
  (first | refine wX ?_ | exact wZ)
  refine brd_ne (fun h => absurd rfl h) (fun _ => ?_)
  (first | refine wX ?_ | exact wZ)
  refine loopS Nat (fun i => i ≤ l.length) (fun i => mkS Tryd.f11.ntmps 0 [(0, .c (.v (.slice (at0 oa) l.length ca))), (1, .c (.v (.slice (at0 ob) l.length cb))), (5, .c (.v (.int .i64 (i : Int))))]) (fun i => l.length - i) rfl (fun _ => rfl) 0 (Nat.zero_le _) ?_ ?_
  · (repeat' (first | exact trivial | refine And.intro (by with_reducible rfl) ?_ | (with_reducible exact wkC_refl _) | (with_reducible exact wkCs_refl _) | refine And.intro ?_ ?_))
    all_goals rfl
  intro i hi
  have hF0 : ∀ w, Facts [Ent.fact fun w => SlAt (at0 oa) (l.length * 3) (itemsC l) w ∧ SlAt (at0 ob) (l.length * 3) (itemsC l) w] w → SlAt (at0 oa) (l.length * 3) (itemsC l) w ∧ SlAt (at0 ob) (l.length * 3) (itemsC l) w := fun w hw => hw.1
  (first | refine wX ?_ | exact wZ)
  refine brd_dec (fun h1 => ?_) (fun h1 => ?_)
  · obtain ⟨x, hx⟩ : ∃ x, l[i]? = some x := ⟨_, List.getElem?_eq_getElem (by omega)⟩
    obtain ⟨ga, rfl⟩ : ∃ g, oa = some g := by
      cases oa with
      | none => rw [ha rfl] at hx; cases hx
      | some g => exact ⟨g, rfl⟩
    obtain ⟨gb, rfl⟩ : ∃ g, ob = some g := by
      cases ob with
      | none => rw [hb rfl] at hx; cases hx
      | some g => exact ⟨g, rfl⟩
    (first | refine wX ?_ | exact wZ)
    -- 0: the field, .bool x.isText: its value, 1: which fact
    refine Nd.mk ⟨rfl, by omega, by omega⟩ ?_
    (first | refine wX ?_ | exact wZ)
    refine LdN.fld (.bool x.isText) rfl (fun w hw => (hF0 w hw).1) (by rw [Int.toNat_natCast]; exact itemsC_get l i 0 (by decide) hx) ?_
    (first | refine wX ?_ | exact wZ)
    -- 0: the field, .bool x.isText: its value, 2: which fact
    refine Nd.mk ⟨rfl, by omega, by omega⟩ ?_
    (first | refine wX ?_ | exact wZ)
    refine LdN.fld (.bool x.isText) rfl (fun w hw => (hF0 w hw).2) (by rw [Int.toNat_natCast]; exact itemsC_get l i 0 (by decide) hx) ?_
    (first | refine wX ?_ | exact wZ)
    refine brdF (by cases x.isText <;> rfl) ?_
    (first | refine wX ?_ | exact wZ)
    -- 1: the field, .int .i64 x.int: its value, 1: which fact
    refine Nd.mk ⟨rfl, by omega, by omega⟩ ?_
    (first | refine wX ?_ | exact wZ)
    refine LdN.fld (.int .i64 x.int) rfl (fun w hw => (hF0 w hw).1) (by rw [Int.toNat_natCast]; exact itemsC_get l i 1 (by decide) hx) ?_
    (first | refine wX ?_ | exact wZ)
    -- 1: the field, .int .i64 x.int: its value, 2: which fact
    refine Nd.mk ⟨rfl, by omega, by omega⟩ ?_
    (first | refine wX ?_ | exact wZ)
    refine LdN.fld (.int .i64 x.int) rfl (fun w hw => (hF0 w hw).2) (by rw [Int.toNat_natCast]; exact itemsC_get l i 1 (by decide) hx) ?_
    (first | refine wX ?_ | exact wZ)
    refine brd_ne (fun h => absurd rfl h) (fun _ => ?_)
    (first | refine wX ?_ | exact wZ)
    -- 2: the field, .string (bs x.text): its value, 1: which fact
    refine Nd.mk ⟨rfl, by omega, by omega⟩ ?_
    (first | refine wX ?_ | exact wZ)
    refine LdN.fld (.string (bs x.text)) rfl (fun w hw => (hF0 w hw).1) (by rw [Int.toNat_natCast]; exact itemsC_get l i 2 (by decide) hx) ?_
    (first | refine wX ?_ | exact wZ)
    -- 2: the field, .string (bs x.text): its value, 2: which fact
    refine Nd.mk ⟨rfl, by omega, by omega⟩ ?_
    (first | refine wX ?_ | exact wZ)
    refine LdN.fld (.string (bs x.text)) rfl (fun w hw => (hF0 w hw).2) (by rw [Int.toNat_natCast]; exact itemsC_get l i 2 (by decide) hx) ?_
    (first | refine wX ?_ | exact wZ)
    refine brdF (by simp) ?_
    (first | refine wX ?_ | exact wZ)
    refine ⟨i + 1, by omega, by omega, ?_, by (repeat' (first | exact trivial | exact wkE_refl _ | refine And.intro ?_ ?_))⟩
    (repeat' (first | exact trivial | refine And.intro (by with_reducible rfl) ?_ | (with_reducible exact wkC_refl _) | (with_reducible exact wkCs_refl _) | refine And.intro ?_ ?_))
    all_goals first | rfl | exact av_int (by rw [wrap_i64 (by omega)]; omega)
  · (first | refine wX ?_ | exact wZ)
end Go.Proofs.YtjkchonpnocffaaDoor

/-
  Contract: the bytes of a number that fits (document).
-/
namespace Go.Proofs.YtjkchonpnocffaaDoor
open Go.AX Go.RowKit Go.Pack
set_option maxRecDepth 20000

def numL (d : Dir) (n : Int) : List UInt8 := if d.letter == 119 then sevens n.toNat else if d.letter == 85 then utf n.toNat else if hi d then (le (sz d.letter) n).reverse else le (sz d.letter) n
end Go.Proofs.YtjkchonpnocffaaDoor

/-
  Contract: a text is written (document).
-/
namespace Go.Proofs.YtjkchonpnocffaaDoor
open Go.AX Go.RowKit Go.Pack
set_option maxRecDepth 20000

theorem SlAt.cut {a : Option Addr} {k : Nat} {xs : List Value} {w : World} (h : SlAt a k xs w) (m : Nat) (hm : m ≤ k) : SlAt a m (xs.take m) w := by
  obtain ⟨h1, h2, h3⟩ := h
  refine ⟨by rw [List.length_take]; omega, fun h => h2 (by omega), fun j hj => ?_⟩
  rw [h3 j (by omega), List.getElem?_take, if_pos hj]
end Go.Proofs.YtjkchonpnocffaaDoor

/-
  Contract: items are packed (document).
-/
namespace Go.Proofs.YtjkchonpnocffaaDoor
open Go.AX Go.RowKit Go.Pack
set_option maxRecDepth 20000

theorem numS_fit (d : Dir) (n : Int) : numS d n = if fitR d.letter n then .ok (numL d n) else .error 5 := by
  unfold numS fitR numL
  by_cases h1 : (d.letter == 119) = true
  · have hl : d.letter = 119 := by simpa using h1
    rw [if_pos h1, hl, if_neg (show ¬ ((119 : UInt8) == 85) = true by decide), if_pos (show ((119 : UInt8) == 119) = true by decide)]
    by_cases h : n < 0
    · rw [if_pos h, if_neg (by simp; omega)]
    · rw [if_neg h, if_pos (by simp; omega), if_pos (show ((119 : UInt8) == 119) = true by decide)]
  · rw [if_neg h1]
    by_cases h2 : (d.letter == 85) = true
    · rw [if_pos h2, if_pos h2, if_neg h1, if_pos h2]
    · rw [if_neg h2, if_neg h2, if_neg h1, if_neg h1, if_neg h2]
end Go.Proofs.YtjkchonpnocffaaDoor

/-
  Contracts: Pack, Used, Check (document); items copied (law).
-/
namespace Go.Proofs.YtjkchonpnocffaaDoor
open Go.AX Go.RowKit Go.Pack
set_option maxRecDepth 20000

/-- Items in memory that nobody writes. -/
def ItR (l : List Pack.Item) (v : Value) (G : World → Prop) : Prop := ∃ ob cap, v = .slice (at0 ob) l.length cap ∧ (ob = none → l = []) ∧ ∀ w, G w → SlAt (at0 ob) (l.length * 3) (itemsC l) w
end Go.Proofs.YtjkchonpnocffaaDoor

/-
  AX, thirty-fifth text: an executor whose arms may come together again.
-/
namespace Go.AX

/-- What is behind a statement whose arms come together: a family of states. -/
def joinK {ι : Type} (inv : ι → Prop) (sl : ι → List AV) (hp : ι → List Ent) (K : Ex → List AV → List Ent → Prop) (e : Ex) (s' : List AV) (H' : List Ent) : Prop :=
  match e with
  | .normal => ∃ i, inv i ∧ wkS s' (sl i) ∧ wkH H' (hp i)
  | .exit n => K (.exit n) s' H'
  | .ret => K .ret s' H'
  | .pan c => K (.pan c) s' H'
/-- One statement and another: straight on; or all that the first one leaves is a family of states. -/
inductive SeqN (ia ib : List AV → List Ent → (Ex → List AV → List Ent → Prop) → Prop) (s : List AV) (H : List Ent) (K : Ex → List AV → List Ent → Prop) : Prop where
  | plain (h : ia s H (seqK ib K))
  | join (ι : Type) (inv : ι → Prop) (sl : ι → List AV) (hp : ι → List Ent) (len : ∀ i, inv i → H.length ≤ (hp i).length) (oks : ∀ i, inv i → okSB (hp i).length (sl i) = true) (okh : ∀ i, inv i → okH (hp i).length (hp i))
      (h : ia s H (joinK inv sl hp K)) (next : ∀ i, inv i → forceS (sl i) fun s => forceH (hp i) fun H => ib s H K)
def execJ (P : Program) (c : Code) : List AV → List Ent → (Ex → List AV → List Ent → Prop) → Prop :=
  Code.rec (motive := fun _ => List AV → List Ent → (Ex → List AV → List Ent → Prop) → Prop)
    (fun s H K => K .normal s H)
    (fun _ ops draw s H K => regionK P ops draw s H K)
    (fun _ _ ia ib s H K => SeqN ia ib s H K)
    (fun c _ _ ia ib s H K => condK c s (fun s => ia s H K) (fun s => ib s H K))
    (fun id _ ib s H K => ib s H (blockK id K))
    (fun _ ib s H K => LoopN ib s H K)
    (fun _ _ _ _ _ _ _ _ _ => False)
    (fun id s H K => K (.exit id) s H)
    (fun _ _ _ _ _ => False)
    (fun _ s H K => K .normal s H)
    (fun _ _ _ _ => False)
    (fun s H K => K .ret s H)
    (fun _ _ _ _ => False)
    c
theorem execJ_sound {P : Program} (hm : P.follows .mixedOrders = true) : ∀ (c : Code) (s : List AV) (H : List Ent) (K : Ex → List AV → List Ent → Prop), execJ P c s H K →
    ∀ (ρ : List Loc) (S : Nat → Prop) (w : World) (a : Act), Sat ρ S H w → RelS ρ s a.tmps.toList → c.wp P (Post ρ S H w a.defers K) a w := by
  intro c
  induction c with
  | skip => intro s H K h ρ S w a hs hr; exact wp_skip ⟨ρ, S, s, H, .normal, hs, Ev.refl _ _ _ _, hr, rfl, trivial, h⟩
  | label l => intro s H K h ρ S w a hs hr; exact wp_label ⟨ρ, S, s, H, .normal, hs, Ev.refl _ _ _ _, hr, rfl, trivial, h⟩
  | exit id => intro s H K h ρ S w a hs hr; exact wp_exit ⟨ρ, S, s, H, .exit id, hs, Ev.refl _ _ _ _, hr, rfl, rfl, h⟩
  | ret => intro s H K h ρ S w a hs hr; exact wp_ret ⟨ρ, S, s, H, .ret, hs, Ev.refl _ _ _ _, hr, rfl, trivial, h⟩
  | goto l => intro s H K h; exact h.elim
  | refuse y => intro s H K h; exact h.elim
  | scope b ih => intro s H K h; exact h.elim
  | rangeFunc f ps _ b _ _ => intro s H K h; exact h.elim
  | region id ops draw =>
    intro s H K h0 ρ S w a hs hr
    have h : regionK P ops draw s H K := h0
    clear h0
    unfold regionK at h
    split at h
    · exact wp_region_list (execOps_sound _ _ _ h ρ S w a hs hr)
    · have h0 : Cls ρ S H w { w with drawn := w.drawn + 1 } := ⟨S, hs.heap rfl, Ev.drew _ _ _ _⟩
      rcases h with ⟨hB, h⟩ | ⟨pre, hd, tl, hB, h⟩ | ⟨pre, hd, tl, hB, h⟩ | ⟨C, pre, hd, tl, hB, hC, h⟩
      · refine wp_region_quiet (C := Cls ρ S H w) hm hB h0 ?_
        have hq := execQ_sound ⟨_, h0⟩ _ _ h a hr
        refine exec_sound.wpQuiet_mono (fun a' ⟨s', hK, hr', hd⟩ w' ⟨S', hs', hev⟩ => ?_) _ _ hq
        exact ⟨ρ, S', s', H, .normal, hs', hev, hr', hd, trivial, hK⟩
      · exact plan_sound hm hB h hs hr
      · exact planQ_sound hm hB h hs hr
      · exact planC_sound hm hB hC h hs hr
  | seq x y ihx ihy =>
    intro s H K h0 ρ S w a hs hr
    have h : SeqN (execJ P x) (execJ P y) s H K := h0
    have key : ∀ K2 : Ex → List AV → List Ent → Prop, execJ P x s H K2 → (∀ (e : Ex) (s1 : List AV) (H1 : List Ent) (ρ1 : List Loc) (S1 : Nat → Prop) (w1 : World) (a1 : Act), K2 e s1 H1 → Sat ρ1 S1 H1 w1 → Ev ρ S H w ρ1 S1 H1 w1 → relX e ρ1 s1 a1.tmps.toList → ∃ s2 H2 ρ2 S2, Sat ρ2 S2 H2 w1 ∧ Ev ρ S H w ρ2 S2 H2 w1 ∧ relX e ρ2 s2 a1.tmps.toList ∧ seqK (execJ P y) K e s2 H2) → (Code.seq x y).wp P (Post ρ S H w a.defers K) a w := by
      intro K2 h2 hk
      refine wp_seq (wp_mono (ihx s H K2 h2 ρ S w a hs hr) fun e a' w' hp => ?_)
      obtain ⟨ρ0, S0, s0, H0, ex, hs0, hev0, hr0, hd, hex, hK0⟩ := hp
      obtain ⟨s1, H1, ρ1, S1, hs1, hev, hr1, hK⟩ := hk ex s0 H0 ρ0 S0 w' a' hK0 hs0 hev0 hr0
      cases ex with
      | normal =>
        cases e <;> first | exact hex.elim | skip
        refine wp_mono (ihy s1 H1 K hK ρ1 S1 w' a' hs1 hr1) fun e2 a2 w2 hp2 => ?_
        rw [hd] at hp2
        exact hp2.from hev
      | exit n => cases e <;> first | exact hex.elim | exact ⟨ρ1, S1, s1, H1, .exit n, hs1, hev, hr1, hd, hex, hK⟩
      | ret => cases e <;> first | exact hex.elim | exact ⟨ρ1, S1, s1, H1, .ret, hs1, hev, hr1, hd, hex, hK⟩
      | pan n => cases e <;> first | exact hex.elim | exact ⟨ρ1, S1, s1, H1, .pan n, hs1, hev, hr1, hd, hex, hK⟩
    rcases h with h | ⟨ι, inv, sl, hp, hlen, hoks, hokh, h, hnext⟩
    · exact key _ h fun e s1 H1 ρ1 S1 w1 a1 hK hs1 hev hr1 => ⟨s1, H1, ρ1, S1, hs1, hev, hr1, hK⟩
    · simp only [forceS_eq, forceH_eq] at hnext
      refine key _ h fun e s1 H1 ρ1 S1 w1 a1 hK hs1 hev hr1 => ?_
      cases e with
      | normal =>
        obtain ⟨j, hij, hws, hwh⟩ := hK
        have hw := hs1.weak hwh (hokh j hij)
        refine ⟨sl j, hp j, ρ1.take (hp j).length, S1, hw.1, ⟨?_, hev.os, hev.tape, hev.output, hev.size, hev.keep, hev.imm, fun b hb => hev.own b (hw.2 b hb)⟩, wkS_rel hws (hoks j hij) hr1, hnext j hij⟩
        obtain ⟨t, ht⟩ := hev.pre
        refine ⟨t.take ((hp j).length - ρ.length), ?_⟩
        rw [ht, List.take_append, List.take_of_length_le (by rw [hs.len]; exact hlen j hij)]
      | exit n => exact ⟨s1, H1, ρ1, S1, hs1, hev, hr1, hK⟩
      | ret => exact ⟨s1, H1, ρ1, S1, hs1, hev, hr1, hK⟩
      | pan n => exact ⟨s1, H1, ρ1, S1, hs1, hev, hr1, hK⟩
  | cond c x y ihx ihy =>
    intro s H K h0 ρ S w a hs hr
    have h : condK c s (fun s => execJ P x s H K) (fun s => execJ P y s H K) := h0
    obtain ⟨b, hb, hc⟩ := condK_spec h hr
    refine wp_cond hb ?_
    rcases hc with ⟨rfl, s', hK, hr'⟩ | ⟨rfl, s', hK, hr'⟩
    · exact ihx s' H K hK ρ S w a hs hr'
    · exact ihy s' H K hK ρ S w a hs hr'
  | block id b ih =>
    intro s H K h ρ S w a hs hr
    refine wp_block (wp_mono (ih s H (blockK id K) h ρ S w a hs hr) fun e a' w' hp => ?_)
    obtain ⟨ρ1, S1, s1, H1, ex, hs1, hev, hr1, hd, hex, hK⟩ := hp
    cases ex with
    | normal => cases e <;> first | exact hex.elim | exact ⟨ρ1, S1, s1, H1, .normal, hs1, hev, hr1, hd, trivial, hK⟩
    | ret => cases e <;> first | exact hex.elim | exact ⟨ρ1, S1, s1, H1, .ret, hs1, hev, hr1, hd, trivial, hK⟩
    | pan n => cases e <;> first | exact hex.elim | exact ⟨ρ1, S1, s1, H1, .pan n, hs1, hev, hr1, hd, hex, hK⟩
    | exit n =>
      cases e <;> first | exact hex.elim | skip
      rename_i m
      have hnm : n = m := hex
      subst hnm
      by_cases hid : n = id
      · subst hid
        simp only [Exit.inBlock, if_true]
        have hK' : K .normal s1 H1 := by simpa [blockK] using hK
        exact ⟨ρ1, S1, s1, H1, .normal, hs1, hev, hr1, hd, trivial, hK'⟩
      · simp only [Exit.inBlock, if_neg hid]
        have hbq : Nat.beq n id = false := by cases hq : Nat.beq n id with | false => rfl | true => exact absurd (Nat.eq_of_beq_eq_true hq) hid
        have hK' : K (.exit n) s1 H1 := by simpa [blockK, hbq] using hK
        exact ⟨ρ1, S1, s1, H1, .exit n, hs1, hev, hr1, hd, rfl, hK'⟩
  | loop b ih =>
    intro s H K h0 ρ S w a hs hr
    have h : LoopN (execJ P b) s H K := h0
    rcases h with ⟨ι, inv, sl, hp, μ, pad, hpad, hlen, hoks, hokh, ⟨i0, hi0, hst, hsh⟩, hround⟩ | ⟨n, hU⟩
    · obtain ⟨t0, hs0, hev0⟩ := Sat.pad pad hpad hs
      have hr0 := RelS_pre t0 hr
      refine wp_mono (P := P) (c := .loop b) (Q := Post (ρ ++ t0) S (H ++ pad) w a.defers K) ?_ fun e a' w' hp => hp.from hev0
      clear hs hr h0
      have hs := hs0
      have hr := hr0
      clear hs0 hr0
      generalize ρ ++ t0 = ρ at *
      generalize H ++ pad = H at *
      simp only [forceS_eq, forceH_eq] at hround
      refine wp_loop_by (fun n a' w' => ∃ i ρ' S', inv i ∧ μ i = n ∧ Sat ρ' S' (hp i) w' ∧ Ev ρ S H w ρ' S' (hp i) w' ∧ RelS ρ' (sl i) a'.tmps.toList ∧ a'.defers = a.defers) ?_ (μ i0) a w ?_
      · rintro n a' w' ⟨i, ρ', S', hinv, rfl, hs', hev, hr', hd⟩
        refine wp_mono (ih (sl i) (hp i) _ (hround i hinv) ρ' S' w' a' hs' hr') fun e a2 w2 hq => ?_
        obtain ⟨ρ2, S2, s2, H2, ex, hs2, hev2, hr2, hd2, hex, hK⟩ := hq
        cases ex with
        | normal =>
          cases e <;> first | exact hex.elim | skip
          obtain ⟨j, hij, hj, hws, hwh⟩ := hK
          have hw := hs2.weak hwh (by rw [hlen]; exact hokh j hij)
          refine ⟨μ j, hj, j, ρ2.take (hp j).length, S2, hij, rfl, hw.1, ?_, ?_, hd2.trans hd⟩
          · have h12 := hev.trans hev2
            refine ⟨?_, h12.os, h12.tape, h12.output, h12.size, h12.keep, h12.imm, fun b hb => h12.own b (hw.2 b hb)⟩
            obtain ⟨t, ht⟩ := h12.pre
            refine ⟨t.take ((hp j).length - ρ.length), ?_⟩
            rw [ht, List.take_append, List.take_of_length_le (by rw [hs.len, hlen]; omega)]
          · rw [hlen]; exact wkS_rel hws (hoks j) hr2
        | exit n => cases e <;> first | exact hex.elim | exact ⟨ρ2, S2, s2, H2, .exit n, hs2, hev.trans hev2, hr2, hd2.trans hd, hex, hK⟩
        | ret => cases e <;> first | exact hex.elim | exact ⟨ρ2, S2, s2, H2, .ret, hs2, hev.trans hev2, hr2, hd2.trans hd, trivial, hK⟩
        | pan n => cases e <;> first | exact hex.elim | exact ⟨ρ2, S2, s2, H2, .pan n, hs2, hev.trans hev2, hr2, hd2.trans hd, hex, hK⟩
      · have hw := hs.weak hsh (by rw [hlen]; exact hokh i0 hi0)
        have hρ : ρ.take (hp i0).length = ρ := List.take_of_length_le (by rw [hs.len, hlen]; omega)
        rw [hρ] at hw
        refine ⟨i0, ρ, S, hi0, rfl, hw.1, ⟨⟨[], by simp⟩, rfl, rfl, rfl, Nat.le_refl _, fun _ _ _ => rfl, fun b hb => .inl hb, fun b hb => .inl (hw.2 b hb)⟩, ?_, rfl⟩
        have := wkS_rel hst (hoks i0) hr
        rw [← hlen i0, hρ] at this
        exact this
    · refine wp_loop_by (fun n a' w' => ∃ s' H' ρ' S', LoopU (execJ P b) K n s' H' ∧ Sat ρ' S' H' w' ∧ Ev ρ S H w ρ' S' H' w' ∧ RelS ρ' s' a'.tmps.toList ∧ a'.defers = a.defers) ?_ n a w ⟨s, H, ρ, S, hU, hs, Ev.refl _ _ _ _, hr, rfl⟩
      rintro n a' w' ⟨s', H', ρ', S', hU, hs', hev, hr', hd⟩
      cases n with
      | zero => exact hU.elim
      | succ n =>
        refine wp_mono (ih s' H' _ hU ρ' S' w' a' hs' hr') fun e a2 w2 hq => ?_
        obtain ⟨ρ2, S2, s2, H2, ex, hs2, hev2, hr2, hd2, hex, hK⟩ := hq
        cases ex with
        | normal =>
          cases e <;> first | exact hex.elim | skip
          exact ⟨n, Nat.lt_succ_self n, s2, H2, ρ2, S2, hK, hs2, hev.trans hev2, hr2, hd2.trans hd⟩
        | exit n => cases e <;> first | exact hex.elim | exact ⟨ρ2, S2, s2, H2, .exit n, hs2, hev.trans hev2, hr2, hd2.trans hd, hex, hK⟩
        | ret => cases e <;> first | exact hex.elim | exact ⟨ρ2, S2, s2, H2, .ret, hs2, hev.trans hev2, hr2, hd2.trans hd, trivial, hK⟩
        | pan n => cases e <;> first | exact hex.elim | exact ⟨ρ2, S2, s2, H2, .pan n, hs2, hev.trans hev2, hr2, hd2.trans hd, hex, hK⟩
/-- What the executor shows of a function's body holds of its calls. -/
theorem specJ_of_exec {P : Program} (hm : P.follows .mixedOrders = true) {f : FuncId} {fn : Func} {c : Code} (hf : P.funcs[f]? = some fn) (hn : (fn.name == "runtime.NumGoroutine") = false) (hb : fn.body = some c)
    {args : List AV} (hl : Nat.ble args.length fn.ntmps = true) {H : List Ent} {K : Out → List Ent → Prop} (h : initK fn.ntmps args fun s => execJ P c s H (endK P fn.results.toList K)) : SpecH P f args H K := by
  refine ⟨⟨fn, hf, hn, by rw [hb]; rfl⟩, fun ρ S w vs hs hr => ?_⟩
  have hvl := RelS_len hr
  obtain ⟨s0, h, hs0⟩ := initK_rel h (Nat.le_of_ble_eq_true hl)
  have hinit : RelS ρ s0 (vs.toArray ++ Array.replicate (fn.ntmps - vs.toArray.size) undef).toList := by
    have := hs0 ρ vs hr
    simpa [hvl] using this
  refine calls_of_wp hf hb (wp_mono (execJ_sound hm c _ H _ h ρ S w ⟨_, []⟩ hs hinit) ?_)
  · intro e a w' hp
    obtain ⟨ρ1, S1, s1, H1, ex, hs1, hev, hr1, hd, hex, hK⟩ := hp
    have fin : RelS ρ1 s1 a.tmps.toList → ∀ {K' : Out → Prop}, resK P fn.results.toList s1 H1 K' → (∀ out, K' out → K out H1) → ∃ v, (results fn a.tmps).run P w' = .ok v w' ∧
        ∃ ρ' S' H' out, Sat ρ' S' H' w' ∧ Ev ρ S H w ρ' S' H' w' ∧ OutOk ρ' out (.returned v) ∧ K out H' := fun hr2 {_} hK1 hK2 => by
      obtain ⟨out, hK3, hres⟩ := resK_sound hK1
      obtain ⟨v, hrun, hv⟩ := hres ρ1 S1 w' a.tmps hs1 hr2
      exact ⟨v, hrun, ρ1, S1, H1, out, hs1, hev, hv, hK2 out hK3⟩
    cases ex with
    | normal =>
      cases e <;> first | exact hex.elim | skip
      obtain ⟨v, hrun, hR⟩ := fin hr1 (K' := fun out => K out H1) hK fun _ h => h
      exact ⟨hd, v, hrun, hR⟩
    | ret =>
      cases e <;> first | exact hex.elim | skip
      obtain ⟨v, hrun, hR⟩ := fin hr1 (K' := fun out => K out H1) hK fun _ h => h
      exact ⟨hd, v, hrun, hR⟩
    | exit n => exact hK.elim
    | pan ch =>
      cases e <;> first | exact hex.elim | skip
      have : ch = _ := hex
      subst this
      exact ⟨hd, ρ1, S1, H1, .pan ch, hs1, hev, rfl, hK⟩
theorem specFJ {P : Program} (hm : P.follows .mixedOrders = true) {f : FuncId} {fn : Func} {c : Code} (hf : P.funcs[f]? = some fn) (hn : (fn.name == "runtime.NumGoroutine") = false) (hb : fn.body = some c)
    {xs : List Value} (hl : Nat.ble (pvs xs).length fn.ntmps = true) {F : World → Prop} {R : Value → (World → Prop) → Prop} (h : initK fn.ntmps (pvs xs) fun s => execJ P c s [.fact F] (endK P fn.results.toList fun out H' => notPan out ∧ Fin R out H')) : SpecF P f xs F R :=
  specF_of (specJ_of_exec hm hf hn hb hl h)
end Go.AX

/-
  Plain Lean: a number that was written is read back.
-/
namespace Go.Pack

theorem u8_toNat (n : Nat) : (UInt8.ofNat n).toNat = n % 256 := by simp
theorem u8_lt {a b : UInt8} : a < b ↔ a.toNat < b.toNat := Iff.rfl
theorem u8_le {a b : UInt8} : a ≤ b ↔ a.toNat ≤ b.toNat := Iff.rfl

/-! ### Bytes of a fixed size -/
theorem le_lng : ∀ (k : Nat) (n : Int), (le k n).length = k
  | 0, _ => rfl
  | k + 1, n => by simp [le, le_lng k]
theorem beN_snoc (l : B) (c : UInt8) : beN (l ++ [c]) = beN l * 256 + c.toNat := by simp [beN]
theorem emod_split (n P : Int) (hP : 0 < P) : n % (P * 256) = n / 256 % P * 256 + n % 256 := by
  have h1 : 0 ≤ n % 256 := Int.emod_nonneg _ (by decide)
  have h2 : n % 256 < 256 := Int.emod_lt_of_pos _ (by decide)
  have e1 : n = 256 * (n / 256) + n % 256 := (Int.mul_ediv_add_emod n 256).symm
  generalize n / 256 = X at *
  generalize n % 256 = m at *
  have e2 : X = P * (X / P) + X % P := (Int.mul_ediv_add_emod X P).symm
  have h4 : 0 ≤ X % P := Int.emod_nonneg _ (by omega)
  have h5 : X % P < P := Int.emod_lt_of_pos _ hP
  generalize X / P = q at *
  generalize X % P = r at *
  subst e2
  subst e1
  have e3 : 256 * (P * q + r) + m = (r * 256 + m) + P * 256 * q := by
    rw [Int.mul_add, ← Int.mul_assoc, Int.mul_comm 256 P]
    omega
  rw [e3, Int.add_mul_emod_self_left, Int.emod_eq_of_lt (by omega) (by omega)]
theorem beN_le : ∀ (k : Nat) (n : Int), (beN (le k n).reverse : Int) = n % (256 : Int) ^ k
  | 0, n => by simp [le, beN, Int.emod_one]
  | k + 1, n => by
    rw [le, List.reverse_cons, beN_snoc, Int.natCast_add, Int.natCast_mul, beN_le k, u8_toNat]
    have h1 : 0 ≤ n % 256 := Int.emod_nonneg _ (by decide)
    have h2 : n % 256 < 256 := Int.emod_lt_of_pos _ (by decide)
    have h3 : (((n % 256).toNat % 256 : Nat) : Int) = n % 256 := by omega
    rw [h3, Int.pow_succ, emod_split n (256 ^ k) (Int.pow_pos (by decide))]
    rfl
/-- The byte order does not matter, if it is the same. -/
theorem beN_both (d : Dir) (n : Int) : (beN (if hi d then (if hi d then (le (sz d.letter) n).reverse else le (sz d.letter) n) else (if hi d then (le (sz d.letter) n).reverse else le (sz d.letter) n).reverse) : Int) = n % (256 : Int) ^ sz d.letter := by
  rw [← beN_le]
  cases hi d <;> simp
def fixed (c : UInt8) : Bool := c == 67 || c == 99 || c == 83 || c == 115 || c == 110 || c == 76 || c == 108 || c == 78 || c == 81 || c == 113
theorem fixed_cases {c : UInt8} (h : fixed c = true) : c = 67 ∨ c = 99 ∨ c = 83 ∨ c = 115 ∨ c = 110 ∨ c = 76 ∨ c = 108 ∨ c = 78 ∨ c = 81 ∨ c = 113 := by
  simpa [fixed, or_assoc] using h
theorem whl_back (d : Dir) (n : Int) (hd : fixed d.letter = true) (hf : fit d.letter n = true) (hn : -9223372036854775808 ≤ n ∧ n < 9223372036854775808) :
    whl d (if hi d then (le (sz d.letter) n).reverse else le (sz d.letter) n) = .ok n := by
  have hb := beN_both d n
  have hl : (if hi d then (le (sz d.letter) n).reverse else le (sz d.letter) n).length = sz d.letter := by cases hi d <;> simp [le_lng]
  unfold whl
  simp only [hl]
  generalize (beN (if hi d then (if hi d then (le (sz d.letter) n).reverse else le (sz d.letter) n) else (if hi d then (le (sz d.letter) n).reverse else le (sz d.letter) n).reverse)) = u at *
  obtain ⟨c, b, k⟩ := d
  rcases fixed_cases hd with h | h | h | h | h | h | h | h | h | h <;> subst h <;> simp [fit, sg, sz] at hf hb ⊢
  all_goals first
    | (rw [if_pos (by omega)]; congr 1; omega)
    | (split <;> (congr 1; omega))
    | skip
end Go.Pack

/-
  Plain Lean: groups of 7 bits, and characters, are read back.
-/
namespace Go.Pack

theorem grp_step (g x i : Nat) (c : UInt8) (tail : B) (h : ¬ (i = 0 ∧ c = 128)) (hc : ¬ c < 128) : grp (g + 1) x i (c :: tail) = grp g (x * 128 + c.toNat % 128) (i + 1) tail := by
  conv => lhs; unfold grp
  rw [if_neg h, if_neg hc]
/-- Groups ahead of the last one are read. -/
theorem grp_more : ∀ (f g m x i : Nat) (tail : B), m < 128 ^ f → f ≤ g →
    ∃ k, k ≤ f ∧ (sevR f m).length = k ∧ (1 ≤ m → 1 ≤ k) ∧ grp g x i ((sevR f m).reverse ++ tail) = grp (g - k) (x * 128 ^ k + m) (i + k) tail
  | 0, g, m, x, i, tail, hm, _ => by
    have : m = 0 := by simpa using hm
    subst this
    exact ⟨0, Nat.le_refl _, rfl, fun h => by omega, by simp [sevR]⟩
  | f + 1, g, m, x, i, tail, hm, hg => by
    by_cases h0 : m = 0
    · subst h0
      exact ⟨0, Nat.zero_le _, by simp [sevR], fun h => by omega, by simp [sevR]⟩
    · have hm2 : m / 128 < 128 ^ f := by
        rw [Nat.div_lt_iff_lt_mul (by decide), ← Nat.pow_succ]; exact hm
      obtain ⟨k, hk, hl, h1, he⟩ := grp_more f g (m / 128) x i (UInt8.ofNat (m % 128 + 128) :: tail) hm2 (by omega)
      have hs : sevR (f + 1) m = UInt8.ofNat (m % 128 + 128) :: sevR f (m / 128) := by rw [sevR, if_neg h0]
      refine ⟨k + 1, by omega, by rw [hs, List.length_cons, hl], fun _ => by omega, ?_⟩
      rw [hs, List.reverse_cons, List.append_assoc]
      show grp g x i ((sevR f (m / 128)).reverse ++ (UInt8.ofNat (m % 128 + 128) :: tail)) = _
      rw [he]
      have hc : (UInt8.ofNat (m % 128 + 128)).toNat = m % 128 + 128 := by rw [u8_toNat]; omega
      obtain ⟨g', hg'⟩ : ∃ g', g - k = g' + 1 := ⟨g - k - 1, by omega⟩
      rw [hg', grp_step]
      · rw [hc, show g - (k + 1) = g' by omega, show i + (k + 1) = i + k + 1 by omega]
        congr 1
        rw [Nat.pow_succ, Nat.add_mul, Nat.mul_assoc]
        omega
      · rintro ⟨h2, h3⟩
        rw [← UInt8.toNat_inj, hc] at h3
        have h4 : m % 128 = 0 := by
          have : (128 : UInt8).toNat = 128 := rfl
          omega
        have : 1 ≤ m / 128 := by omega
        have := h1 this
        omega
      · rw [u8_lt, hc]
        show ¬ m % 128 + 128 < 128
        omega
theorem grp_back (n : Nat) (hn : n < 2 ^ 63) (tail : B) : grp 9 0 0 (sevens n ++ tail) = .ok ((n : Int), (sevens n).length) := by
  have h1 : n / 128 < 128 ^ 8 := by
    have : (2 : Nat) ^ 63 = 128 * 128 ^ 8 * 1 := by decide
    omega
  have h2 : sevR 10 (n / 128) = sevR 8 (n / 128) := by
    have key : ∀ (f g m : Nat), m < 128 ^ f → f ≤ g → sevR g m = sevR f m := by
      intro f
      induction f with
      | zero =>
        intro g m hm _
        have : m = 0 := by simpa using hm
        subst this
        cases g <;> simp [sevR]
      | succ f ih =>
        intro g m hm hg
        obtain ⟨g', rfl⟩ : ∃ g', g = g' + 1 := ⟨g - 1, by omega⟩
        unfold sevR
        by_cases h0 : m = 0
        · simp [h0]
        · rw [if_neg h0, if_neg h0, ih g' (m / 128) (by rw [Nat.div_lt_iff_lt_mul (by decide), ← Nat.pow_succ]; exact hm) (by omega)]
    exact key 8 10 _ h1 (by decide)
  unfold sevens
  rw [h2, List.reverse_cons, List.append_assoc]
  obtain ⟨k, hk, hl, h3, he⟩ := grp_more 8 9 (n / 128) 0 0 (UInt8.ofNat (n % 128) :: tail) h1 (by decide)
  show grp 9 0 0 ((sevR 8 (n / 128)).reverse ++ (UInt8.ofNat (n % 128) :: tail)) = _
  rw [he]
  obtain ⟨g', hg'⟩ : ∃ g', 9 - k = g' + 1 := ⟨9 - k - 1, by omega⟩
  have hc : (UInt8.ofNat (n % 128)).toNat = n % 128 := by rw [u8_toNat]; omega
  rw [hg']
  unfold grp
  rw [if_neg, if_pos]
  · rw [hc]
    simp [hl]
    omega
  · rw [u8_lt, hc]
    show n % 128 < 128
    omega
  · rintro ⟨_, h⟩
    rw [← UInt8.toNat_inj, hc] at h
    have : (128 : UInt8).toNat = 128 := rfl
    omega
theorem utf_back (n : Nat) (h : rune (n : Int) = true) (tail : B) : runeD (utf n ++ tail) = some (n, (utf n).length) := by
  simp only [rune, Bool.and_eq_true, Bool.or_eq_true, decide_eq_true_eq] at h
  have l128 : (128 : UInt8).toNat = 128 := rfl
  have l192 : (192 : UInt8).toNat = 192 := rfl
  have l224 : (224 : UInt8).toNat = 224 := rfl
  have l240 : (240 : UInt8).toNat = 240 := rfl
  have l248 : (248 : UInt8).toNat = 248 := rfl
  have ct : ∀ m : Nat, cont (UInt8.ofNat (128 + m % 64)) = true ∧ (UInt8.ofNat (128 + m % 64)).toNat = 128 + m % 64 := fun m => by
    have e : (UInt8.ofNat (128 + m % 64)).toNat = 128 + m % 64 := by rw [u8_toNat]; omega
    refine ⟨?_, e⟩
    simp only [cont, Bool.and_eq_true, decide_eq_true_eq, u8_lt, u8_le, e]
    constructor <;> omega
  unfold utf
  split
  · have e : (UInt8.ofNat n).toNat = n := by rw [u8_toNat]; omega
    simp only [List.cons_append, List.nil_append, runeD, u8_lt, e]
    rw [if_pos (by omega)]
    rfl
  split
  · have e1 : (UInt8.ofNat (192 + n / 64)).toNat = 192 + n / 64 := by rw [u8_toNat]; omega
    obtain ⟨c2, e2⟩ := ct n
    generalize UInt8.ofNat (192 + n / 64) = a at *
    generalize UInt8.ofNat (128 + n % 64) = b at *
    have hn : (a.toNat - 192) * 64 + (b.toNat - 128) = n := by omega
    simp only [List.cons_append, List.nil_append, runeD, c2, hn, Bool.true_and, Bool.and_eq_true, decide_eq_true_eq, u8_lt, u8_le]
    rw [if_neg (by omega), if_pos (by constructor <;> omega), if_pos (by omega)]
    rfl
  split
  · have e1 : (UInt8.ofNat (224 + n / 4096)).toNat = 224 + n / 4096 := by rw [u8_toNat]; omega
    obtain ⟨c2, e2⟩ := ct (n / 64)
    obtain ⟨c3, e3⟩ := ct n
    generalize UInt8.ofNat (224 + n / 4096) = a at *
    generalize UInt8.ofNat (128 + n / 64 % 64) = b at *
    generalize UInt8.ofNat (128 + n % 64) = c at *
    have hn : ((a.toNat - 224) * 64 + (b.toNat - 128)) * 64 + (c.toNat - 128) = n := by omega
    simp only [List.cons_append, List.nil_append, runeD, c2, c3, hn, Bool.true_and, Bool.and_eq_true, Bool.or_eq_true, decide_eq_true_eq, u8_lt, u8_le]
    rw [if_neg (by omega), if_neg (by omega), if_pos (by constructor <;> omega), if_pos ⟨by omega, by omega⟩]
    rfl
  · have e1 : (UInt8.ofNat (240 + n / 262144)).toNat = 240 + n / 262144 := by rw [u8_toNat]; omega
    obtain ⟨c2, e2⟩ := ct (n / 4096)
    obtain ⟨c3, e3⟩ := ct (n / 64)
    obtain ⟨c4, e4⟩ := ct n
    generalize UInt8.ofNat (240 + n / 262144) = a at *
    generalize UInt8.ofNat (128 + n / 4096 % 64) = b at *
    generalize UInt8.ofNat (128 + n / 64 % 64) = c at *
    generalize UInt8.ofNat (128 + n % 64) = d at *
    have hn : (((a.toNat - 240) * 64 + (b.toNat - 128)) * 64 + (c.toNat - 128)) * 64 + (d.toNat - 128) = n := by omega
    simp only [List.cons_append, List.nil_append, runeD, c2, c3, c4, hn, Bool.true_and, Bool.and_eq_true, Bool.or_eq_true, decide_eq_true_eq, u8_lt, u8_le]
    rw [if_neg (by omega), if_neg (by omega), if_neg (by omega), if_pos (by constructor <;> omega), if_pos ⟨by omega, by omega⟩]
    rfl
end Go.Pack

/-
  Plain Lean: forms and items that are read back whole.
-/
namespace Go.Pack

def isNum (c : UInt8) : Bool := fixed c || c == 119 || c == 85
theorem isNum_not {c : UInt8} (h : isNum c = true) : isStr c = false ∧ isPl c = false ∧ (c == 120) = false ∧ (c == 64) = false ∧ (c == 72) = false := by
  simp only [isNum, Bool.or_eq_true, beq_iff_eq] at h
  rcases h with (h | h) | h
  · rcases fixed_cases h with h | h | h | h | h | h | h | h | h | h <;> subst h <;> decide
  · subst h; decide
  · subst h; decide
theorem rdNum_back (d : Dir) (n : Int) (b tail : B) (hd : isNum d.letter = true) (h : numS d n = .ok b) (hn : -9223372036854775808 ≤ n ∧ n < 9223372036854775808) : rdNum d (b ++ tail) = .ok (n, b.length) := by
  unfold numS at h
  unfold rdNum
  split at h
  · rename_i hw
    rw [if_pos hw]
    split at h
    · cases h
    · cases h
      rw [grp_back n.toNat (by omega) tail]
      congr 2
      omega
  rename_i hw
  rw [if_neg hw]
  split at h
  · rename_i hu
    rw [if_pos hu]
    split at h
    · rename_i hr
      cases h
      have hn0 : ((n.toNat : Nat) : Int) = n := by
        simp only [rune, Bool.and_eq_true, decide_eq_true_eq] at hr
        omega
      have hb := utf_back n.toNat (by rw [hn0]; exact hr) tail
      have hne : (utf n.toNat ++ tail).isEmpty = false := by
        unfold utf
        split
        · rfl
        split
        · rfl
        split <;> rfl
      rw [hne, hb]
      simp [hn0]
    · cases h
  rename_i hu
  rw [if_neg hu]
  split at h
  · rename_i hf
    cases h
    have hfx : fixed d.letter = true := by
      simp only [isNum, Bool.or_eq_true] at hd
      rcases hd with (hd | hd) | hd
      · exact hd
      · exact absurd hd hw
      · exact absurd hd hu
    have hl : (if hi d = true then (le (sz d.letter) n).reverse else le (sz d.letter) n).length = sz d.letter := by cases hi d <;> simp [le_lng]
    have hw := whl_back d n hfx hf hn
    generalize (if hi d = true then (le (sz d.letter) n).reverse else le (sz d.letter) n) = b at *
    rw [if_neg (by rw [List.length_append]; omega), ← hl, List.take_left, hw]
  · cases h

/-- Directives, items that fit them, their bytes. -/
inductive Rnd : List Dir → List Item → B → Prop where
  | nil : Rnd [] [] []
  | num {d : Dir} {n : Int} {b : B} {l : List Dir} {is : List Item} {bs : B} (hc : d.count = -2) (hd : isNum d.letter = true) (h : numS d n = .ok b) (hn : -9223372036854775808 ≤ n ∧ n < 9223372036854775808) (k : Rnd l is bs) : Rnd (d :: l) (⟨false, n, []⟩ :: is) (b ++ bs)
  | zed {t : B} {l : List Dir} {is : List Item} {bs : B} (h : t.contains 0 = false) (k : Rnd l is bs) : Rnd (⟨90, false, -1⟩ :: l) (⟨true, 0, t⟩ :: is) (t ++ [0] ++ bs)
  | aa (t : B) : Rnd [⟨97, false, -1⟩] [⟨true, 0, t⟩] t
  | hh {t b : B} (h : hexP t = some b) (hb : hex b = t) (he : t.length % 2 = 0) : Rnd [⟨72, false, -1⟩] [⟨true, 0, t⟩] b
theorem fin_ok {out l : B} {u : Nat} (h : out.length + l.length ≤ 100000) : (if out.length + l.length > 100000 then Except.error 5 else .ok (out ++ l, u) : Except Int (B × Nat)) = .ok (out ++ l, u) := if_neg (by omega)
theorem timesS_one {d : Dir} {items : List Item} {out : B} {used : Nat} {o : B} {u : Nat} (h : oneS d items out used = .ok (o, u)) : timesS d items 1 out used = .ok (o, u) := by
  unfold timesS
  rw [h]
  rfl
theorem run_rnd {l : List Dir} {is : List Item} {bs : B} (h : Rnd l is bs) : ∀ (pre : List Item) (out : B), out.length + bs.length ≤ 100000 → runS (pre ++ is) l out pre.length = .ok (out ++ bs, pre.length + is.length) := by
  induction h with
  | nil => intro pre out _; simp [runS]
  | @num d n b l is bs hc hd h hn k ih =>
    intro pre out hl
    obtain ⟨h1, h2, h3, h4, h5⟩ := isNum_not hd
    have ht : times d ((pre ++ ⟨false, n, []⟩ :: is).length - pre.length) = 1 := by unfold times cntS; rw [h1, h2]; simp [hc]
    have ho : oneS d (pre ++ ⟨false, n, []⟩ :: is) out pre.length = .ok (out ++ b, pre.length + 1) := by
      unfold oneS
      simp only [h3, h4, h1, Bool.false_eq_true, if_false, List.getElem?_append_right (Nat.le_refl _), Nat.sub_self, List.getElem?_cons_zero, bne_self_eq_false, h]
      exact fin_ok (by rw [List.length_append] at hl; omega)
    unfold runS
    rw [ht, timesS_one ho]
    have := ih (pre ++ [⟨false, n, []⟩]) (out ++ b) (by rw [List.length_append] at hl ⊢; omega)
    rw [List.append_assoc, List.length_append] at this
    simp only [List.cons_append, List.nil_append, List.length_cons, List.length_nil] at this ⊢
    rw [this, List.append_assoc]
    congr 2
    omega
  | @zed t l is bs h k ih =>
    intro pre out hl
    have ht : times ⟨90, false, -1⟩ ((pre ++ ⟨true, 0, t⟩ :: is).length - pre.length) = 1 := rfl
    have ho : oneS ⟨90, false, -1⟩ (pre ++ ⟨true, 0, t⟩ :: is) out pre.length = .ok (out ++ (t ++ [0]), pre.length + 1) := by
      unfold oneS
      simp only [show ((90 : UInt8) == 120) = false from rfl, show ((90 : UInt8) == 64) = false from rfl, show isStr 90 = true from rfl, Bool.false_eq_true, if_false, if_true, List.getElem?_append_right (Nat.le_refl _), Nat.sub_self, List.getElem?_cons_zero, bne_self_eq_false]
      exact fin_ok (l := t ++ [0]) (by rw [List.length_append] at hl; omega)
    unfold runS
    rw [ht, timesS_one ho]
    have := ih (pre ++ [(⟨true, 0, t⟩ : Item)]) (out ++ (t ++ [0])) (by rw [List.length_append] at hl ⊢; omega)
    rw [List.append_assoc, List.length_append] at this
    simp only [List.cons_append, List.nil_append, List.length_cons, List.length_nil] at this ⊢
    rw [this, List.append_assoc]
    congr 2
    omega
  | aa t =>
    intro pre out hl
    have ht : times ⟨97, false, -1⟩ ((pre ++ [(⟨true, 0, t⟩ : Item)]).length - pre.length) = 1 := rfl
    have ho : oneS ⟨97, false, -1⟩ (pre ++ [⟨true, 0, t⟩]) out pre.length = .ok (out ++ t, pre.length + 1) := by
      unfold oneS
      simp only [show ((97 : UInt8) == 120) = false from rfl, show ((97 : UInt8) == 64) = false from rfl, show isStr 97 = true from rfl, Bool.false_eq_true, if_false, if_true, List.getElem?_append_right (Nat.le_refl _), Nat.sub_self, List.getElem?_cons_zero, bne_self_eq_false]
      exact fin_ok hl
    unfold runS
    rw [ht, timesS_one ho]
    rfl
  | @hh t b h hb he =>
    intro pre out hl
    have ht : times ⟨72, false, -1⟩ ((pre ++ [(⟨true, 0, t⟩ : Item)]).length - pre.length) = 1 := rfl
    have hx : hexS t.length t = .ok b := by
      unfold hexS hexT
      rw [List.take_length, Nat.sub_self, he, List.replicate_zero, List.append_nil, h]
    have ho : oneS ⟨72, false, -1⟩ (pre ++ [⟨true, 0, t⟩]) out pre.length = .ok (out ++ b, pre.length + 1) := by
      unfold oneS
      simp only [show ((72 : UInt8) == 120) = false from rfl, show ((72 : UInt8) == 64) = false from rfl, show isStr 72 = true from rfl, Bool.false_eq_true, if_false, if_true, List.getElem?_append_right (Nat.le_refl _), Nat.sub_self, List.getElem?_cons_zero, bne_self_eq_false]
      unfold textS
      simp only [show ((72 : UInt8) == 72) = true from rfl, if_true]
      rw [show cntS ⟨72, false, -1⟩ t.length = t.length from rfl, hx]
      exact fin_ok hl
    unfold runS
    rw [ht, timesS_one ho]
    rfl
theorem take_ne (t : B) (bs : B) (h : t.contains 0 = false) : (t ++ [0] ++ bs).takeWhile (· != 0) = t := by
  induction t with
  | nil => rfl
  | cons a t ih =>
    simp only [List.contains_cons, Bool.or_eq_false_iff] at h
    have ha : (a != 0) = true := by
      have := h.1
      simp only [beq_eq_false_iff_ne] at this
      simpa using Ne.symm this
    simp only [List.cons_append, List.takeWhile_cons, ha, if_true]
    rw [ih h.2]
theorem un_rnd {l : List Dir} {is : List Item} {bs : B} (h : Rnd l is bs) : ∀ (whole : B) (out : List Item), unS whole l bs out = .ok (out ++ is) := by
  induction h with
  | nil => intro whole out; simp [unS]
  | @num d n b l is bs hc hd h hn k ih =>
    intro whole out
    obtain ⟨h1, h2, h3, h4, h5⟩ := isNum_not hd
    have hr : numsS d (b ++ bs) = .ok ([n], bs) := by
      unfold numsS cntS
      rw [if_neg (by omega), if_pos hc]
      unfold cntN
      rw [rdNum_back d n b bs hd h hn]
      simp [cntN]
    unfold unS
    simp only [h4, h3, h1, Bool.false_eq_true, if_false, hr]
    rw [ih]
    simp [intI]
  | @zed t l is bs h k ih =>
    intro whole out
    have hc : (t ++ [0] ++ bs).contains 0 = true := by simp
    have hcut : cutS ⟨90, false, -1⟩ (t ++ [0] ++ bs) = (t, t.length + 1) := by
      unfold cutS
      rw [if_neg (by decide), if_pos ⟨rfl, rfl, hc⟩, take_ne t bs h]
    unfold unS
    rw [if_neg (by decide), if_neg (by decide), if_pos (by rfl), hcut]
    have : (t ++ [0] ++ bs).drop (t.length + 1) = bs := by
      rw [show t.length + 1 = (t ++ [0]).length by simp, List.drop_left]
    simp only [this]
    rw [ih]
    simp
  | aa t =>
    intro whole out
    unfold unS
    rw [if_neg (by decide), if_neg (by decide), if_pos (by rfl)]
    have : cutS ⟨97, false, -1⟩ t = (t, t.length) := by
      unfold cutS
      rw [if_neg (by decide), if_neg (by simp)]
      simp [cntS]
    rw [this]
    simp [unS]
  | @hh t b h hb he =>
    intro whole out
    unfold unS
    rw [if_neg (by decide), if_neg (by decide), if_pos (by rfl)]
    have hbl : 2 * b.length = t.length := by
      have hx : ∀ b : B, (hex b).length = 2 * b.length := by
        intro b
        induction b with
        | nil => rfl
        | cons a b ih => simp only [hex, List.length_cons, ih]; omega
      rw [← hb, hx]
    have : cutS ⟨72, false, -1⟩ b = (t, b.length) := by
      unfold cutS
      simp only [show ((72 : UInt8) == 72) = true from rfl, if_true]
      rw [show cntS ⟨72, false, -1⟩ (2 * b.length) = 2 * b.length from rfl, List.take_of_length_le (i := (2 * b.length + 1) / 2) (by omega), hb, hbl, List.take_length]
    rw [this]
    simp [unS]
end Go.Pack

/-
  Plain Lean: two forms one behind the other.
-/
namespace Go.Pack

/-- What ends a count: no sign, no star, no digit ahead. -/
def stop (b : B) : Prop := ∀ c, b.head? = some c → c ≠ 62 ∧ c ≠ 42 ∧ dig c = false
theorem head_app {r b : B} : (r ++ b).head? = if r.isEmpty then b.head? else r.head? := by cases r <;> rfl
theorem tail_app {r b : B} (h : r.isEmpty = false) : (r ++ b).tail = r.tail ++ b := by cases r <;> first | rfl | cases h
theorem takeW_app {b : B} (hb : stop b) : ∀ r : B, (r ++ b).takeWhile dig = r.takeWhile dig ∧ (r ++ b).dropWhile dig = r.dropWhile dig ++ b
  | [] => by
    cases b with
    | nil => exact ⟨rfl, rfl⟩
    | cons c b =>
      have h := (hb c rfl).2.2
      simp [h]
  | c :: r => by
    have ih := takeW_app hb r
    cases h : dig c with
    | true => simp [h, ih.1, ih.2]
    | false => simp [h]
theorem cnt_app {c : UInt8} {r b : B} {x : Int × B} (hb : stop b) (h : cnt c r = some x) : cnt c (r ++ b) = some (x.1, x.2 ++ b) := by
  obtain ⟨h1, h2⟩ := takeW_app hb r
  unfold cnt at h ⊢
  have hh : ((r ++ b).head? == some 42) = (r.head? == some 42) := by
    rw [head_app]
    cases r with
    | nil =>
      cases b with
      | nil => rfl
      | cons c b =>
        have := (hb c rfl).2.1
        simp [this]
    | cons _ _ => rfl
  rw [hh, h1, h2]
  split at h
  · rename_i hs
    have hne : r.isEmpty = false := by cases r <;> first | rfl | simp at hs
    rw [if_pos hs, tail_app hne]
    split at h
    · cases h
    · rename_i hx
      cases h
      rw [if_neg hx]
  rename_i hs
  rw [if_neg hs]
  split at h
  · rename_i he
    cases h
    rw [if_pos he]
  rename_i he
  rw [if_neg he]
  split at h
  · rename_i hf
    cases h
    rw [if_pos hf]
  · cases h
theorem one_app {c : UInt8} {r b : B} {x : Dir × B} (hb : stop b) (h : one c r = some x) : one c (r ++ b) = some (x.1, x.2 ++ b) := by
  unfold one at h ⊢
  have hh : ((r ++ b).head? == some 62) = (r.head? == some 62) := by
    rw [head_app]
    cases r with
    | nil =>
      cases b with
      | nil => rfl
      | cons c b =>
        have := (hb c rfl).1
        simp [this]
    | cons _ _ => rfl
  rw [hh]
  split at h
  · rename_i hl
    rw [if_pos hl]
    split at h
    · rename_i hs
      have hne : r.isEmpty = false := by cases r <;> first | rfl | simp at hs
      rw [if_pos hs, tail_app hne]
      split at h
      · rename_i hg
        rw [if_pos hg]
        cases hc : cnt c r.tail with
        | none => rw [hc] at h; cases h
        | some y => rw [hc] at h; cases h; rw [cnt_app hb hc]; rfl
      · cases h
    · rename_i hs
      rw [if_neg hs]
      cases hc : cnt c r with
      | none => rw [hc] at h; cases h
      | some y => rw [hc] at h; cases h; rw [cnt_app hb hc]; rfl
  · cases h
theorem dirs_app {b : B} (hb : stop b) : ∀ (n : Nat) (a : B) (l : List Dir), a.length ≤ n → dirs a = some l → dirs (a ++ b) = (dirs b).map (l ++ ·)
  | _, [], l, _, h => by
    rw [dirs_nil] at h
    cases h
    show dirs b = _
    cases dirs b <;> rfl
  | 0, _ :: _, _, hn, _ => by simp at hn
  | n + 1, c :: r, l, hn, h => by
    simp only [List.length_cons] at hn
    by_cases h32 : c = 32
    · subst h32
      rw [dirs_space] at h
      rw [List.cons_append, dirs_space]
      exact dirs_app hb n r l (by omega) h
    · rw [dirs_cons h32] at h
      rw [List.cons_append, dirs_cons h32]
      cases ho : one c r with
      | none => rw [ho] at h; cases h
      | some x =>
        have hlen := one_len ho
        rw [ho] at h
        rw [one_app hb ho]
        simp only at h ⊢
        cases hx : dirs x.2 with
        | none => rw [hx] at h; cases h
        | some l' =>
          rw [hx] at h
          cases h
          rw [dirs_app hb n x.2 l' (by omega) hx]
          cases dirs b <;> rfl
theorem stop_letter {c : UInt8} (h : letters.contains c = true) (b : B) : stop (c :: b) := fun d hd => by
  cases hd
  have : ∀ c ∈ letters, c ≠ 62 ∧ c ≠ 42 ∧ dig c = false := by decide
  exact this c (by simpa using h)

/-! ### Packing one behind the other -/
end Go.Pack

/-
  Plain Lean: what two forms write, one behind the other.
-/
namespace Go.Pack

def plainD (d : Dir) : Prop := d.letter ≠ 64 ∧ d.count ≠ -1
end Go.Pack

/-
  Plain Lean: what is packed has its size.
-/
namespace Go.Pack
set_option maxRecDepth 4000
end Go.Pack

/-
  Plain Lean: forms that are put together of directives.
-/
namespace Go.Pack
set_option maxRecDepth 20000
/-- The counts that are written, and what is left of one. -/
def cts : List B := [[], [49], [50], [51], [42], [55], [48], [49, 50]]
def letter18 (k : Nat) : UInt8 := letters.getD k 0
def cntW (k j : Nat) : B := if (cts.getD j [] == [48] && letter18 k != 64) || (cts.getD j [] == [42] && decide (16 ≤ k)) then [] else cts.getD j []
def bigW (g : Bool) (k : Nat) : B := if g && decide (2 ≤ k) && decide (k < 8) then [62] else []
def piece (k : Nat) (g : Bool) (j : Nat) (sp : Bool) : B := letter18 k :: (bigW g k ++ cntW k j ++ if sp then [32] else [])
def pure2 (s : B) : Bool := s.all fun c => c != 64 && c != 42
def pieceOk (k : Nat) (g : Bool) (j : Nat) (sp : Bool) : Bool := match dirs (piece k g j sp) with
  | some [d] => decide (d.count ≤ 12) && (!pure2 (piece k g j sp) || (d.letter != 64 && decide (d.count ≠ -1))) && decide ((piece k g j sp).length ≤ 5) && letters.contains (letter18 k)
  | _ => false
theorem piece_tab : ∀ (k : Fin 18) (g : Bool) (j : Fin 8) (sp : Bool), pieceOk k.val g j.val sp = true := by decide +kernel
structure FormOk (i : Nat) (form : B) (ds : List Dir) : Prop where
  dirs : dirs form = some ds
  len : ds.length = i
  size : form.length ≤ 5 * i
  cnt : ∀ d ∈ ds, d.count ≤ 12
  pl : pure2 form = true → ∀ d ∈ ds, plainD d
theorem FormOk.nil : FormOk 0 [] [] := ⟨by rfl, rfl, Nat.zero_le _, fun _ h => by simp at h, fun _ _ h => by simp at h⟩
theorem FormOk.step {i : Nat} {form : B} {ds : List Dir} (h : FormOk i form ds) (k j : Nat) (g sp : Bool) (hk : k < 18) (hj : j < 8) : ∃ ds', FormOk (i + 1) (form ++ piece k g j sp) ds' := by
  have ht := piece_tab ⟨k, hk⟩ g ⟨j, hj⟩ sp
  unfold pieceOk at ht
  simp only at ht
  split at ht
  · rename_i d hd
    simp only [Bool.and_eq_true, decide_eq_true_eq] at ht
    obtain ⟨⟨⟨h1, h2⟩, h3⟩, h4⟩ := ht
    have hs : stop (piece k g j sp) := stop_letter h4 _
    have ha := dirs_app hs form.length form ds (Nat.le_refl _) h.dirs
    rw [hd] at ha
    refine ⟨ds ++ [d], ha, by rw [List.length_append, h.len]; rfl, by rw [List.length_append]; have := h.size; omega, fun x hx => ?_, fun hp x hx => ?_⟩
    · rcases List.mem_append.1 hx with hx | hx
      · exact h.cnt x hx
      · rw [List.mem_singleton.1 hx]; exact h1
    · have hp2 : pure2 form = true ∧ pure2 (piece k g j sp) = true := by
        unfold pure2 at hp ⊢
        rw [List.all_append, Bool.and_eq_true] at hp
        exact hp
      rcases List.mem_append.1 hx with hx | hx
      · exact h.pl hp2.1 x hx
      · rw [List.mem_singleton.1 hx]
        rw [hp2.2] at h2
        simpa [plainD] using h2
  · cases ht
/-- What short counts write is short. -/
theorem utf_le (n : Nat) : (utf n).length ≤ 4 := by
  unfold utf
  split
  · simp
  split
  · simp
  split <;> simp
theorem numS_11 {d : Dir} {n : Int} {r : B} (h : numS d n = .ok r) : r.length ≤ 11 := by
  unfold numS at h
  split at h
  · split at h
    · cases h
    · cases h
      unfold sevens
      have := sevR_size 10 (n.toNat / 128)
      simp
      omega
  split at h
  · split at h
    · cases h
      have := utf_le n.toNat
      omega
    · cases h
  split at h
  · have hz := sz_le8 d.letter
    cases h
    split <;> simp [le_len] <;> omega
  · cases h
end Go.Pack

/-
  Plain Lean: forms and items that numbers make, such that nothing is cut or filled.
-/
namespace Go.Pack
set_option maxRecDepth 20000
def lets15 : B := [67, 99, 83, 115, 76, 108, 81, 113, 110, 78, 119, 85, 97, 90, 72]
/-- What can stand ahead of a round. -/
def RP (l : List Dir) (is : List Item) (bs : B) : Prop := ∀ l' is' b', Rnd l' is' b' → Rnd (l ++ l') (is ++ is') (bs ++ b')
theorem RP.nil : RP [] [] [] := fun _ _ _ h => h
theorem RP.num {l : List Dir} {is : List Item} {bs : B} {d : Dir} {n : Int} {b : B} (h : RP l is bs) (hc : d.count = -2) (hd : isNum d.letter = true) (hb : numS d n = .ok b) (hn : -9223372036854775808 ≤ n ∧ n < 9223372036854775808) : RP (l ++ [d]) (is ++ [⟨false, n, []⟩]) (bs ++ b) := by
  intro l' is' b' h'
  rw [List.append_assoc, List.append_assoc, List.append_assoc]
  exact h _ _ _ (Rnd.num hc hd hb hn h')
theorem RP.zed {l : List Dir} {is : List Item} {bs : B} {t : B} (h : RP l is bs) (ht : t.contains 0 = false) : RP (l ++ [⟨90, false, -1⟩]) (is ++ [⟨true, 0, t⟩]) (bs ++ (t ++ [0])) := by
  intro l' is' b' h'
  rw [List.append_assoc, List.append_assoc, List.append_assoc]
  exact h _ _ _ (Rnd.zed ht h')
theorem RP.done {l : List Dir} {is : List Item} {bs : B} (h : RP l is bs) : Rnd l is bs := by
  have := h [] [] [] Rnd.nil
  simpa using this
/-- A form and items of numbers, so far. -/
structure RIn (i : Nat) (form : B) (its : List Item) (ds : List Dir) (bs : B) : Prop where
  dirs : dirs form = some ds
  len : ds.length = i
  items : its.length = i
  size : form.length ≤ 2 * i
  out : bs.length ≤ 11 * i
  ok : ∀ x ∈ its, x.text.length ≤ 100 ∧ -9223372036854775808 ≤ x.int ∧ x.int < 9223372036854775808
/-- The last one may be a text that takes all. -/
structure ROut (form : B) (its : List Item) (ds : List Dir) (bs : B) : Prop where
  dirs : dirs form = some ds
  len : ds.length ≤ 31
  items : its.length ≤ 31
  size : form.length ≤ 62
  out : bs.length ≤ 400
  ok : ∀ x ∈ its, x.text.length ≤ 100 ∧ -9223372036854775808 ≤ x.int ∧ x.int < 9223372036854775808
  rnd : Rnd ds its bs
theorem RIn.nil : RIn 0 [] [] [] [] := ⟨by rfl, rfl, rfl, Nat.zero_le _, Nat.zero_le _, fun _ h => by simp at h⟩
def bigP (big : Bool) : B := if big then [62] else []
theorem piece_num : ∀ (k : Fin 12) (big : Bool), (big = true → 2 ≤ k.val ∧ k.val < 8) → Go.Pack.dirs (lets15.getD k.val 0 :: bigP big) = some [⟨lets15.getD k.val 0, big, -2⟩] := by decide +kernel
theorem let_ok : ∀ k : Fin 15, letters.contains (lets15.getD k.val 0) = true := by decide +kernel
theorem RIn.snoc {i : Nat} {form : B} {its : List Item} {ds : List Dir} {bs : B} (h : RIn i form its ds bs) {k : Nat} (hk : k < 15) {tl : B} {d : Dir} (hd : Go.Pack.dirs (lets15.getD k 0 :: tl) = some [d]) (htl : tl.length ≤ 1) (x : Item) (hx : x.text.length ≤ 100 ∧ -9223372036854775808 ≤ x.int ∧ x.int < 9223372036854775808) (b : B) (hb : b.length ≤ 11) :
    RIn (i + 1) (form ++ lets15.getD k 0 :: tl) (its ++ [x]) (ds ++ [d]) (bs ++ b) := by
  have hs : stop (lets15.getD k 0 :: tl) := stop_letter (let_ok ⟨k, hk⟩) _
  have ha := dirs_app hs form.length form ds (Nat.le_refl _) h.dirs
  rw [hd] at ha
  refine ⟨ha, by rw [List.length_append, h.len]; rfl, by rw [List.length_append, h.items]; rfl, ?_, ?_, fun y hy => ?_⟩
  · have := h.size
    rw [List.length_append, List.length_cons]
    omega
  · have := h.out
    rw [List.length_append]
    omega
  · rcases List.mem_append.1 hy with hy | hy
    · exact h.ok y hy
    · rw [List.mem_singleton.1 hy]; exact hx
/-- A number more. -/
theorem RIn.num {i : Nat} {form : B} {its : List Item} {ds : List Dir} {bs : B} (h : RIn i form its ds bs) (hp : RP ds its bs) (k : Nat) (hk : k < 12) (big : Bool) (hbig : big = true → 2 ≤ k ∧ k < 8) (n : Int) (hn : -9223372036854775808 ≤ n ∧ n < 9223372036854775808) (hf : ∃ b, numS ⟨lets15.getD k 0, big, -2⟩ n = .ok b) :
    ∃ ds' bs', RIn (i + 1) (form ++ lets15.getD k 0 :: bigP big) (its ++ [⟨false, n, []⟩]) ds' bs' ∧ RP ds' (its ++ [⟨false, n, []⟩]) bs' := by
  obtain ⟨b, hb⟩ := hf
  have hd := piece_num ⟨k, hk⟩ big hbig
  have hnum : isNum (lets15.getD k 0) = true := (by decide +kernel : ∀ k : Fin 12, isNum (lets15.getD k.val 0) = true) ⟨k, hk⟩
  refine ⟨_, _, h.snoc (by omega) hd (by unfold bigP; split <;> simp) _ ⟨Nat.zero_le _, hn⟩ b (numS_11 hb), hp.num rfl hnum hb hn⟩
/-- A text that ends in 0 more. -/
theorem RIn.zed {i : Nat} {form : B} {its : List Item} {ds : List Dir} {bs : B} (h : RIn i form its ds bs) (hp : RP ds its bs) (t : B) (ht : t.length ≤ 10) (h0 : t.contains 0 = false) :
    ∃ ds' bs', RIn (i + 1) (form ++ [90, 42]) (its ++ [⟨true, 0, t⟩]) ds' bs' ∧ RP ds' (its ++ [⟨true, 0, t⟩]) bs' := by
  have hd : Go.Pack.dirs (lets15.getD 13 0 :: [42]) = some [⟨90, false, -1⟩] := by decide +kernel
  exact ⟨_, _, h.snoc (k := 13) (by omega) hd (by simp) ⟨true, 0, t⟩ ⟨by show t.length ≤ 100; omega, by show (-9223372036854775808 : Int) ≤ 0; decide, by show (0 : Int) < _; decide⟩ (t ++ [0]) (by rw [List.length_append]; simp; omega), hp.zed h0⟩
theorem RIn.done {i : Nat} {form : B} {its : List Item} {ds : List Dir} {bs : B} (h : RIn i form its ds bs) (hi : i ≤ 31) (hr : Rnd ds its bs) : ROut form its ds bs :=
  ⟨h.dirs, by have := h.len; omega, by have := h.items; omega, by have := h.size; omega, by have := h.out; omega, h.ok, hr⟩
/-- Any text at the end. -/
theorem RIn.aa {i : Nat} {form : B} {its : List Item} {ds : List Dir} {bs : B} (h : RIn i form its ds bs) (hp : RP ds its bs) (hi : i ≤ 30) (t : B) (ht : t.length ≤ 11) :
    ∃ ds' bs', ROut (form ++ [97, 42]) (its ++ [⟨true, 0, t⟩]) ds' bs' := by
  have hd : Go.Pack.dirs (lets15.getD 12 0 :: [42]) = some [⟨97, false, -1⟩] := by decide +kernel
  exact ⟨_, _, (h.snoc (k := 12) (by omega) hd (by simp) ⟨true, 0, t⟩ ⟨by show t.length ≤ 100; omega, by show (-9223372036854775808 : Int) ≤ 0; decide, by show (0 : Int) < _; decide⟩ t ht).done (by omega) (hp _ _ _ (Rnd.aa t))⟩
/-- Hex digits at the end. -/
theorem RIn.hh {i : Nat} {form : B} {its : List Item} {ds : List Dir} {bs : B} (h : RIn i form its ds bs) (hp : RP ds its bs) (hi : i ≤ 30) (t b : B) (ht : t.length ≤ 11) (hb : b.length ≤ 11) (h1 : hexP t = some b) (h2 : hex b = t) (h3 : t.length % 2 = 0) :
    ∃ ds' bs', ROut (form ++ [72, 42]) (its ++ [⟨true, 0, t⟩]) ds' bs' := by
  have hd : Go.Pack.dirs (lets15.getD 14 0 :: [42]) = some [⟨72, false, -1⟩] := by decide +kernel
  exact ⟨_, _, (h.snoc (k := 14) (by omega) hd (by simp) ⟨true, 0, t⟩ ⟨by show t.length ≤ 100; omega, by show (-9223372036854775808 : Int) ≤ 0; decide, by show (0 : Int) < _; decide⟩ b hb).done (by omega) (hp _ _ _ (Rnd.hh h1 h2 h3))⟩
/-- Pack and Unpack of such. -/
theorem ROut.pack {form : B} {its : List Item} {ds : List Dir} {bs : B} (h : ROut form its ds bs) : packS form its = .ok (bs, its.length) ∧ unpackS form bs = .ok its := by
  have hf : forms form = some ds := by
    unfold forms
    rw [h.dirs]
    simp only [show ds.length ≤ 50 from Nat.le_trans h.len (by decide), if_true]
  refine ⟨?_, ?_⟩
  · unfold packS
    rw [hf]
    have := run_rnd h.rnd [] [] (by have := h.out; simp; omega)
    simpa using this
  · unfold unpackS
    rw [hf]
    have := un_rnd h.rnd bs []
    simpa using this
end Go.Pack
