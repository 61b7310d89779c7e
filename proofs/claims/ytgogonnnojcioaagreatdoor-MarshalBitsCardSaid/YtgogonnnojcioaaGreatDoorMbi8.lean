/-
  Lemmas (MD5 MC6 MC8 MD6 MC9 MC10 MC11 MC12 MC13 MD8 MP20 MD9 Ax54 D2 G1 MD10 MD7 Ax60 MC14).
-/
import Derived.Test.YtgogonnnojcioaaGreatDoorMbi7
set_option linter.unusedVariables false
set_option linter.unusedSimpArgs false
namespace Go.Proofs.YtgogonnnojcioaaGreatDoor
open Go.AX Go.RowKit Go.Core Go.Marshal
set_option maxRecDepth 20000
def ddE (rb : Nat) (S : List UInt8) (gv cv sv : Value) (st : PS) : List Ent :=
 [.app 109 6 [.string (bs S), .int .i64 ((S.length - st.s.length : Nat) : Int), gv, cv, sv, .int .i64 st.e] (some ⟨rb, 0, none⟩) 1 1]
theorem ddE_ok (rb : Nat) (S : List UInt8) (gv cv sv : Value) (st : PS) : okH (ddE rb S gv cv sv st).length (ddE rb S gv cv sv st) := okHB_eq rfl
def Left (S : List UInt8) (st : PS) : Prop := ∃ u, S = u ++ st.s
theorem fail_r (rb : Nat) (S : List UInt8) (gv cv sv : Value) (st : PS) (e : Int) : SpecH Tryz.prog 85 [.c (.v (.pointer (some ⟨rb, 0, none⟩))), .c (.v (.int .i64 e))] (ddE rb S gv cv sv st) (RetG (ι := Unit) (fun _ => True) (fun _ => .tuple #[]) fun _ => ddE rb S gv cv sv (failM st e)) := by
 refine ownC hm Tryz.func85 (by kernel_rfl) rfl rfl (fun _ _ => ddE_ok _ _ _ _ _ _) (fun _ _ => Nat.le_refl _) ?_
 refine wX ?_
 refine LdN.one (a := some ⟨rb, 0, none⟩) (q := 5) (.int .i64 st.e) rfl (fun w hw => hw.1) rfl ?_
 refine wX ?_
 refine brd_eq (fun h => ?_) (fun h => ?_)
 ·have e0 : failM st e = { st with e := e } := by unfold failM; rw [if_pos (by simpa using h)]
  rw [e0]
  refine wX ?_
  refine EffW.appTo (i := 0) (q := 5) (ys := [_]) [.string (bs S), .int .i64 ((S.length - st.s.length : Nat) : Int), gv, cv, sv, .int .i64 e] 6 rfl rfl rfl rfl rfl rfl rfl (Nat.le_of_ble_eq_true rfl) rfl rfl ?_
  refine wX ?_
  exact ⟨(), trivial, rfl, wkH_refl _⟩
 ·have e0 : failM st e = st := by unfold failM; rw [if_neg (by simpa using h)]
  rw [e0]
  refine wX ?_
  exact ⟨(), trivial, rfl, wkH_refl _⟩
theorem next_r (rb : Nat) (S : List UInt8) (hS : S.length ≤ 1000000) (gv cv sv : Value) (st : PS) (hl : Left S st) : SpecH Tryz.prog 84 [.c (.v (.pointer (some ⟨rb, 0, none⟩)))] (ddE rb S gv cv sv st) (RetG (ι := Unit) (fun _ => True) (fun _ => .int .u8 ((nextM st).1.toNat : Int)) fun _ => ddE rb S gv cv sv (nextM st).2) := by
 refine ownC hm Tryz.func84 (by kernel_rfl) rfl rfl (fun _ _ => ddE_ok _ _ _ _ _ _) (fun _ _ => Nat.le_refl _) ?_
 have hsz := bs_size S
 by_cases he : st.e = 0
 ·obtain ⟨s, g, cells, ss, e⟩ := st
  simp only at he
  subst he
  obtain ⟨u, hu⟩ := hl
  simp only at hu
  have hul : S.length = u.length + s.length := by rw [hu, List.length_append]
  refine wX ?_
  refine LdN.one (a := some ⟨rb, 0, none⟩) (q := 5) (.int .i64 0) rfl (fun w hw => hw.1) rfl ?_
  refine wX ?_
  refine LdN.one (a := some ⟨rb, 0, none⟩) (q := 1) (.int .i64 ((S.length - s.length : Nat) : Int)) rfl (fun w hw => hw.1) rfl ?_
  refine wX ?_
  refine LdN.one (a := some ⟨rb, 0, none⟩) (q := 0) (.string (bs S)) rfl (fun w hw => hw.1) rfl ?_
  refine wX ?_
  refine brd_dec (fun h1 => ?_) (fun h1 => ?_)
  ·have hs0 : s = [] := List.eq_nil_of_length_eq_zero (by rw [hsz] at h1; omega)
   subst hs0
   refine wX ?_
   refine callG (fail_r rb S gv cv sv ⟨[], g, cells, ss, 0⟩ 14) [0] rfl ⟨rfl, trivial⟩ rfl fun _ _ => ?_
   refine wX ?_
   exact ⟨(), trivial, rfl, wkH_refl _⟩
  ·cases s with
   | nil => exact absurd (by rw [hsz, List.length_nil, Nat.sub_zero]; exact Int.le_refl _) h1
   | cons x s =>
    have hat : S.length - (x :: s).length = u.length := by omega
    have hat2 : S.length - s.length = u.length + 1 := by rw [List.length_cons] at hul; omega
    have hby : byteAt (bs S) u.length = (x.toNat : Int) := by rw [hu]; simp [byteAt, bs]
    rw [hat]
    refine wX ?_
    refine LdN.one (a := some ⟨rb, 0, none⟩) (q := 1) (.int .i64 ((S.length - (x :: s).length : Nat) : Int)) rfl (fun w hw => hw.1) rfl ?_
    rw [hat]
    refine wX ?_
    refine EffW.appTo (i := 0) (q := 1) (ys := [_]) [.string (bs S), .int .i64 ((S.length - s.length : Nat) : Int), gv, cv, sv, .int .i64 0] 6 rfl rfl rfl rfl rfl rfl rfl (Nat.le_of_ble_eq_true rfl) ?_ rfl ?_
    ·rw [hat2, wrap_i64 (by omega)]
     rfl
    refine wX ?_
    refine LdN.one (a := some ⟨rb, 0, none⟩) (q := 0) (.string (bs S)) rfl (fun w hw => hw.1) rfl ?_
    refine wX ?_
    refine LdN.one (a := some ⟨rb, 0, none⟩) (q := 1) (.int .i64 ((S.length - s.length : Nat) : Int)) rfl (fun w hw => hw.1) rfl ?_
    refine wX ?_
    have hix : IntKind.i64.wrap (((S.length - s.length : Nat) : Int) - 1) = (u.length : Int) := by rw [hat2, wrap_i64 (by omega)]; omega
    rw [hix]
    refine Nd.mk ⟨by omega, by rw [hsz, hul]; simp; omega⟩ ?_
    refine wX ?_
    rw [Int.toNat_natCast, hby]
    exact ⟨(), trivial, rfl, wkH_refl _⟩
 ·have e0 : nextM st = (0, st) := by unfold nextM; rw [if_pos he]
  rw [e0]
  refine wX ?_
  refine LdN.one (a := some ⟨rb, 0, none⟩) (q := 5) (.int .i64 st.e) rfl (fun w hw => hw.1) rfl ?_
  refine wX ?_
  refine brd_ne (fun _ => ?_) (fun h => absurd h he)
  refine wX ?_
  exact ⟨(), trivial, rfl, wkH_refl _⟩
structure RdP where
 m : List CellP
 ga : Option Addr
 gc : Nat
 ca : Option Addr
 cc : Nat
 sa : Option Addr
 sc : Nat
def rdC (st : PS) (p : RdP) : List Value := [.string (bs st.s), .slice p.ga p.m.length p.gc, .slice p.ca st.cells.length p.cc, .slice p.sa st.ss.length p.sc, .int .i64 st.e]
def rdE (rb : Nat) (st : PS) (p : RdP) : List Ent :=
 [.app 84 5 (rdC st p) (some ⟨rb, 0, none⟩) 1 1, .app 57 5 (grC p.m) p.ga p.m.length p.gc, .fact (fun w => ∀ q ∈ p.m, CellF q w), .app 3 1 (iC st.cells) p.ca st.cells.length p.cc, .app 9 1 (strC st.ss) p.sa st.ss.length p.sc]
theorem rdE_ok (rb : Nat) (st : PS) (p : RdP) : okH (rdE rb st p).length (rdE rb st p) := okHB_eq rfl
theorem fail_m (rb : Nat) (st : PS) (p : RdP) (e : Int) : SpecH Tryz.prog 63 [.c (.v (.pointer (some ⟨rb, 0, none⟩))), .c (.v (.int .i64 e))] (rdE rb st p) (RetG (ι := Unit) (fun _ => True) (fun _ => .tuple #[]) fun _ => rdE rb (failM st e) p) := by
 refine ownC hm Tryz.func63 (by kernel_rfl) rfl rfl (fun _ _ => rdE_ok _ _ _) (fun _ _ => Nat.le_refl _) ?_
 refine wX ?_
 refine LdN.one (a := some ⟨rb, 0, none⟩) (q := 4) (.int .i64 st.e) rfl (fun w hw => hw.1) rfl ?_
 refine wX ?_
 refine brd_eq (fun h => ?_) (fun h => ?_)
 ·have e0 : failM st e = { st with e := e } := by unfold failM; rw [if_pos (by simpa using h)]
  rw [e0]
  refine wX ?_
  refine EffW.appTo (i := 0) (q := 4) (ys := [_]) (rdC ({ st with e := e }) p) 5 rfl rfl rfl rfl rfl rfl rfl (Nat.le_of_ble_eq_true rfl) rfl rfl ?_
  refine wX ?_
  exact ⟨(), trivial, rfl, wkH_refl _⟩
 ·have e0 : failM st e = st := by unfold failM; rw [if_neg (by simpa using h)]
  rw [e0]
  refine wX ?_
  exact ⟨(), trivial, rfl, wkH_refl _⟩
theorem fail_mD (rb : Nat) (st : PS) (p : RdP) (h : st.e ≠ 0) (e : Int) : failM st e = st := by unfold failM; rw [if_neg h]
theorem next_m (rb : Nat) (st : PS) (p : RdP) : SpecH Tryz.prog 62 [.c (.v (.pointer (some ⟨rb, 0, none⟩)))] (rdE rb st p) (RetG (ι := Unit) (fun _ => True) (fun _ => .int .u8 ((nextM st).1.toNat : Int)) fun _ => rdE rb (nextM st).2 p) := by
 refine ownC hm Tryz.func62 (by kernel_rfl) rfl rfl (fun _ _ => rdE_ok _ _ _) (fun _ _ => Nat.le_refl _) ?_
 by_cases he : st.e = 0
 ·obtain ⟨s, g, cells, ss, e⟩ := st
  simp only at he
  subst he
  refine wX ?_
  refine LdN.one (a := some ⟨rb, 0, none⟩) (q := 4) (.int .i64 0) rfl (fun w hw => hw.1) rfl ?_
  refine wX ?_
  refine LdN.one (a := some ⟨rb, 0, none⟩) (q := 0) (.string (bs s)) rfl (fun w hw => hw.1) rfl ?_
  cases s with
  | nil =>
   refine wX ?_
   refine callG (fail_m rb ⟨[], g, cells, ss, 0⟩ p 14) [0, 1, 2, 3, 4] rfl ⟨rfl, rfl, rfl, rfl, rfl, trivial⟩ rfl fun _ _ => ?_
   refine wX ?_
   exact ⟨(), trivial, rfl, wkH_refl _⟩
  | cons x s =>
   refine wX ?_
   refine LdN.one (a := some ⟨rb, 0, none⟩) (q := 0) (.string (bs (x :: s))) rfl (fun w hw => hw.1) rfl ?_
   refine wX ?_
   have hz : 0 < (bs (x :: s)).size := by rw [bs_size]; exact Nat.succ_pos _
   refine Nd.mk ⟨Int.le_refl _, by omega⟩ ?_
   refine wX ?_
   refine LdN.one (a := some ⟨rb, 0, none⟩) (q := 0) (.string (bs (x :: s))) rfl (fun w hw => hw.1) rfl ?_
   refine wX ?_
   refine ReadW.str_l rfl (by kernel_rfl) rfl rfl ⟨by decide, by omega⟩ ?_
   have e1 : (bs (x :: s)).extract (Int.toNat 1) (bs (x :: s)).size = bs s := by rw [bs_size]; exact bs_drop (x :: s) 1
   have e2 : byteAt (bs (x :: s)) (Int.toNat 0) = (x.toNat : Int) := rfl
   rw [e1, e2]
   refine wX ?_
   refine EffW.appTo (i := 0) (q := 0) (ys := [_]) (rdC (⟨s, g, cells, ss, 0⟩) p) 5 rfl rfl rfl rfl rfl rfl rfl (Nat.le_of_ble_eq_true rfl) rfl rfl ?_
   refine wX ?_
   exact ⟨(), trivial, rfl, wkH_refl _⟩
 ·have e0 : nextM st = (0, st) := by unfold nextM; rw [if_pos he]
  rw [e0]
  refine wX ?_
  refine LdN.one (a := some ⟨rb, 0, none⟩) (q := 4) (.int .i64 st.e) rfl (fun w hw => hw.1) rfl ?_
  refine wX ?_
  rw [show (st.e != 0) = true by simpa using he]
  refine wX ?_
  refine callG (fail_m rb st p 14) [0, 1, 2, 3, 4] rfl ⟨rfl, rfl, rfl, rfl, rfl, trivial⟩ rfl fun _ _ => ?_
  rw [fail_mD rb st p he]
  refine wX ?_
  exact ⟨(), trivial, rfl, wkH_refl _⟩
theorem rdF_cons (most i n : Nat) (x : UInt8) (s : List UInt8) : rdF most i n (x :: s) = if i = 0 ∧ x = 128 ∨ 9 ≤ i then .error 4 else if x.toNat < 128 then (if n * 128 + x.toNat % 128 ≤ most then .ok (n * 128 + x.toNat % 128, s) else .error 4) else rdF most (i + 1) (n * 128 + x.toNat % 128) s := by
 conv => lhs; unfold rdF
theorem rdQ_cons (i : Nat) (x : UInt8) (s : List UInt8) : rdQ i (x :: s) = if i = 0 ∧ x = 128 ∨ 9 ≤ i then s else if x.toNat < 128 then s else rdQ (i + 1) s := by
 conv => lhs; unfold rdQ
theorem and127 (x : UInt8) : IntKind.u8.wrap ((BitVec.ofInt IntKind.u8.bits (x.toNat : Int) &&& BitVec.ofInt IntKind.u8.bits 127).toNat : Int) = ((x.toNat % 128 : Nat) : Int) := by
 show IntKind.u8.wrap ((BitVec.ofInt 8 (x.toNat : Int) &&& BitVec.ofInt 8 127).toNat : Int) = _
 have hx := x.toNat_lt
 rw [BitVec.toNat_and, BitVec.toNat_ofInt, BitVec.toNat_ofInt]
 have e1 : ((x.toNat : Int) % ((2 ^ 8 : Nat) : Int)).toNat = x.toNat := by omega
 have e2 : ((127 : Int) % ((2 ^ 8 : Nat) : Int)).toNat = 2 ^ 7 - 1 := by decide
 rw [e1, e2, Nat.and_two_pow_sub_one_eq_mod]
 rw [wrap_u8 (by omega)]
theorem step7 (n c : Nat) (hn : n < 72057594037927936) (hc : c < 128) : IntKind.i64.wrap ((BitVec.ofInt IntKind.i64.bits (IntKind.i64.wrap ((n : Int) * 2 ^ min (Int.toNat 7) IntKind.i64.bits)) ||| BitVec.ofInt IntKind.i64.bits (IntKind.i64.wrap (c : Int))).toNat : Int) = ((n * 128 + c : Nat) : Int) := by
 rw [show (2 : Int) ^ min (Int.toNat 7) IntKind.i64.bits = 128 from rfl, wrap_i64 (x := (n : Int) * 128) (by omega), wrap_i64 (x := (c : Int)) (by omega)]
 show IntKind.i64.wrap ((BitVec.ofInt 64 ((n : Int) * 128) ||| BitVec.ofInt 64 (c : Int)).toNat : Int) = _
 rw [BitVec.toNat_or, BitVec.toNat_ofInt, BitVec.toNat_ofInt]
 have e1 : (((n : Int) * 128) % ((2 ^ 64 : Nat) : Int)).toNat = n * 128 := by omega
 have e2 : ((c : Int) % ((2 ^ 64 : Nat) : Int)).toNat = c := by omega
 rw [e1, e2]
 have := Nat.shiftLeft_add_eq_or_of_lt (b := c) (i := 7) (by omega) n
 rw [Nat.shiftLeft_eq] at this
 rw [show n * 128 = n * 2 ^ 7 from rfl, ← this, wrap_i64 (by omega)]
theorem next_cons (rb : Nat) (x : UInt8) (s : List UInt8) (g : List Cell) (cells : List Int) (ss : List (List UInt8)) (p : RdP) : SpecH Tryz.prog 62 [.c (.v (.pointer (some ⟨rb, 0, none⟩)))] (rdE rb ⟨x :: s, g, cells, ss, 0⟩ p) (RetG (ι := Unit) (fun _ => True) (fun _ => .int .u8 (x.toNat : Int)) fun _ => rdE rb ⟨s, g, cells, ss, 0⟩ p) :=
 next_m rb ⟨x :: s, g, cells, ss, 0⟩ p
theorem number_m (rb : Nat) (st : PS) (p : RdP) (most : Nat) (hm2 : most ≤ 2000000000000000) : SpecH Tryz.prog 87 [.c (.v (.pointer (some ⟨rb, 0, none⟩))), .c (.v (.int .i64 (most : Int)))] (rdE rb st p) (RetG (ι := Unit) (fun _ => True) (fun _ => .int .i64 ((numM most st).1 : Int)) fun _ => rdE rb (numM most st).2 p) := by
  refine ownC hm Tryz.func87 (by kernel_rfl) rfl rfl (fun _ _ => rdE_ok _ _ _) (fun _ _ => Nat.le_refl _) ?_
  by_cases he : st.e = 0
  · obtain ⟨s0, g, cells, ss, e⟩ := st
    simp only at he
    subst he
    refine wX ?_
    refine LoopN.intro (Nat × Nat × List UInt8) (fun ⟨i, n, s⟩ => rdF most i n s = rdF most 0 0 s0 ∧ rdQ i s = rdQ 0 s0 ∧ i ≤ 9 ∧ n < 128 ^ i)
      (fun ⟨i, n, _⟩ => mkS Tryz.f87.ntmps 0 [(0, .c (.v (.pointer (some ⟨rb, 0, none⟩)))), (1, .c (.v (.int .i64 (most : Int)))), (4, .c (.v (.int .i64 0))), (5, .c (.v (.int .i64 (n : Int)))), (6, .c (.v (.int .i64 (i : Int))))])
      (fun ⟨_, _, s⟩ => rdE rb ⟨s, g, cells, ss, 0⟩ p) (fun ⟨_, _, s⟩ => s.length) [] rfl
      (fun _ => rfl) (fun _ => rfl) (fun _ _ => rdE_ok _ _ _) ⟨(0, 0, s0), ⟨rfl, rfl, by omega, by omega⟩, ?_, wkH_refl _⟩ ?_
    · exact wKK
    rintro ⟨i, n, s⟩ ⟨h1, h2, h3, h4⟩
    have hn : n < 9223372036854775808 := Nat.lt_of_lt_of_le h4 (Nat.le_trans (Nat.pow_le_pow_right (by decide) h3) (by decide))
    cases s with
    | nil =>
      refine wX ?_
      refine callG (next_m rb ⟨[], g, cells, ss, 0⟩ p) [0, 1, 2, 3, 4] rfl ⟨rfl, rfl, rfl, rfl, rfl, trivial⟩ rfl fun _ _ => ?_
      have e0 : numM most ⟨s0, g, cells, ss, 0⟩ = (0, ⟨[], g, cells, ss, 14⟩) := by
        unfold numM rd
        rw [if_neg (by show ¬ (0 : Int) ≠ 0; decide)]
        simp only
        rw [← h1, ← h2]
        rfl
      rw [e0]
      refine wX ?_
      refine LdN.one (a := some ⟨rb, 0, none⟩) (q := 4) (.int .i64 14) rfl (fun w hw => hw.1) rfl ?_
      refine wX ?_
      exact ⟨(), trivial, rfl, wkH_refl _⟩
    | cons x s =>
      have hx128 : ((x.toNat : Int) == 128) = decide (x = 128) := by
        by_cases h : x = 128
        · subst h; rfl
        · rw [decide_eq_false h, beq_eq_false_iff_ne]
          intro h5
          exact h (UInt8.toNat_inj.1 (by have : x.toNat = 128 := by omega
                                         rw [this]; rfl))
      have bad : (i = 0 ∧ x = 128 ∨ 9 ≤ i) → numM most ⟨s0, g, cells, ss, 0⟩ = (0, ⟨s, g, cells, ss, 4⟩) := by
        intro hb
        unfold numM rd
        rw [if_neg (by show ¬ (0 : Int) ≠ 0; decide)]
        simp only
        rw [← h1, ← h2]
        unfold rdF rdQ
        rw [if_pos hb, if_pos hb]
      refine wX ?_
      refine callG (next_cons rb x s g cells ss p) [0, 1, 2, 3, 4] rfl ⟨rfl, rfl, rfl, rfl, rfl, trivial⟩ rfl fun _ _ => ?_
      refine wX ?_
      refine LdN.one (a := some ⟨rb, 0, none⟩) (q := 4) (.int .i64 0) rfl (fun w hw => hw.1) rfl ?_
      refine wX ?_
      by_cases hb : i = 0 ∧ x = 128 ∨ 9 ≤ i
      · rw [bad hb]
        rcases hb with ⟨rfl, rfl⟩ | hb
        · refine wX ?_
          refine callG (fail_m rb ⟨s, g, cells, ss, 0⟩ p 4) [0, 1, 2, 3, 4] rfl ⟨rfl, rfl, rfl, rfl, rfl, trivial⟩ rfl fun _ _ => ?_
          refine wX ?_
          exact ⟨(), trivial, rfl, wkH_refl _⟩
        · obtain rfl : i = 9 := by omega
          refine wX ?_
          refine callG (fail_m rb ⟨s, g, cells, ss, 0⟩ p 4) [0, 1, 2, 3, 4] rfl ⟨rfl, rfl, rfl, rfl, rfl, trivial⟩ rfl fun _ _ => ?_
          refine wX ?_
          exact ⟨(), trivial, rfl, wkH_refl _⟩
      · have f1 := h1
        have f2 := h2
        rw [rdF_cons, if_neg hb] at f1
        rw [rdQ_cons, if_neg hb] at f2
        have hi8 : i ≤ 8 := by omega
        have hn56 : n < 72057594037927936 := Nat.lt_of_lt_of_le h4 (Nat.le_trans (Nat.pow_le_pow_right (by decide) hi8) (by decide))
        by_cases hi : i = 0
        · subst hi
          have hx : x ≠ 128 := fun h => hb (.inl ⟨rfl, h⟩)
          refine wX ?_
          rw [hx128, decide_eq_false hx]
          refine wX ?_
          rw [and127, step7 n (x.toNat % 128) hn56 (Nat.mod_lt _ (by decide))]
          refine brd_dec (fun h5 => ?_) (fun h5 => ?_)
          · have h6 : x.toNat < 128 := by omega
            rw [if_pos h6] at f1 f2
            refine wX ?_
            refine brd_dec (fun h7 => ?_) (fun h7 => ?_)
            · have e0 : numM most ⟨s0, g, cells, ss, 0⟩ = (0, ⟨s, g, cells, ss, 4⟩) := by
                unfold numM rd
                rw [if_neg (by show ¬ (0 : Int) ≠ 0; decide)]
                simp only
                rw [← f1, ← f2, if_neg (by omega)]
              rw [e0]
              refine wX ?_
              refine callG (fail_m rb ⟨s, g, cells, ss, 0⟩ p 4) [0, 1, 2, 3, 4] rfl ⟨rfl, rfl, rfl, rfl, rfl, trivial⟩ rfl fun _ _ => ?_
              refine wX ?_
              exact ⟨(), trivial, rfl, wkH_refl _⟩
            · have e0 : numM most ⟨s0, g, cells, ss, 0⟩ = (n * 128 + x.toNat % 128, ⟨s, g, cells, ss, 0⟩) := by
                unfold numM rd
                rw [if_neg (by show ¬ (0 : Int) ≠ 0; decide)]
                simp only
                rw [← f1, ← f2, if_pos (by omega)]
              rw [e0]
              refine wX ?_
              exact ⟨(), trivial, rfl, wkH_refl _⟩
          · have h6 : ¬ x.toNat < 128 := by omega
            rw [if_neg h6] at f1 f2
            refine wX ?_
            refine ⟨(0 + 1, n * 128 + x.toNat % 128, s), ⟨f1, f2, by omega, by have h9 : n + 1 ≤ 128 ^ 0 := h4; rw [Nat.pow_succ]; have := Nat.mul_le_mul_right 128 h9; omega⟩, by show s.length < s.length + 1; omega, ?_, wHH⟩
            exact wKK
        · refine wX ?_
          rw [show ((i : Int) == 0) = false by rw [beq_eq_false_iff_ne]; omega]
          refine wX ?_
          rw [show ((i : Int) == 9) = false by rw [beq_eq_false_iff_ne]; omega]
          refine wX ?_
          rw [and127, step7 n (x.toNat % 128) hn56 (Nat.mod_lt _ (by decide))]
          refine brd_dec (fun h5 => ?_) (fun h5 => ?_)
          · have h6 : x.toNat < 128 := by omega
            rw [if_pos h6] at f1 f2
            refine wX ?_
            refine brd_dec (fun h7 => ?_) (fun h7 => ?_)
            · have e0 : numM most ⟨s0, g, cells, ss, 0⟩ = (0, ⟨s, g, cells, ss, 4⟩) := by
                unfold numM rd
                rw [if_neg (by show ¬ (0 : Int) ≠ 0; decide)]
                simp only
                rw [← f1, ← f2, if_neg (by omega)]
              rw [e0]
              refine wX ?_
              refine callG (fail_m rb ⟨s, g, cells, ss, 0⟩ p 4) [0, 1, 2, 3, 4] rfl ⟨rfl, rfl, rfl, rfl, rfl, trivial⟩ rfl fun _ _ => ?_
              refine wX ?_
              exact ⟨(), trivial, rfl, wkH_refl _⟩
            · have e0 : numM most ⟨s0, g, cells, ss, 0⟩ = (n * 128 + x.toNat % 128, ⟨s, g, cells, ss, 0⟩) := by
                unfold numM rd
                rw [if_neg (by show ¬ (0 : Int) ≠ 0; decide)]
                simp only
                rw [← f1, ← f2, if_pos (by omega)]
              rw [e0]
              refine wX ?_
              exact ⟨(), trivial, rfl, wkH_refl _⟩
          · have h6 : ¬ x.toNat < 128 := by omega
            rw [if_neg h6] at f1 f2
            refine wX ?_
            refine ⟨(i + 1, n * 128 + x.toNat % 128, s), ⟨f1, f2, by omega, by have h9 : n + 1 ≤ 128 ^ i := h4; rw [Nat.pow_succ]; have := Nat.mul_le_mul_right 128 h9; omega⟩, by show s.length < s.length + 1; omega, ?_, wHH⟩
            exact wKK
  · rw [num_dead he]
    refine wX ?_
    refine LoopN.unroll 1 ?_
    refine wX ?_
    refine callG (next_m rb st p) [0, 1, 2, 3, 4] rfl ⟨rfl, rfl, rfl, rfl, rfl, trivial⟩ rfl fun _ _ => ?_
    rw [next_dead he]
    refine wX ?_
    refine LdN.one (a := some ⟨rb, 0, none⟩) (q := 4) (.int .i64 st.e) rfl (fun w hw => hw.1) rfl ?_
    refine wX ?_
    refine brd_ne (fun _ => ?_) (fun h => absurd h he)
    refine wX ?_
    exact ⟨(), trivial, rfl, wkH_refl _⟩
theorem step128 (n c : Nat) (hn : n < 72057594037927936) : IntKind.i64.wrap (IntKind.i64.wrap ((n : Int) * 128) + IntKind.i64.wrap (((c : Nat) : Int).tmod 128)) = ((n * 128 + c % 128 : Nat) : Int) := by
 rw [Int.tmod_eq_emod_of_nonneg (by omega), wrap_i64 (x := (n : Int) * 128) (by omega), wrap_i64 (x := (c : Int) % 128) (by omega), wrap_i64 (by omega)]
 omega
theorem number_rd (rb : Nat) (S : List UInt8) (hS : S.length ≤ 1000000) (gv cv sv : Value) (st : PS) (hl : Left S st) (most : Nat) : SpecH Tryz.prog 98 [.c (.v (.pointer (some ⟨rb, 0, none⟩))), .c (.v (.int .i64 (most : Int)))] (ddE rb S gv cv sv st) (RetG (ι := Unit) (fun _ => True) (fun _ => .int .i64 ((numM most st).1 : Int)) fun _ => ddE rb S gv cv sv (numM most st).2) := by
  refine ownC hm Tryz.func98 (by kernel_rfl) rfl rfl (fun _ _ => ddE_ok _ _ _ _ _ _) (fun _ _ => Nat.le_refl _) ?_
  by_cases he : st.e = 0
  · obtain ⟨s0, g, cells, ss, e⟩ := st
    simp only at he
    subst he
    refine wX ?_
    refine LoopN.intro (Nat × Nat × List UInt8) (fun ⟨i, n, s⟩ => rdF most i n s = rdF most 0 0 s0 ∧ rdQ i s = rdQ 0 s0 ∧ i ≤ 9 ∧ n < 128 ^ i ∧ ∃ u, S = u ++ s)
      (fun ⟨i, n, _⟩ => mkS Tryz.f98.ntmps 0 [(0, .c (.v (.pointer (some ⟨rb, 0, none⟩)))), (1, .c (.v (.int .i64 (most : Int)))), (4, .c (.v (.int .i64 0))), (5, .c (.v (.int .i64 (n : Int)))), (6, .c (.v (.int .i64 (i : Int))))])
      (fun ⟨_, _, s⟩ => ddE rb S gv cv sv ⟨s, g, cells, ss, 0⟩) (fun ⟨_, _, s⟩ => s.length) [] rfl
      (fun _ => rfl) (fun _ => rfl) (fun _ _ => ddE_ok _ _ _ _ _ _) ⟨(0, 0, s0), ⟨rfl, rfl, by omega, by omega, hl⟩, ?_, wkH_refl _⟩ ?_
    · exact wKK
    rintro ⟨i, n, s⟩ ⟨h1, h2, h3, h4, hu⟩
    have hnx := next_r rb S hS gv cv sv ⟨s, g, cells, ss, 0⟩ hu
    cases s with
    | nil =>
      have e0 : numM most ⟨s0, g, cells, ss, 0⟩ = (0, ⟨[], g, cells, ss, 14⟩) := by
        unfold numM rd
        rw [if_neg (by show ¬ (0 : Int) ≠ 0; decide)]
        simp only
        rw [← h1, ← h2]
        rfl
      rw [e0]
      refine wX ?_
      refine LdN.one (a := some ⟨rb, 0, none⟩) (q := 5) (.int .i64 0) rfl (fun w hw => hw.1) rfl ?_
      refine wX ?_
      refine callG hnx [0] rfl ⟨rfl, trivial⟩ rfl fun _ _ => ?_
      refine wX ?_
      refine LdN.one (a := some ⟨rb, 0, none⟩) (q := 5) (.int .i64 14) rfl (fun w hw => hw.1) rfl ?_
      refine wX ?_
      exact ⟨(), trivial, rfl, wkH_refl _⟩
    | cons x s =>
      have hx128 : ((x.toNat : Int) == 128) = decide (x = 128) := by
        by_cases h : x = 128
        · subst h; rfl
        · rw [decide_eq_false h, beq_eq_false_iff_ne]
          intro h5
          exact h (UInt8.toNat_inj.1 (by have : x.toNat = 128 := by omega
                                         rw [this]; rfl))
      have bad : (i = 0 ∧ x = 128 ∨ 9 ≤ i) → numM most ⟨s0, g, cells, ss, 0⟩ = (0, ⟨s, g, cells, ss, 4⟩) := by
        intro hb
        unfold numM rd
        rw [if_neg (by show ¬ (0 : Int) ≠ 0; decide)]
        simp only
        rw [← h1, ← h2]
        unfold rdF rdQ
        rw [if_pos hb, if_pos hb]
      obtain ⟨u, hu⟩ := hu
      have hu2 : ∃ u, S = u ++ s := ⟨u ++ [x], by rw [hu]; simp⟩
      have hnx2 : SpecH Tryz.prog 84 [.c (.v (.pointer (some ⟨rb, 0, none⟩)))] (ddE rb S gv cv sv ⟨x :: s, g, cells, ss, 0⟩) (RetG (ι := Unit) (fun _ => True) (fun _ => .int .u8 (x.toNat : Int)) fun _ => ddE rb S gv cv sv ⟨s, g, cells, ss, 0⟩) := hnx
      refine wX ?_
      refine LdN.one (a := some ⟨rb, 0, none⟩) (q := 5) (.int .i64 0) rfl (fun w hw => hw.1) rfl ?_
      refine wX ?_
      refine callG hnx2 [0] rfl ⟨rfl, trivial⟩ rfl fun _ _ => ?_
      refine wX ?_
      refine LdN.one (a := some ⟨rb, 0, none⟩) (q := 5) (.int .i64 0) rfl (fun w hw => hw.1) rfl ?_
      refine wX ?_
      by_cases hb : i = 0 ∧ x = 128 ∨ 9 ≤ i
      · rw [bad hb]
        rcases hb with ⟨rfl, rfl⟩ | hb
        · refine wX ?_
          refine callG (fail_r rb S gv cv sv ⟨s, g, cells, ss, 0⟩ 4) [0] rfl ⟨rfl, trivial⟩ rfl fun _ _ => ?_
          refine wX ?_
          exact ⟨(), trivial, rfl, wkH_refl _⟩
        · obtain rfl : i = 9 := by omega
          refine wX ?_
          refine callG (fail_r rb S gv cv sv ⟨s, g, cells, ss, 0⟩ 4) [0] rfl ⟨rfl, trivial⟩ rfl fun _ _ => ?_
          refine wX ?_
          exact ⟨(), trivial, rfl, wkH_refl _⟩
      · have f1 := h1
        have f2 := h2
        rw [rdF_cons, if_neg hb] at f1
        rw [rdQ_cons, if_neg hb] at f2
        have hi8 : i ≤ 8 := by omega
        have hn56 : n < 72057594037927936 := Nat.lt_of_lt_of_le h4 (Nat.le_trans (Nat.pow_le_pow_right (by decide) hi8) (by decide))
        by_cases hi : i = 0
        · subst hi
          have hx : x ≠ 128 := fun h => hb (.inl ⟨rfl, h⟩)
          refine wX ?_
          rw [hx128, decide_eq_false hx]
          refine wX ?_
          rw [step128 n x.toNat hn56]
          refine brd_dec (fun h5 => ?_) (fun h5 => ?_)
          · have h6 : x.toNat < 128 := by omega
            rw [if_pos h6] at f1 f2
            refine wX ?_
            refine brd_dec (fun h7 => ?_) (fun h7 => ?_)
            · have e0 : numM most ⟨s0, g, cells, ss, 0⟩ = (0, ⟨s, g, cells, ss, 4⟩) := by
                unfold numM rd
                rw [if_neg (by show ¬ (0 : Int) ≠ 0; decide)]
                simp only
                rw [← f1, ← f2, if_neg (by omega)]
              rw [e0]
              refine wX ?_
              refine callG (fail_r rb S gv cv sv ⟨s, g, cells, ss, 0⟩ 4) [0] rfl ⟨rfl, trivial⟩ rfl fun _ _ => ?_
              refine wX ?_
              exact ⟨(), trivial, rfl, wkH_refl _⟩
            · have e0 : numM most ⟨s0, g, cells, ss, 0⟩ = (n * 128 + x.toNat % 128, ⟨s, g, cells, ss, 0⟩) := by
                unfold numM rd
                rw [if_neg (by show ¬ (0 : Int) ≠ 0; decide)]
                simp only
                rw [← f1, ← f2, if_pos (by omega)]
              rw [e0]
              refine wX ?_
              exact ⟨(), trivial, rfl, wkH_refl _⟩
          · have h6 : ¬ x.toNat < 128 := by omega
            rw [if_neg h6] at f1 f2
            refine wX ?_
            refine ⟨(0 + 1, n * 128 + x.toNat % 128, s), ⟨f1, f2, by omega, by have h9 : n + 1 ≤ 128 ^ 0 := h4; rw [Nat.pow_succ]; have := Nat.mul_le_mul_right 128 h9; omega, hu2⟩, by show s.length < s.length + 1; omega, ?_, wHH⟩
            exact wKK
        · refine wX ?_
          rw [show ((i : Int) == 0) = false by rw [beq_eq_false_iff_ne]; omega]
          refine wX ?_
          rw [show decide ((i : Int) ≥ 9) = false by rw [decide_eq_false_iff_not]; omega]
          refine wX ?_
          rw [step128 n x.toNat hn56]
          refine brd_dec (fun h5 => ?_) (fun h5 => ?_)
          · have h6 : x.toNat < 128 := by omega
            rw [if_pos h6] at f1 f2
            refine wX ?_
            refine brd_dec (fun h7 => ?_) (fun h7 => ?_)
            · have e0 : numM most ⟨s0, g, cells, ss, 0⟩ = (0, ⟨s, g, cells, ss, 4⟩) := by
                unfold numM rd
                rw [if_neg (by show ¬ (0 : Int) ≠ 0; decide)]
                simp only
                rw [← f1, ← f2, if_neg (by omega)]
              rw [e0]
              refine wX ?_
              refine callG (fail_r rb S gv cv sv ⟨s, g, cells, ss, 0⟩ 4) [0] rfl ⟨rfl, trivial⟩ rfl fun _ _ => ?_
              refine wX ?_
              exact ⟨(), trivial, rfl, wkH_refl _⟩
            · have e0 : numM most ⟨s0, g, cells, ss, 0⟩ = (n * 128 + x.toNat % 128, ⟨s, g, cells, ss, 0⟩) := by
                unfold numM rd
                rw [if_neg (by show ¬ (0 : Int) ≠ 0; decide)]
                simp only
                rw [← f1, ← f2, if_pos (by omega)]
              rw [e0]
              refine wX ?_
              exact ⟨(), trivial, rfl, wkH_refl _⟩
          · have h6 : ¬ x.toNat < 128 := by omega
            rw [if_neg h6] at f1 f2
            refine wX ?_
            refine ⟨(i + 1, n * 128 + x.toNat % 128, s), ⟨f1, f2, by omega, by have h9 : n + 1 ≤ 128 ^ i := h4; rw [Nat.pow_succ]; have := Nat.mul_le_mul_right 128 h9; omega, hu2⟩, by show s.length < s.length + 1; omega, ?_, wHH⟩
            exact wKK
  · rw [num_dead he]
    refine wX ?_
    refine LoopN.unroll 1 ?_
    refine wX ?_
    refine LdN.one (a := some ⟨rb, 0, none⟩) (q := 5) (.int .i64 st.e) rfl (fun w hw => hw.1) rfl ?_
    refine wX ?_
    refine brd_eq (fun h => absurd h he) (fun _ => ?_)
    refine wX ?_
    exact ⟨(), trivial, rfl, wkH_refl _⟩
theorem text_rd (rb : Nat) (st : PS) (p : RdP) (most : Nat) : SpecH Tryz.prog 104 [.c (.v (.pointer (some ⟨rb, 0, none⟩))), .c (.v (.int .i64 (most : Int)))] (rdE rb st p) (RetG (ι := Unit) (fun _ => True) (fun _ => .string (bs (textM most st).1)) fun _ => rdE rb (textM most st).2 p) := by
 refine ownC hm Tryz.func104 (by kernel_rfl) rfl rfl (fun _ _ => rdE_ok _ _ _) (fun _ _ => Nat.le_refl _) ?_
 have hnum := number_m rb st p maxN (by decide)
 unfold textM
 generalize numM maxN st = q at hnum ⊢
 obtain ⟨n, st1⟩ := q
 simp only at hnum ⊢
 refine wX ?_
 refine callG (hnum) [0, 1, 2, 3, 4] rfl ⟨rfl, rfl, rfl, rfl, rfl, trivial⟩ rfl fun _ _ => ?_
 refine wX ?_
 refine LdN.one (a := some ⟨rb, 0, none⟩) (q := 4) (.int .i64 st1.e) rfl (fun w hw => hw.1) rfl ?_
 refine wX ?_
 refine brd_ne (fun h1 => ?_) (fun h1 => ?_)
 ·rw [if_pos h1]
  refine wX ?_
  exact ⟨(), trivial, rfl, wkH_refl _⟩
 rw [if_neg (fun h => h h1)]
 have e4 : ∀ e : Int, ({ st1 with e := e } : PS) = failM st1 e := fun e => by unfold failM; rw [if_pos h1]
 rw [e4 4, e4 14]
 refine wX ?_
 refine brd_dec (fun h2 => ?_) (fun h2 => ?_)
 ·rw [if_pos (by omega)]
  refine wX ?_
  refine callG (fail_m rb st1 p 4) [0, 1, 2, 3, 4] rfl ⟨rfl, rfl, rfl, rfl, rfl, trivial⟩ rfl fun _ _ => ?_
  refine wX ?_
  exact ⟨(), trivial, rfl, wkH_refl _⟩
 rw [if_neg (by omega)]
 refine wX ?_
 refine LdN.one (a := some ⟨rb, 0, none⟩) (q := 0) (.string (bs st1.s)) rfl (fun w hw => hw.1) rfl ?_
 refine wX ?_
 have hsz := bs_size st1.s
 refine brd_dec (fun h3 => ?_) (fun h3 => ?_)
 ·rw [if_pos (by omega)]
  refine wX ?_
  refine callG (fail_m rb st1 p 14) [0, 1, 2, 3, 4] rfl ⟨rfl, rfl, rfl, rfl, rfl, trivial⟩ rfl fun _ _ => ?_
  refine wX ?_
  exact ⟨(), trivial, rfl, wkH_refl _⟩
 rw [if_neg (by omega)]
 refine wX ?_
 refine LdN.one (a := some ⟨rb, 0, none⟩) (q := 0) (.string (bs st1.s)) rfl (fun w hw => hw.1) rfl ?_
 refine wX ?_
 refine ReadW.str_h rfl (by kernel_rfl) rfl rfl ⟨by omega, by omega⟩ ?_
 rw [bs_take, Int.toNat_natCast]
 refine wX ?_
 refine LdN.one (a := some ⟨rb, 0, none⟩) (q := 0) (.string (bs st1.s)) rfl (fun w hw => hw.1) rfl ?_
 refine wX ?_
 refine ReadW.str_l rfl (by kernel_rfl) rfl rfl ⟨by omega, by omega⟩ ?_
 have e1 : (bs st1.s).extract (Int.toNat (n : Int)) (bs st1.s).size = bs (st1.s.drop n) := by rw [bs_size, Int.toNat_natCast]; exact bs_drop st1.s n
 rw [e1]
 refine wX ?_
 refine EffW.appTo (i := 0) (q := 0) (ys := [_]) (rdC ({ st1 with s := st1.s.drop n }) p) 5 rfl rfl rfl rfl rfl rfl rfl (Nat.le_of_ble_eq_true rfl) rfl rfl ?_
 refine wX ?_
 exact ⟨(), trivial, rfl, wkH_refl _⟩
theorem SIndex_m (a : Option Addr) (l : List (List UInt8)) (cap : Nat) (s : List UInt8) (ha : a = none → l = []) (hl : l.length ≤ 1000000) :
  ∀ H, (∀ w, Facts H w → SlAt a (l.length * 1) (strC l) w) → SpecH Tryz.prog 151 (pvs [.slice a l.length cap, .string (bs s)]) H (RetR (fun v => ∃ n : Int, v = .int .i64 n ∧ (0 ≤ n ↔ s ∈ l)) H) := by
 refine factR hm Tryz.func151 (by kernel_rfl) rfl rfl ?_
 refine wX ?_
 refine loopS Nat (fun i => i ≤ l.length ∧ s ∉ l.take i) (fun i => mkS Tryz.f151.ntmps 0 [(0, .c (.v (.slice a l.length cap))), (1, .c (.v (.string (bs s)))), (7, .c (.v (.int .i64 (l.length : Int)))), (8, .c (.v (.int .i64 (i : Int))))]) (fun i => l.length - i) rfl (fun _ => rfl) 0 ⟨Nat.zero_le _, by simp⟩ ?_ ?_
 ·exact wKK
 intro i ⟨hi, hno⟩
 refine wX ?_
 refine brd_dec (fun h1 => ?_) (fun h1 => ?_)
 ·obtain ⟨t, ht⟩ : ∃ t, l[i]? = some t := ⟨_, List.getElem?_eq_getElem (by omega)⟩
  have hsa : a.isSome = true := by
   cases a with
   | none => rw [ha rfl] at ht; cases ht
   | some b => rfl
  refine wX ?_
  refine Nd.mk ⟨hsa, by omega, by omega⟩ ?_
  refine wX ?_
  refine LdN.one (.string (bs t)) rfl (fun w hw => hw.1) (by show (strC l)[Int.toNat _ * 1]? = _; rw [Int.toNat_natCast, Nat.mul_one]; exact strC_get ht) ?_
  refine wX ?_
  refine brd_intro (fun h2 => ?_) (fun h2 => ?_)
  ·have h3 : s = t := eq_of_beq (show (s == t) = true from h2)
   refine wX ?_
   refine ⟨_, rfl, (i : Int), rfl, ⟨fun _ => ?_, fun _ => by omega⟩⟩
   rw [h3]
   exact List.mem_of_getElem? ht
  ·have h3 : (s == t) = false := h2
   refine wX ?_
   refine ⟨i + 1, ⟨by omega, ?_⟩, by omega, ?_, wHH⟩
   ·rw [List.take_add_one, ht]
    simp only [Option.toList_some, List.mem_append, List.mem_singleton, not_or]
    exact ⟨hno, by simpa using h3⟩
   ·exact wKK
 ·have hie : i = l.length := by omega
  subst hie
  rw [List.take_length] at hno
  refine wX ?_
  exact ⟨_, rfl, -1, rfl, ⟨fun h => absurd h (by decide), fun h => absurd h hno⟩⟩
theorem Contains_m (a : Option Addr) (l : List (List UInt8)) (cap : Nat) (s : List UInt8) (ha : a = none → l = []) (hl : l.length ≤ 1000000) :
  ∀ H, (∀ w, Facts H w → SlAt a (l.length * 1) (strC l) w) → SpecH Tryz.prog 130 (pvs [.slice a l.length cap, .string (bs s)]) H (Ret (.bool (decide (s ∈ l))) H) := by
 refine factC hm Tryz.func130 (by kernel_rfl) rfl rfl ?_
 refine wX ?_
 refine callR (SIndex_m a l cap s ha hl _ (fun w hw => hw.1)) fun v hv => ?_
 obtain ⟨n, rfl, hn⟩ := hv
 refine wX ?_
 refine ret_b ?_
 rw [decide_eq_true_eq, decide_eq_true_eq]
 exact hn
structure RdOk (st : PS) (p : RdP) : Prop where
 g : p.m.map (·.c) = st.g
 cell : ∀ q ∈ p.m, CellOk q
 ga : p.ga = none → p.m = []
 ca : p.ca = none → st.cells = []
 sa : p.sa = none → st.ss = []
 sw : ∀ t ∈ st.ss, t.length ≤ 30000
 gx : p.ga = none ∨ ∃ b : Nat, p.ga = some ⟨b, 0, none⟩
theorem fail_ss (st : PS) (e : Int) : (failM st e).ss = st.ss ∧ (failM st e).g = st.g ∧ (failM st e).cells = st.cells := by unfold failM; split <;> exact ⟨rfl, rfl, rfl⟩
theorem fail_s (st : PS) (e : Int) : (failM st e).s = st.s := by unfold failM; split <;> rfl
theorem num_keep (most : Nat) (st : PS) : (numM most st).2.ss = st.ss ∧ (numM most st).2.g = st.g ∧ (numM most st).2.cells = st.cells := by
 unfold numM
 split
 ·exact ⟨rfl, rfl, rfl⟩
 split <;> exact ⟨rfl, rfl, rfl⟩
theorem text_keep (most : Nat) (st : PS) : (textM most st).2.ss = st.ss ∧ (textM most st).2.g = st.g ∧ (textM most st).2.cells = st.cells := by
 have h := num_keep maxN st
 unfold textM
 split
 ·exact h
 split
 ·exact h
 split <;> exact h
theorem symbol_rd (rb : Nat) (x : UInt8) (st : PS) (p : RdP) (ok : RdOk st p) (hss : st.ss.length < 100000) : SpecH Tryz.prog 105 [.c (.v (.pointer (some ⟨rb, 0, none⟩))), .c (.v (.int .u8 (x.toNat : Int)))] (rdE rb st p) (RetG (ι := Option Addr × Nat) (fun i => i.1 = none → (symM x st).2.ss = []) (fun _ => .string (bs (symM x st).1)) fun i => rdE rb (symM x st).2 { p with sa := i.1, sc := i.2 }) := by
  refine ownC hm Tryz.func105 (by kernel_rfl) rfl rfl (fun _ _ => rdE_ok _ _ _) (fun _ _ => Nat.le_refl _) ?_
  have htext := text_rd rb st p 40
  have hnum := number_m rb st p maxN (by decide)
  have kt := text_keep 40 st
  have kn := num_keep maxN st
  unfold symM
  generalize textM 40 st = qt at htext kt ⊢
  generalize numM maxN st = qn at hnum kn ⊢
  obtain ⟨t, st1⟩ := qt
  obtain ⟨n, st2⟩ := qn
  simp only at htext hnum kt kn ⊢
  by_cases h58 : x = 58
  · subst h58
    rw [if_pos rfl]
    have hsa : p.sa = none → st1.ss = [] := fun h => by rw [kt.1]; exact ok.sa h
    have hl1 : st1.ss.length < 100000 := by rw [kt.1]; exact hss
    refine wX ?_
    refine callG (htext) [0, 1, 2, 3, 4] rfl ⟨rfl, rfl, rfl, rfl, rfl, trivial⟩ rfl fun _ _ => ?_
    refine wX ?_
    refine LdN.one (a := some ⟨rb, 0, none⟩) (q := 4) (.int .i64 st1.e) rfl (fun w hw => hw.1) rfl ?_
    refine wX ?_
    by_cases he : st1.e = 0
    · rw [show (st1.e == 0) = true by rw [he]; rfl]
      refine wX ?_
      refine LdN.one (a := some ⟨rb, 0, none⟩) (q := 3) (.slice p.sa st1.ss.length p.sc) rfl (fun w hw => hw.1) rfl ?_
      refine wX ?_
      refine call1 (Contains_m p.sa st1.ss p.sc t hsa (by omega) _ (fun w hw => hw.2.2.2.2.1)) ?_
      refine wX ?_
      refine brd_dec (fun hm => ?_) (fun hm => ?_)
      · refine wX ?_
        refine callG (fail_m rb st1 p 4) [0, 1, 2, 3, 4] rfl ⟨rfl, rfl, rfl, rfl, rfl, trivial⟩ rfl fun _ _ => ?_
        rw [if_pos ⟨he, hm⟩, show ({ failM st1 4 with ss := st1.ss ++ [t] } : PS) = { failM st1 4 with ss := (failM st1 4).ss ++ [t] } by rw [(fail_ss st1 4).1]]
        have hl2 : (failM st1 4).ss.length < 100000 := by rw [(fail_ss st1 4).1]; exact hl1
        generalize failM st1 4 = st3 at hl2 ⊢
        refine wX ?_
        refine LdN.one (a := some ⟨rb, 0, none⟩) (q := 3) (.slice p.sa (st3).ss.length p.sc) rfl (fun w hw => hw.1) rfl ?_
        refine wX ?_
        refine Nd.mk ⟨Nat.le_refl 1, rfl, rfl⟩ ?_
        (conv => whnf)
        refine AppN.grow 4 (strC (st3).ss) [.string (bs t)] rfl rfl ⟨Nat.le_refl 1, ⟨by show ((st3).ss.length + 1) * 16 ≤ _; omega, by omega⟩, by decide⟩ fun b' cap' h1 h2 => ?_
        refine wX ?_
        refine EffW.appTo (i := 0) (q := 3) (ys := [_]) (rdC { (st3) with ss := (st3).ss ++ [t] } { p with sa := some ⟨b', 0, none⟩, sc := cap' }) 5 rfl rfl rfl rfl rfl rfl rfl (Nat.le_of_ble_eq_true rfl) (by simp [rdC]) rfl ?_
        refine wX ?_
        refine ⟨(some ⟨b', 0, none⟩, cap'), (fun h => by cases h), rfl, wkE_refl _, wkE_refl _, wkE_refl _, wkE_refl _, ?_, trivial⟩
        rw [show strC (st3).ss ++ [.string (bs t)] = strC ((st3).ss ++ [t]) by simp [strC], show (st3).ss.length + 1 = ((st3).ss ++ [t]).length by simp]
        exact wkE_refl _
      · rw [if_neg (fun h => hm h.2)]
        refine wX ?_
        refine LdN.one (a := some ⟨rb, 0, none⟩) (q := 3) (.slice p.sa (st1).ss.length p.sc) rfl (fun w hw => hw.1) rfl ?_
        refine wX ?_
        refine Nd.mk ⟨Nat.le_refl 1, rfl, rfl⟩ ?_
        (conv => whnf)
        refine AppN.grow 4 (strC (st1).ss) [.string (bs t)] rfl rfl ⟨Nat.le_refl 1, ⟨by show ((st1).ss.length + 1) * 16 ≤ _; omega, by omega⟩, by decide⟩ fun b' cap' h1 h2 => ?_
        refine wX ?_
        refine EffW.appTo (i := 0) (q := 3) (ys := [_]) (rdC { (st1) with ss := (st1).ss ++ [t] } { p with sa := some ⟨b', 0, none⟩, sc := cap' }) 5 rfl rfl rfl rfl rfl rfl rfl (Nat.le_of_ble_eq_true rfl) (by simp [rdC]) rfl ?_
        refine wX ?_
        refine ⟨(some ⟨b', 0, none⟩, cap'), (fun h => by cases h), rfl, wkE_refl _, wkE_refl _, wkE_refl _, wkE_refl _, ?_, trivial⟩
        rw [show strC (st1).ss ++ [.string (bs t)] = strC ((st1).ss ++ [t]) by simp [strC], show (st1).ss.length + 1 = ((st1).ss ++ [t]).length by simp]
        exact wkE_refl _
    · rw [show (st1.e == 0) = false by simpa using he, if_neg (fun h => he h.1)]
      refine wX ?_
      refine LdN.one (a := some ⟨rb, 0, none⟩) (q := 3) (.slice p.sa (st1).ss.length p.sc) rfl (fun w hw => hw.1) rfl ?_
      refine wX ?_
      refine Nd.mk ⟨Nat.le_refl 1, rfl, rfl⟩ ?_
      (conv => whnf)
      refine AppN.grow 4 (strC (st1).ss) [.string (bs t)] rfl rfl ⟨Nat.le_refl 1, ⟨by show ((st1).ss.length + 1) * 16 ≤ _; omega, by omega⟩, by decide⟩ fun b' cap' h1 h2 => ?_
      refine wX ?_
      refine EffW.appTo (i := 0) (q := 3) (ys := [_]) (rdC { (st1) with ss := (st1).ss ++ [t] } { p with sa := some ⟨b', 0, none⟩, sc := cap' }) 5 rfl rfl rfl rfl rfl rfl rfl (Nat.le_of_ble_eq_true rfl) (by simp [rdC]) rfl ?_
      refine wX ?_
      refine ⟨(some ⟨b', 0, none⟩, cap'), (fun h => by cases h), rfl, wkE_refl _, wkE_refl _, wkE_refl _, wkE_refl _, ?_, trivial⟩
      rw [show strC (st1).ss ++ [.string (bs t)] = strC ((st1).ss ++ [t]) by simp [strC], show (st1).ss.length + 1 = ((st1).ss ++ [t]).length by simp]
      exact wkE_refl _
  by_cases h59 : x = 59
  · subst h59
    rw [if_neg (by decide), if_pos rfl]
    refine wX ?_
    refine callG (hnum) [0, 1, 2, 3, 4] rfl ⟨rfl, rfl, rfl, rfl, rfl, trivial⟩ rfl fun _ _ => ?_
    refine wX ?_
    refine LdN.one (a := some ⟨rb, 0, none⟩) (q := 4) (.int .i64 st2.e) rfl (fun w hw => hw.1) rfl ?_
    refine wX ?_
    by_cases he : st2.e = 0
    · rw [show (st2.e == 0) = true by rw [he]; rfl]
      refine wX ?_
      refine LdN.one (a := some ⟨rb, 0, none⟩) (q := 3) (.slice p.sa st2.ss.length p.sc) rfl (fun w hw => hw.1) rfl ?_
      refine wX ?_
      refine brd_dec (fun hlt => ?_) (fun hlt => ?_)
      · have hn : n < st2.ss.length := by omega
        rw [if_pos ⟨he, hn⟩]
        have hsa : p.sa.isSome = true := by
          cases h : p.sa with
          | none =>
            have := ok.sa h
            rw [kn.1, this] at hn
            exact absurd hn (Nat.not_lt_zero _)
          | some b => rfl
        have hget : st2.ss[n]? = some (st2.ss.getD n []) := by rw [List.getD_eq_getElem?_getD, List.getElem?_eq_getElem hn]; rfl
        refine wX ?_
        refine LdN.one (a := some ⟨rb, 0, none⟩) (q := 3) (.slice p.sa st2.ss.length p.sc) rfl (fun w hw => hw.1) rfl ?_
        refine wX ?_
        refine Nd.mk ⟨hsa, by omega, by omega⟩ ?_
        refine wX ?_
        refine LdN.one (.string (bs (st2.ss.getD n []))) rfl (fun w hw => hw.2.2.2.2.1) (by show (strC st2.ss)[Int.toNat _ * 1]? = _; rw [Int.toNat_natCast, Nat.mul_one]; exact strC_get hget) ?_
        refine wX ?_
        exact ⟨(p.sa, p.sc), (fun h => by show st2.ss = []; rw [kn.1]; exact ok.sa h), rfl, wkH_refl _⟩
      · rw [if_neg (fun h => hlt (by omega))]
        refine wX ?_
        refine callG (fail_m rb st2 p 4) [0, 1, 2, 3, 4] rfl ⟨rfl, rfl, rfl, rfl, rfl, trivial⟩ rfl fun _ _ => ?_
        refine wX ?_
        exact ⟨(p.sa, p.sc), (fun h => by rw [(fail_ss _ _).1, kn.1]; exact ok.sa h), rfl, wkH_refl _⟩
    · rw [show (st2.e == 0) = false by simpa using he, if_neg (fun h => he h.1)]
      refine wX ?_
      refine callG (fail_m rb st2 p 4) [0, 1, 2, 3, 4] rfl ⟨rfl, rfl, rfl, rfl, rfl, trivial⟩ rfl fun _ _ => ?_
      refine wX ?_
      exact ⟨(p.sa, p.sc), (fun h => by rw [(fail_ss _ _).1, kn.1]; exact ok.sa h), rfl, wkH_refl _⟩
  · rw [if_neg h58, if_neg h59]
    have e1 : ((x.toNat : Int) == 58) = false := by
      rw [beq_eq_false_iff_ne]
      intro h5
      exact h58 (UInt8.toNat_inj.1 (by have : x.toNat = 58 := by omega
                                       rw [this]; rfl))
    have e2 : ((x.toNat : Int) == 59) = false := by
      rw [beq_eq_false_iff_ne]
      intro h5
      exact h59 (UInt8.toNat_inj.1 (by have : x.toNat = 59 := by omega
                                       rw [this]; rfl))
    refine wX ?_
    rw [e1]
    refine wX ?_
    rw [e2]
    refine wX ?_
    refine callG (fail_m rb st p 4) [0, 1, 2, 3, 4] rfl ⟨rfl, rfl, rfl, rfl, rfl, trivial⟩ rfl fun _ _ => ?_
    refine wX ?_
    exact ⟨(p.sa, p.sc), (fun h => by rw [(fail_ss _ _).1]; exact ok.sa h), rfl, wkH_refl _⟩
def CellC (n : Nat) : Prop := ∀ (rb : Nat) (st : PS) (p : RdP), RdOk st p → Bd st → (st.s.length < n ∨ st.e ≠ 0) → SpecH Tryz.prog 64 [.c (.v (.pointer (some ⟨rb, 0, none⟩)))] (rdE rb st p) (RetG (ι := RdP) (fun p' => RdOk (cellM n st).2 p') (fun _ => .int .i64 (cellM n st).1) fun p' => rdE rb (cellM n st).2 p')
def ownI (l : List Int) (a : Option Addr) (cap : Nat) : Ent := .app 3 1 (iC l) a l.length cap
structure ItP where
 i : Nat
 l : List Int
 st : PS
 p : RdP
 a : Option Addr
 cap : Nat
theorem items_rd (n : Nat) (hc : CellC n) (rb : Nat) (st : PS) (p : RdP) (ok : RdOk st p) (bd : Bd st) (hn : st.s.length < n ∨ st.e ≠ 0) (m : Nat) (hm2 : m ≤ 4000000000000000) : SpecH Tryz.prog 106 [.c (.v (.pointer (some ⟨rb, 0, none⟩))), .c (.v (.int .i64 (m : Int)))] (rdE rb st p ++ [.app 3 1 [] none 0 0]) (RetG (ι := RdP × Option Addr × Nat) (fun i => RdOk (itemsM (cellM n) m [] st).2 i.1 ∧ (i.2.1 = none → (itemsM (cellM n) m [] st).1 = []) ∧ (itemsM (cellM n) m [] st).1.length ≤ i.2.2) (fun i => .slice i.2.1 (itemsM (cellM n) m [] st).1.length i.2.2) fun i => rdE rb (itemsM (cellM n) m [] st).2 i.1 ++ [ownI (itemsM (cellM n) m [] st).1 i.2.1 i.2.2]) := by
 refine ownC hm Tryz.func106 (by kernel_rfl) rfl rfl (fun _ _ => okHB_eq rfl) (fun _ _ => Nat.le_of_ble_eq_true rfl) ?_
 have hI : ∀ k l st', itemsM (cellM n) (k + 1) l st' = if st'.e = 0 then itemsM (cellM n) k (l ++ [(cellM n st').1]) (cellM n st').2 else (l, st') := fun k l st' => by conv => lhs; unfold itemsM
 obtain ⟨R, hR⟩ : ∃ R, itemsM (cellM n) m [] st = R := ⟨_, rfl⟩
 rw [hR]
 have htk := cell_takes n
 refine wX ?_
 refine LoopN.intro ItP (fun ⟨i, l, st, p, a, cap⟩ => itemsM (cellM n) (m - i) l st = R ∧ i ≤ m ∧ RdOk st p ∧ Bd st ∧ (st.s.length < n ∨ st.e ≠ 0) ∧ l.length + st.s.length + liv st ≤ 30001 ∧ (a = none → l = []) ∧ l.length ≤ cap)
  (fun ⟨i, l, _, _, a, cap⟩ => mkS Tryz.f106.ntmps 0 [(0, .c (.v (.pointer (some ⟨rb, 0, none⟩)))), (1, .c (.v (.int .i64 (m : Int)))), (4, .c (.v (.slice none 0 0))), (5, .c (.v (.slice a l.length cap))), (6, .c (.v (.int .i64 (i : Int))))])
  (fun ⟨_, l, st, p, a, cap⟩ => rdE rb st p ++ [ownI l a cap]) (fun ⟨_, _, st, _, _, _⟩ => if st.e = 0 then st.s.length + 1 else 0) [] rfl
  (fun _ => rfl) (fun _ => rfl) (fun _ _ => okHB_eq rfl) ⟨⟨0, [], st, p, none, 0⟩, ⟨hR, Nat.zero_le _, ok, bd, hn, ?_, fun _ => rfl, Nat.le_refl _⟩, ?_, wkH_refl _⟩ ?_
 ·have := bd.pot
  unfold liv
  show 0 + st.s.length + _ ≤ _
  split <;> omega
 ·exact wKK
 rintro ⟨i, l, st1, p1, a, cap⟩ ⟨h1, h2, h3, h4, h5, h6, h7, h8⟩
 refine wX ?_
 by_cases hi : i < m
 ·rw [show decide ((i : Int) < (m : Int)) = true by simpa using hi]
  obtain ⟨k, hk⟩ : ∃ k, m - i = k + 1 := ⟨m - i - 1, by omega⟩
  rw [hk, hI] at h1
  refine wX ?_
  refine LdN.one (a := some ⟨rb, 0, none⟩) (q := 4) (.int .i64 st1.e) rfl (fun w hw => hw.1) rfl ?_
  refine wX ?_
  by_cases he : st1.e = 0
  ·rw [show (st1.e == 0) = true by rw [he]; rfl]
   rw [if_pos he] at h1
   refine wX ?_
   refine callG (hc rb st1 p1 h3 h4 h5) [0, 1, 2, 3, 4] rfl ⟨rfl, rfl, rfl, rfl, rfl, trivial⟩ rfl fun p2 hp2 => ?_
   have hle := htk.le st1
   have hlt := htk.lt st1
   have hll : l.length ≤ 30001 := by omega
   generalize cellM n st1 = r at h1 hp2 hle hlt ⊢
   obtain ⟨z, st2⟩ := r
   simp only at h1 hp2 hle hlt
   refine wX ?_
   refine Nd.mk ⟨Nat.le_refl 1, rfl, rfl⟩ ?_
   (conv => whnf)
   refine AppN.grow 5 (iC l) [.int .i64 z] rfl rfl ⟨Nat.le_refl 1, ⟨by show (l.length + 1) * 8 ≤ _; omega, by omega⟩, by decide⟩ fun b' cap' g1 g2 => ?_
   refine wX ?_
   have e1 : iC l ++ [.int .i64 z] = iC (l ++ [z]) := by simp [iC]
   have e2 : l.length + 1 = (l ++ [z]).length := by simp
   rw [e1, e2]
   refine ⟨⟨i + 1, l ++ [z], st2, p2, some ⟨b', 0, none⟩, cap'⟩, ⟨by rw [← h1, show m - (i + 1) = k by omega], by show i + 1 ≤ m; omega, hp2, h4.le hle, ?_, ?_, (fun h => by cases h), by rw [← e2]; exact g1⟩, ?_, ?_, ?_⟩
   ·show st2.s.length < n ∨ _
    have := hle.s
    rcases h5 with h | h
    ·left; omega
    ·exact absurd he h
   ·show (l ++ [z]).length + st2.s.length + liv st2 ≤ _
    rw [List.length_append, List.length_singleton]
    have hs := hle.s
    unfold liv at h6 ⊢
    rw [if_pos he] at h6
    split
    ·rename_i h9
     have := hlt h9
     omega
    ·omega
   ·show (if st2.e = 0 then st2.s.length + 1 else 0) < if st1.e = 0 then st1.s.length + 1 else 0
    rw [if_pos he]
    split
    ·rename_i h9
     have := hlt h9
     omega
    ·omega
   ·exact wKK
   ·exact ⟨wkE_refl _, wkE_refl _, wkE_refl _, wkE_refl _, wkE_refl _, wkE_refl _, wkH_nil _⟩
  ·rw [show (st1.e == 0) = false by simpa using he]
   rw [if_neg he] at h1
   subst h1
   refine wX ?_
   exact ⟨(p1, a, cap), ⟨h3, h7, h8⟩, rfl, wkH_refl _⟩
 ·rw [show decide ((i : Int) < (m : Int)) = false by simpa using hi]
  rw [show m - i = 0 by omega] at h1
  have h1 : (l, st1) = R := h1
  subst h1
  refine wX ?_
  exact ⟨(p1, a, cap), ⟨h3, h7, h8⟩, rfl, wkH_refl _⟩
end Go.Proofs.YtgogonnnojcioaaGreatDoor
namespace Go.Marshal
open Go.Core
theorem text_len (most : Nat) (st : PS) : (textM most st).1.length ≤ st.s.length := by
 have h := (num_le maxN st).s
 unfold textM
 split
 ·simp
 split
 ·simp
 split
 ·simp
 ·rw [List.length_take]
  omega
theorem next_keep (st : PS) : (nextM st).2.ss = st.ss ∧ (nextM st).2.g = st.g ∧ (nextM st).2.cells = st.cells := by
 unfold nextM
 split
 ·exact ⟨rfl, rfl, rfl⟩
 split <;> exact ⟨rfl, rfl, rfl⟩
theorem symM_len (x : UInt8) (st : PS) (hs : st.s.length ≤ 30000) (hw : ∀ t ∈ st.ss, t.length ≤ 30000) : (symM x st).1.length ≤ 30000 := by
 unfold symM
 split
 ·exact Nat.le_trans (text_len 40 st) hs
 split
 ·split
  ·rename_i h
   have hk : (numM maxN st).2.ss = st.ss := by
    unfold numM
    split
    ·rfl
    split <;> rfl
   rw [hk] at h ⊢
   rw [List.getD_eq_getElem?_getD, List.getElem?_eq_getElem h.2]
   exact hw _ (List.getElem_mem _)
  ·exact Nat.zero_le _
 ·exact Nat.zero_le _
theorem valid_one {c : Cell} (hk : c.kind = 8) : ValidP [c] ↔ (plainS c && rangeB 1 c) = true := by
 unfold ValidP
 constructor
 ·intro ⟨_, h, _⟩
  have := h c (by simp)
  rw [cell_eq]
  exact this
 ·intro h
  refine ⟨by simp, fun d hd => ?_, fun d hd h7 => ?_⟩
  ·obtain rfl := List.mem_singleton.1 hd
   rw [cell_eq] at h
   exact h
  ·obtain rfl := List.mem_singleton.1 hd
   rw [hk] at h7
   exact absurd h7 (by decide)
theorem valid_class (t : B) : ValidP [⟨8, 0, t, [], []⟩] ↔ Go.Scan.icB t = true := by
 rw [valid_one rfl]
 unfold plainS rangeB
 simp [maxI]
theorem valid_name (t : B) : ValidP [⟨8, 0, [65], [t], [0]⟩] ↔ Go.Scan.iiB t = true := by
 rw [valid_one rfl]
 unfold plainS rangeB
 have h : Go.Scan.icB [65] = true := by decide +kernel
 simp [maxI, h]
end Go.Marshal
namespace Go.Proofs.YtgogonnnojcioaaGreatDoor
open Go.AX Go.RowKit Go.Core Go.Marshal
set_option maxRecDepth 20000
theorem RdOk.same {st st' : PS} {p : RdP} (ok : RdOk st p) (h : st'.ss = st.ss ∧ st'.g = st.g ∧ st'.cells = st.cells) : RdOk st' p :=
 ⟨by rw [h.2.1]; exact ok.g, ok.cell, ok.ga, by rw [h.2.2]; exact ok.ca, by rw [h.1]; exact ok.sa, by rw [h.1]; exact ok.sw, ok.gx⟩
theorem sym_keep (x : UInt8) (st : PS) : (symM x st).2.g = st.g ∧ (symM x st).2.cells = st.cells := by
 have kt := text_keep 40 st
 have kn := num_keep maxN st
 unfold symM
 split
 ·simp only
  split
  ·have k4 := fail_ss (textM 40 st).2 4
   exact ⟨by rw [k4.2.1, kt.2.1], by rw [k4.2.2, kt.2.2]⟩
  ·exact kt.2
 split
 ·split
  ·exact kn.2
  ·have k4 := fail_ss (numM maxN st).2 4
   exact ⟨by rw [k4.2.1, kn.2.1], by rw [k4.2.2, kn.2.2]⟩
 ·exact (fail_ss st 4).2
theorem sym_sw (x : UInt8) (st : PS) (hs : st.s.length ≤ 30000) (hw : ∀ t ∈ st.ss, t.length ≤ 30000) : ∀ t ∈ (symM x st).2.ss, t.length ≤ 30000 := by
 have kt := text_keep 40 st
 have kn := num_keep maxN st
 have tl := text_len 40 st
 unfold symM
 split
 ·intro t ht
  simp only at ht
  rw [kt.1] at ht
  rcases List.mem_append.1 ht with h | h
  ·exact hw t h
  ·rw [List.mem_singleton.1 h]; omega
 split
 ·split
  ·rw [kn.1]; exact hw
  ·rw [(fail_ss _ _).1, kn.1]; exact hw
 ·rw [(fail_ss _ _).1]; exact hw
theorem RdOk.sym {st : PS} {p : RdP} (ok : RdOk st p) (hs : st.s.length ≤ 30000) (x : UInt8) {i : Option Addr × Nat} (hi : i.1 = none → (symM x st).2.ss = []) : RdOk (symM x st).2 { p with sa := i.1, sc := i.2 } :=
 ⟨by rw [(sym_keep x st).1]; exact ok.g, ok.cell, ok.ga, by rw [(sym_keep x st).2]; exact ok.ca, hi, sym_sw x st hs ok.sw, ok.gx⟩
end Go.Proofs.YtgogonnnojcioaaGreatDoor
namespace Go.Proofs.YtgogonnnojcioaaGreatDoor
open Go.AX Go.RowKit Go.Core Go.Marshal
set_option maxRecDepth 20000
def ddC (S : List UInt8) (st : PS) (p : RdP) : List Value := [.string (bs S), .int .i64 ((S.length - st.s.length : Nat) : Int), .slice p.ga p.m.length p.gc, .slice p.ca st.cells.length p.cc, .slice p.sa st.ss.length p.sc, .int .i64 st.e]
def dE (rb : Nat) (S : List UInt8) (st : PS) (p : RdP) (nm : List CellP) : List Ent :=
 [.app 109 6 (ddC S st p) (some ⟨rb, 0, none⟩) 1 1, .app 87 5 (grC p.m) p.ga p.m.length p.gc, .fact (fun w => ∀ q ∈ nm, CellF q w), .app 3 1 (iC st.cells) p.ca st.cells.length p.cc, .app 9 1 (strC st.ss) p.sa st.ss.length p.sc]
theorem dE_ok (rb : Nat) (S : List UInt8) (st : PS) (p : RdP) (nm : List CellP) : okH (dE rb S st p nm).length (dE rb S st p nm) := okHB_eq rfl
theorem Left.same {S : List UInt8} {a b : PS} (h : Left S a) (e : b.s = a.s) : Left S b := by unfold Left; rw [e]; exact h
theorem rdQ_left : ∀ (s : List UInt8) (i : Nat), ∃ u, s = u ++ rdQ i s
 | [], i => ⟨[], rfl⟩
 | x :: s, i => by
  unfold rdQ
  split
  ·exact ⟨[x], rfl⟩
  split
  ·exact ⟨[x], rfl⟩
  ·obtain ⟨u, hu⟩ := rdQ_left s (i + 1)
   exact ⟨x :: u, by rw [List.cons_append, ← hu]⟩
theorem Left.step {S u : List UInt8} {a b : PS} (h : Left S a) (e : a.s = u ++ b.s) : Left S b := by
 obtain ⟨v, hv⟩ := h
 exact ⟨v ++ u, by rw [hv, e, List.append_assoc]⟩
theorem Left.num {S : List UInt8} {st : PS} (h : Left S st) (most : Nat) : Left S (numM most st).2 := by
 obtain ⟨u, hu⟩ := rdQ_left st.s 0
 unfold numM
 split
 ·exact h
 split
 ·exact h.step (u := u) hu
 ·exact h.step (u := u) hu
theorem Left.next {S : List UInt8} {st : PS} (h : Left S st) : Left S (nextM st).2 := by
 unfold nextM
 split
 ·exact h
 split
 ·rename_i hs
  exact h.same rfl
 ·rename_i x s hs
  exact h.step (u := [x]) hs
theorem Left.text {S : List UInt8} {st : PS} (h : Left S st) (most : Nat) : Left S (textM most st).2 := by
 have hn := h.num maxN
 unfold textM
 split
 ·exact hn
 split
 ·exact hn.same rfl
 split
 ·exact hn.same rfl
 ·exact hn.step (u := (numM maxN st).2.s.take (numM maxN st).1) (List.take_append_drop _ _).symm
theorem Left.fail {S : List UInt8} {st : PS} (h : Left S st) (e : Int) : Left S (failM st e) := h.same (fail_s st e)
theorem symD_left {S : List UInt8} {st : PS} (h : Left S st) (x : UInt8) : Left S (symD x st).2 := by
 have ht := h.text 40
 have hn := h.num maxN
 unfold symD
 split
 ·split
  ·exact hn
  ·exact hn.fail 4
 split
 ·simp only
  split
  ·exact ht
  split
  ·exact ht.fail 4
  ·exact ht.same rfl
 ·exact h.fail 4
theorem left_len {S : List UInt8} {st : PS} (h : Left S st) : st.s.length ≤ S.length := by
 obtain ⟨u, hu⟩ := h
 rw [hu, List.length_append]; omega
theorem text_d (rb : Nat) (S : List UInt8) (hS : S.length ≤ 1000000) (gv cv sv : Value) (st : PS) (hl : Left S st) (most : Nat) : SpecH Tryz.prog 100 [.c (.v (.pointer (some ⟨rb, 0, none⟩))), .c (.v (.int .i64 (most : Int)))] (ddE rb S gv cv sv st) (RetG (ι := Unit) (fun _ => True) (fun _ => .string (bs (textM most st).1)) fun _ => ddE rb S gv cv sv (textM most st).2) := by
 refine ownC hm Tryz.func100 (by kernel_rfl) rfl rfl (fun _ _ => ddE_ok _ _ _ _ _ _) (fun _ _ => Nat.le_refl _) ?_
 have hnum := number_rd rb S hS gv cv sv st hl maxN
 have hl1 := hl.num maxN
 have hm1 := num_most maxN st
 unfold textM
 generalize numM maxN st = q at hnum hl1 hm1 ⊢
 obtain ⟨n, st1⟩ := q
 simp only at hnum hl1 hm1 ⊢
 have hm1 : n ≤ 1000000000000000 := hm1
 have hsz := bs_size S
 have hll := left_len hl1
 refine wX ?_
 refine callG (hnum) [0] rfl ⟨rfl, trivial⟩ rfl fun _ _ => ?_
 refine wX ?_
 refine LdN.one (a := some ⟨rb, 0, none⟩) (q := 5) (.int .i64 st1.e) rfl (fun w hw => hw.1) rfl ?_
 refine wX ?_
 refine brd_ne (fun h1 => ?_) (fun h1 => ?_)
 ·rw [if_pos h1]
  refine wX ?_
  exact ⟨(), trivial, rfl, wkH_refl _⟩
 rw [if_neg (fun h => h h1)]
 have e4 : ∀ e : Int, ({ st1 with e := e } : PS) = failM st1 e := fun e => by unfold failM; rw [if_pos h1]
 rw [e4 4, e4 14]
 refine wX ?_
 refine brd_dec (fun h2 => ?_) (fun h2 => ?_)
 ·rw [if_pos (by omega)]
  refine wX ?_
  refine callG (fail_r rb S gv cv sv st1 4) [0] rfl ⟨rfl, trivial⟩ rfl fun _ _ => ?_
  refine wX ?_
  exact ⟨(), trivial, rfl, wkH_refl _⟩
 rw [if_neg (by omega)]
 refine wX ?_
 refine LdN.one (a := some ⟨rb, 0, none⟩) (q := 0) (.string (bs S)) rfl (fun w hw => hw.1) rfl ?_
 refine wX ?_
 refine LdN.one (a := some ⟨rb, 0, none⟩) (q := 1) (.int .i64 ((S.length - st1.s.length : Nat) : Int)) rfl (fun w hw => hw.1) rfl ?_
 refine wX ?_
 have hv : IntKind.i64.wrap (((bs S).size : Int) - ((S.length - st1.s.length : Nat) : Int)) = (st1.s.length : Int) := by rw [hsz, wrap_i64 (by omega)]; omega
 rw [hv]
 refine brd_dec (fun h3 => ?_) (fun h3 => ?_)
 ·rw [if_pos (by omega)]
  refine wX ?_
  refine callG (fail_r rb S gv cv sv st1 14) [0] rfl ⟨rfl, trivial⟩ rfl fun _ _ => ?_
  refine wX ?_
  exact ⟨(), trivial, rfl, wkH_refl _⟩
 rw [if_neg (by omega)]
 have hn : n ≤ st1.s.length := by omega
 have hdl : (st1.s.drop n).length = st1.s.length - n := List.length_drop
 refine wX ?_
 refine LdN.one (a := some ⟨rb, 0, none⟩) (q := 1) (.int .i64 ((S.length - st1.s.length : Nat) : Int)) rfl (fun w hw => hw.1) rfl ?_
 refine wX ?_
 refine EffW.appTo (i := 0) (q := 1) (ys := [_]) [.string (bs S), .int .i64 ((S.length - (st1.s.drop n).length : Nat) : Int), gv, cv, sv, .int .i64 st1.e] 6 rfl rfl rfl rfl rfl rfl rfl (Nat.le_of_ble_eq_true rfl) ?_ rfl ?_
 ·rw [wrap_i64 (by omega), show ((S.length - st1.s.length : Nat) : Int) + (n : Int) = ((S.length - (st1.s.drop n).length : Nat) : Int) by omega]
  rfl
 refine wX ?_
 refine LdN.one (a := some ⟨rb, 0, none⟩) (q := 0) (.string (bs S)) rfl (fun w hw => hw.1) rfl ?_
 refine wX ?_
 refine LdN.one (a := some ⟨rb, 0, none⟩) (q := 1) (.int .i64 ((S.length - (st1.s.drop n).length : Nat) : Int)) rfl (fun w hw => hw.1) rfl ?_
 refine wX ?_
 refine LdN.one (a := some ⟨rb, 0, none⟩) (q := 1) (.int .i64 ((S.length - (st1.s.drop n).length : Nat) : Int)) rfl (fun w hw => hw.1) rfl ?_
 refine wX ?_
 refine ReadW.sl_lh (S.length - st1.s.length) (S.length - st1.s.length + n) rfl (by kernel_rfl) rfl rfl rfl ⟨by rw [wrap_i64 (by omega)]; omega, by omega, by omega, by omega⟩ ?_
 have e1 : (S.take (S.length - st1.s.length + n)).drop (S.length - st1.s.length) = st1.s.take n := by
  obtain ⟨u, hu⟩ := hl1
  have hul : S.length - st1.s.length = u.length := by rw [hu, List.length_append]; omega
  rw [hul, hu, List.take_length_add_append, List.drop_left]
 rw [e1]
 refine wX ?_
 exact ⟨(), trivial, rfl, wkH_refl _⟩
theorem Has_d (a : Option Addr) (l : List (List UInt8)) (cap : Nat) (s : List UInt8) (ha : a = none → l = []) (hl : l.length ≤ 1000000) :
  ∀ H, (∀ w, Facts H w → SlAt a (l.length * 1) (strC l) w) → SpecH Tryz.prog 123 (pvs [.slice a l.length cap, .string (bs s)]) H (Ret (.bool (decide (s ∈ l))) H) := by
 refine factC hm Tryz.func123 (by kernel_rfl) rfl rfl ?_
 refine wX ?_
 refine loopS Nat (fun i => i ≤ l.length ∧ s ∉ l.take i) (fun i => mkS Tryz.f123.ntmps 0 [(0, .c (.v (.slice a l.length cap))), (1, .c (.v (.string (bs s)))), (5, .c (.v (.int .i64 (i : Int))))]) (fun i => l.length - i) rfl (fun _ => rfl) 0 ⟨Nat.zero_le _, by simp⟩ ?_ ?_
 ·exact wKK
 intro i ⟨hi, hno⟩
 refine wX ?_
 refine brd_dec (fun h1 => ?_) (fun h1 => ?_)
 ·obtain ⟨t, ht⟩ : ∃ t, l[i]? = some t := ⟨_, List.getElem?_eq_getElem (by omega)⟩
  have hsa : a.isSome = true := by
   cases h : a with
   | none => rw [ha h] at ht; cases ht
   | some b => rfl
  refine wX ?_
  refine Nd.mk ⟨hsa, by omega, by omega⟩ ?_
  refine wX ?_
  refine LdN.one (.string (bs t)) rfl (fun w hw => hw.1) (by show (strC l)[Int.toNat _ * 1]? = _; rw [Int.toNat_natCast, Nat.mul_one]; exact strC_get ht) ?_
  refine wX ?_
  refine brd_intro (fun h2 => ?_) (fun h2 => ?_)
  ·have h3 : t = s := eq_of_beq (show (t == s) = true from h2)
   refine wX ?_
   rw [decide_eq_true (show s ∈ l by rw [← h3]; exact List.mem_of_getElem? ht)]
  ·have h3 : (t == s) = false := h2
   refine wX ?_
   refine ⟨i + 1, ⟨by omega, ?_⟩, by omega, ?_, wHH⟩
   ·rw [List.take_add_one, ht]
    intro h
    rcases List.mem_append.1 h with h | h
    ·exact hno h
    ·have h4 : s = t := by simpa using h
     rw [h4] at h3
     simp at h3
   ·exact wKK
 ·have hie : i = l.length := by omega
  subst hie
  rw [List.take_length] at hno
  refine wX ?_
  rw [decide_eq_false hno]
theorem lift_d {f : FuncId} {args : List AV} {v : Value} (rb : Nat) (S : List UInt8) (st st' : PS) (p : RdP) (nm : List CellP) (ha : args = rnS [0] 5 args) (keep : st'.ss = st.ss ∧ st'.g = st.g ∧ st'.cells = st.cells)
  (h : SpecH Tryz.prog f args (ddE rb S (.slice p.ga p.m.length p.gc) (.slice p.ca st.cells.length p.cc) (.slice p.sa st.ss.length p.sc) st) (RetG (ι := Unit) (fun _ => True) (fun _ => v) fun _ => ddE rb S (.slice p.ga p.m.length p.gc) (.slice p.ca st.cells.length p.cc) (.slice p.sa st.ss.length p.sc) st')) :
  SpecH Tryz.prog f args (dE rb S st p nm) (RetG (ι := Unit) (fun _ => True) (fun _ => v) fun _ => dE rb S st' p nm) := by
 refine callG h [0] rfl ⟨rfl, trivial⟩ ha fun _ _ => ⟨(), trivial, rfl, ?_⟩
 obtain ⟨s', g', c', ss', e'⟩ := st'
 obtain ⟨rfl, rfl, rfl⟩ := keep
 rfl
theorem fail_d (rb : Nat) (S : List UInt8) (st : PS) (p : RdP) (nm : List CellP) (e : Int) : SpecH Tryz.prog 85 [.c (.v (.pointer (some ⟨rb, 0, none⟩))), .c (.v (.int .i64 e))] (dE rb S st p nm) (RetG (ι := Unit) (fun _ => True) (fun _ => .tuple #[]) fun _ => dE rb S (failM st e) p nm) :=
 lift_d rb S st _ p nm rfl (fail_ss st e) (fail_r rb S _ _ _ st e)
theorem next_d (rb : Nat) (S : List UInt8) (hS : S.length ≤ 1000000) (st : PS) (p : RdP) (nm : List CellP) (hl : Left S st) : SpecH Tryz.prog 84 [.c (.v (.pointer (some ⟨rb, 0, none⟩)))] (dE rb S st p nm) (RetG (ι := Unit) (fun _ => True) (fun _ => .int .u8 ((nextM st).1.toNat : Int)) fun _ => dE rb S (nextM st).2 p nm) :=
 lift_d rb S st _ p nm rfl (next_keep st) (next_r rb S hS _ _ _ st hl)
theorem number_d (rb : Nat) (S : List UInt8) (hS : S.length ≤ 1000000) (st : PS) (p : RdP) (nm : List CellP) (hl : Left S st) (most : Nat) : SpecH Tryz.prog 98 [.c (.v (.pointer (some ⟨rb, 0, none⟩))), .c (.v (.int .i64 (most : Int)))] (dE rb S st p nm) (RetG (ι := Unit) (fun _ => True) (fun _ => .int .i64 ((numM most st).1 : Int)) fun _ => dE rb S (numM most st).2 p nm) :=
 lift_d rb S st _ p nm rfl (num_keep most st) (number_rd rb S hS _ _ _ st hl most)
theorem text_e (rb : Nat) (S : List UInt8) (hS : S.length ≤ 1000000) (st : PS) (p : RdP) (nm : List CellP) (hl : Left S st) (most : Nat) : SpecH Tryz.prog 100 [.c (.v (.pointer (some ⟨rb, 0, none⟩))), .c (.v (.int .i64 (most : Int)))] (dE rb S st p nm) (RetG (ι := Unit) (fun _ => True) (fun _ => .string (bs (textM most st).1)) fun _ => dE rb S (textM most st).2 p nm) :=
 lift_d rb S st _ p nm rfl (text_keep most st) (text_d rb S hS _ _ _ st hl most)
theorem symbol_d (rb : Nat) (S : List UInt8) (hS : S.length ≤ 1000000) (x : UInt8) (st : PS) (p : RdP) (nm : List CellP) (hl : Left S st) (hca : p.sa = none → st.ss = []) (hss : st.ss.length < 100000) : SpecH Tryz.prog 99 [.c (.v (.pointer (some ⟨rb, 0, none⟩))), .c (.v (.int .u8 (x.toNat : Int)))] (dE rb S st p nm) (RetG (ι := Option Addr × Nat) (fun i => i.1 = none → (symD x st).2.ss = []) (fun _ => .string (bs (symD x st).1)) fun i => dE rb S (symD x st).2 { p with sa := i.1, sc := i.2 } nm) := by
  refine ownC hm Tryz.func99 (by kernel_rfl) rfl rfl (fun _ _ => dE_ok _ _ _ _ _) (fun _ _ => Nat.le_refl _) ?_
  have htext := text_e rb S hS st p nm hl 40
  have hnum := number_d rb S hS st p nm hl maxN
  have kt := text_keep 40 st
  have kn := num_keep maxN st
  unfold symD
  generalize textM 40 st = qt at htext kt ⊢
  generalize numM maxN st = qn at hnum kn ⊢
  obtain ⟨t, st1⟩ := qt
  obtain ⟨n, st2⟩ := qn
  simp only at htext hnum kt kn ⊢
  by_cases h59 : x = 59
  · subst h59
    rw [if_pos rfl]
    have ca2 : p.sa = none → st2.ss = [] := fun h => by rw [kn.1]; exact hca h
    refine wX ?_
    refine callG (hnum) [0, 1, 2, 3, 4] rfl ⟨rfl, rfl, rfl, rfl, rfl, trivial⟩ rfl fun _ _ => ?_
    refine wX ?_
    refine LdN.one (a := some ⟨rb, 0, none⟩) (q := 5) (.int .i64 st2.e) rfl (fun w hw => hw.1) rfl ?_
    refine wX ?_
    by_cases he : st2.e = 0
    · rw [show (st2.e == 0) = true by rw [he]; rfl]
      refine wX ?_
      refine LdN.one (a := some ⟨rb, 0, none⟩) (q := 4) (.slice p.sa st2.ss.length p.sc) rfl (fun w hw => hw.1) rfl ?_
      refine wX ?_
      refine brd_dec (fun hlt => ?_) (fun hlt => ?_)
      · rw [if_neg (fun h => by have := h.2; omega)]
        refine wX ?_
        refine callG (fail_d rb S st2 p nm 4) [0, 1, 2, 3, 4] rfl ⟨rfl, rfl, rfl, rfl, rfl, trivial⟩ rfl fun _ _ => ?_
        have he4 : (failM st2 4).e = 4 := fail_e he 4
        refine wX ?_
        refine LdN.one (a := some ⟨rb, 0, none⟩) (q := 5) (.int .i64 (failM st2 4).e) rfl (fun w hw => hw.1) rfl ?_
        rw [he4]
        refine wX ?_
        exact ⟨(p.sa, p.sc), (fun h => by rw [(fail_ss _ _).1]; exact ca2 h), rfl, wkH_refl _⟩
      · have hn : n < st2.ss.length := by omega
        rw [if_pos ⟨he, hn⟩]
        have hsa : p.sa.isSome = true := by
          cases h : p.sa with
          | none =>
            rw [ca2 h] at hn
            exact absurd hn (Nat.not_lt_zero _)
          | some b => rfl
        have hget : st2.ss[n]? = some (st2.ss.getD n []) := by rw [List.getD_eq_getElem?_getD, List.getElem?_eq_getElem hn]; rfl
        refine wX ?_
        refine LdN.one (a := some ⟨rb, 0, none⟩) (q := 5) (.int .i64 st2.e) rfl (fun w hw => hw.1) rfl ?_
        rw [he]
        refine wX ?_
        refine LdN.one (a := some ⟨rb, 0, none⟩) (q := 4) (.slice p.sa st2.ss.length p.sc) rfl (fun w hw => hw.1) rfl ?_
        refine wX ?_
        refine Nd.mk ⟨hsa, by omega, by omega⟩ ?_
        refine wX ?_
        refine LdN.one (.string (bs (st2.ss.getD n []))) rfl (fun w hw => hw.2.2.2.2.1) (by show (strC st2.ss)[Int.toNat _ * 1]? = _; rw [Int.toNat_natCast, Nat.mul_one]; exact strC_get hget) ?_
        refine wX ?_
        exact ⟨(p.sa, p.sc), ca2, rfl, wkH_refl _⟩
    · rw [show (st2.e == 0) = false by simpa using he, if_neg (fun h => he h.1)]
      have e0 : failM st2 4 = st2 := fail_dead he 4
      rw [e0]
      refine wX ?_
      refine LdN.one (a := some ⟨rb, 0, none⟩) (q := 5) (.int .i64 st2.e) rfl (fun w hw => hw.1) rfl ?_
      refine wX ?_
      refine brd_ne (fun _ => ?_) (fun h => absurd h he)
      refine wX ?_
      exact ⟨(p.sa, p.sc), ca2, rfl, wkH_refl _⟩
  rw [if_neg h59]
  have e2 : ((x.toNat : Int) == 59) = false := by
    rw [beq_eq_false_iff_ne]
    intro h5
    exact h59 (UInt8.toNat_inj.1 (by have : x.toNat = 59 := by omega
                                     rw [this]; rfl))
  by_cases h58 : x = 58
  · subst h58
    rw [if_pos rfl]
    have ca1 : p.sa = none → st1.ss = [] := fun h => by rw [kt.1]; exact hca h
    have hl1 : st1.ss.length < 100000 := by rw [kt.1]; exact hss
    refine wX ?_
    refine callG (htext) [0, 1, 2, 3, 4] rfl ⟨rfl, rfl, rfl, rfl, rfl, trivial⟩ rfl fun _ _ => ?_
    refine wX ?_
    refine LdN.one (a := some ⟨rb, 0, none⟩) (q := 5) (.int .i64 st1.e) rfl (fun w hw => hw.1) rfl ?_
    refine wX ?_
    by_cases he : st1.e = 0
    · rw [show (st1.e == 0) = true by rw [he]; rfl, if_neg (fun h => h he)]
      refine wX ?_
      refine LdN.one (a := some ⟨rb, 0, none⟩) (q := 4) (.slice p.sa st1.ss.length p.sc) rfl (fun w hw => hw.1) rfl ?_
      refine wX ?_
      refine call1 (Has_d p.sa st1.ss p.sc t ca1 (by omega) _ (fun w hw => hw.2.2.2.2.1)) ?_
      refine wX ?_
      refine brd_dec (fun hm => ?_) (fun hm => ?_)
      · rw [if_pos hm]
        refine wX ?_
        refine callG (fail_d rb S st1 p nm 4) [0, 1, 2, 3, 4] rfl ⟨rfl, rfl, rfl, rfl, rfl, trivial⟩ rfl fun _ _ => ?_
        have he4 : (failM st1 4).e = 4 := fail_e he 4
        refine wX ?_
        refine LdN.one (a := some ⟨rb, 0, none⟩) (q := 5) (.int .i64 (failM st1 4).e) rfl (fun w hw => hw.1) rfl ?_
        rw [he4]
        refine wX ?_
        exact ⟨(p.sa, p.sc), (fun h => by rw [(fail_ss _ _).1]; exact ca1 h), rfl, wkH_refl _⟩
      · rw [if_neg hm]
        refine wX ?_
        refine LdN.one (a := some ⟨rb, 0, none⟩) (q := 5) (.int .i64 st1.e) rfl (fun w hw => hw.1) rfl ?_
        refine wX ?_
        rw [show (st1.e == 0) = true by rw [he]; rfl]
        refine wX ?_
        refine LdN.one (a := some ⟨rb, 0, none⟩) (q := 4) (.slice p.sa (st1).ss.length p.sc) rfl (fun w hw => hw.1) rfl ?_
        refine wX ?_
        refine Nd.mk ⟨Nat.le_refl 1, rfl, rfl⟩ ?_
        (conv => whnf)
        refine AppN.grow 4 (strC (st1).ss) [.string (bs t)] rfl rfl ⟨Nat.le_refl 1, ⟨by show ((st1).ss.length + 1) * 16 ≤ _; omega, by omega⟩, by decide⟩ fun b' cap' h1 h2 => ?_
        refine wX ?_
        refine EffW.appTo (i := 0) (q := 4) (ys := [_]) (ddC S { (st1) with ss := (st1).ss ++ [t] } { p with sa := some ⟨b', 0, none⟩, sc := cap' }) 6 rfl rfl rfl rfl rfl rfl rfl (Nat.le_of_ble_eq_true rfl) (by simp [ddC]) rfl ?_
        refine wX ?_
        refine ⟨(some ⟨b', 0, none⟩, cap'), (fun h => by cases h), rfl, wkE_refl _, wkE_refl _, wkE_refl _, wkE_refl _, ?_, trivial⟩
        rw [show strC (st1).ss ++ [.string (bs t)] = strC ((st1).ss ++ [t]) by simp [strC], show (st1).ss.length + 1 = ((st1).ss ++ [t]).length by simp]
        exact wkE_refl _
    · rw [show (st1.e == 0) = false by simpa using he, if_pos he]
      refine wX ?_
      refine LdN.one (a := some ⟨rb, 0, none⟩) (q := 5) (.int .i64 st1.e) rfl (fun w hw => hw.1) rfl ?_
      refine wX ?_
      rw [show (st1.e == 0) = false by simpa using he]
      refine wX ?_
      exact ⟨(p.sa, p.sc), ca1, rfl, wkH_refl _⟩
  · rw [if_neg h58]
    have e1 : ((x.toNat : Int) == 58) = false := by
      rw [beq_eq_false_iff_ne]
      intro h5
      exact h58 (UInt8.toNat_inj.1 (by have : x.toNat = 58 := by omega
                                       rw [this]; rfl))
    refine wX ?_
    rw [e2]
    refine wX ?_
    rw [show ((x.toNat : Int) != 58) = true by rw [bne, e1]; rfl]
    refine wX ?_
    refine callG (fail_d rb S st p nm 4) [0, 1, 2, 3, 4] rfl ⟨rfl, rfl, rfl, rfl, rfl, trivial⟩ rfl fun _ _ => ?_
    refine wX ?_
    exact ⟨(p.sa, p.sc), (fun h => by rw [(fail_ss _ _).1]; exact hca h), rfl, wkH_refl _⟩
end Go.Proofs.YtgogonnnojcioaaGreatDoor
namespace Go.Marshal
open Go.Core
def putI (k : Nat) (i : Int) (st : St) : St := { st with g := st.g.set k { st.g.getD k nilC with items := (st.g.getD k nilC).items ++ [i] } }
def putA (k : Nat) (t : B) (i : Int) (st : St) : St := { st with g := st.g.set k { st.g.getD k nilC with names := (st.g.getD k nilC).names ++ [t], items := (st.g.getD k nilC).items ++ [i] } }
def itemsD (f : St → Except Int (Int × St)) (k : Nat) : Nat → St → Except Int (Unit × St)
 | 0, st => .ok ((), st)
 | n + 1, st => bnd (f st) fun i st => itemsD f k n (putI k i st)
def attrsD (f : St → Except Int (Int × St)) (k : Nat) : Nat → St → Except Int (Unit × St)
 | 0, st => .ok ((), st)
 | n + 1, st => bnd (nextS st) fun x st => bnd (symS x st) fun t st =>
  if Go.Scan.iiB t = true ∧ t ∉ (st.g.getD k nilC).names then bnd (f st) fun i st => attrsD f k n (putA k t i st) else .error 4
def addS (c : Cell) (st : St) : St := { st with g := st.g ++ [c] }
def openK (k : Int) (st : St) : St := ⟨st.s, st.g ++ [⟨k, 0, [], [], []⟩], st.cells ++ [(st.g.length : Int)], st.ss⟩
def setT (k : Nat) (t : B) (st : St) : St := { st with g := st.g.set k { st.g.getD k nilC with text := t } }
def objD (f : St → Except Int (Int × St)) (k : Nat) (st : St) : Except Int (Unit × St) :=
 bnd (nextS st) fun y st => bnd (symS y st) fun t st => if Go.Scan.icB t = true then bnd (numS maxN (setT k t st)) fun n st => attrsD f k n st else .error 4
def innerD (f : St → Except Int (Int × St)) (x : UInt8) (st : St) : Except Int (Unit × St) :=
 if x = 48 then .ok ((), addS ⟨0, 0, [], [], []⟩ st)
 else if x = 84 then .ok ((), addS ⟨1, 0, [], [], []⟩ st)
 else if x = 70 then .ok ((), addS ⟨2, 0, [], [], []⟩ st)
 else if x = 105 then bnd (numS (2 * maxN) st) fun n st => .ok ((), addS ⟨3, unsgn n, [], [], []⟩ st)
 else if x = 34 then bnd (textS maxN (openK 4 st)) fun t st' => .ok ((), setT st.g.length t st')
 else if x = 58 ∨ x = 59 then bnd (symS x st) fun t st => .ok ((), addS ⟨5, 0, t, [], []⟩ st)
 else if x = 91 then bnd (numS maxN (openK 6 st)) fun n st' => itemsD f st.g.length n st'
 else if x = 123 then bnd (numS maxN (openK 7 st)) fun n st' => itemsD f st.g.length (2 * n) st'
 else objD f st.g.length (openK 8 st)
def formD : Nat → St → Except Int (Int × St)
 | 0, _ => .error 99
 | n + 1, st => bnd (nextS st) fun x st =>
  if x = 64 then bnd (numS maxN st) fun k st => match st.cells[k]? with
   | some c => .ok (c, st)
   | none => .error 4
  else if 500 ≤ st.g.length ∨ x ∉ begins then .error 4
  else bnd (innerD (formD n) x st) fun _ st' => .ok ((st.g.length : Int), st')
theorem getD_set {l : List Cell} {k : Nat} (c : Cell) (h : k < l.length) : (l.set k c).getD k nilC = c := by
 rw [List.getD_eq_getElem?_getD, List.getElem?_set_self h]; rfl
theorem set_app {l t : List Cell} {k : Nat} (c : Cell) (h : k < l.length) : (l ++ t).set k c = l.set k c ++ t := by
 rw [List.set_append_left _ _ h]
theorem FrS.at {α : Type} {f : St → Except Int (α × St)} (hf : FrS f) (k : Nat) (c : Cell) (st : St) (h : k < st.g.length) : f (gS st (st.g.set k c)) = match f st with
  | .ok (a, st') => .ok (a, gS st' (st'.g.set k c))
  | .error e => .error e := by
 cases hr : f st with
 | error e => exact hf.err st e hr _ (by simp)
 | ok p =>
  obtain ⟨a, st'⟩ := p
  obtain ⟨tl, e1, k1⟩ := hf.ok st a st' hr
  rw [k1 _ (by simp)]
  simp only
  rw [e1, set_app c h]
theorem FrS.grows {α : Type} {f : St → Except Int (α × St)} (hf : FrS f) {st st' : St} {a : α} (h : f st = .ok (a, st')) : st.g.length ≤ st'.g.length := by
 obtain ⟨tl, e1, _⟩ := hf.ok st a st' h
 rw [e1, List.length_append]; omega
theorem itemsD_eq {f : St → Except Int (Int × St)} (hf : FrS f) (k : Nat) (c : Cell) : ∀ (n : Nat) (l : List Int) (st : St), k < st.g.length → itemsD f k n (gS st (st.g.set k { c with items := l })) = bnd (itemsA f n l st) fun l' st' => .ok ((), gS st' (st'.g.set k { c with items := l' }))
 | 0, l, st, h => rfl
 | n + 1, l, st, h => by
  unfold itemsD itemsA
  rw [hf.at k _ st h]
  cases hr : f st with
  | error e => rfl
  | ok p =>
   obtain ⟨i, st'⟩ := p
   have h2 := Nat.lt_of_lt_of_le h (hf.grows hr)
   show itemsD f k n (putI k i (gS st' (st'.g.set k _))) = bnd (itemsA f n (l ++ [i]) st') _
   rw [← itemsD_eq hf k c n (l ++ [i]) st' h2]
   congr 1
   unfold putI gS
   simp only [getD_set _ h2, List.set_set]
theorem attrsD_eq {f : St → Except Int (Int × St)} (hf : FrS f) (k : Nat) (c : Cell) : ∀ (n : Nat) (ns : List B) (l : List Int) (st : St), k < st.g.length → attrsD f k n (gS st (st.g.set k { c with names := ns, items := l })) = bnd (attrsA f n ns l st) fun p st' => .ok ((), gS st' (st'.g.set k { c with names := p.1, items := p.2 }))
 | 0, ns, l, st, h => rfl
 | n + 1, ns, l, st, h => by
  unfold attrsD attrsA
  rw [FrS.next.at k _ st h]
  cases hr : nextS st with
  | error e => rfl
  | ok p =>
   obtain ⟨x, s1⟩ := p
   have h1 := Nat.lt_of_lt_of_le h (FrS.next.grows hr)
   show bnd (symS x (gS s1 (s1.g.set k { c with names := ns, items := l }))) _ = bnd (bnd (symS x s1) _) _
   rw [(FrS.sym x).at k _ s1 h1]
   cases hr2 : symS x s1 with
   | error e => rfl
   | ok p =>
    obtain ⟨t, s2⟩ := p
    have h2 := Nat.lt_of_lt_of_le h1 ((FrS.sym x).grows hr2)
    have e0 : ((gS s2 (s2.g.set k { c with names := ns, items := l })).g.getD k nilC).names = ns := by
     show ((s2.g.set k { c with names := ns, items := l }).getD k nilC).names = ns
     rw [getD_set _ h2]
    show (if Go.Scan.iiB t = true ∧ t ∉ ((gS s2 (s2.g.set k { c with names := ns, items := l })).g.getD k nilC).names then _ else _) = bnd (if Go.Scan.iiB t = true ∧ t ∉ ns then _ else _) _
    rw [e0]
    by_cases hc : Go.Scan.iiB t = true ∧ t ∉ ns
    ·rw [if_pos hc, if_pos hc, hf.at k _ s2 h2]
     cases hr3 : f s2 with
     | error e => rfl
     | ok p =>
      obtain ⟨i, s3⟩ := p
      have h3 := Nat.lt_of_lt_of_le h2 (hf.grows hr3)
      show attrsD f k n (putA k t i (gS s3 (s3.g.set k _))) = bnd (attrsA f n (ns ++ [t]) (l ++ [i]) s3) _
      rw [← attrsD_eq hf k c n (ns ++ [t]) (l ++ [i]) s3 h3]
      congr 1
      unfold putA gS
      simp only [getD_set _ h3, List.set_set]
    ·rw [if_neg hc, if_neg hc]
     rfl
theorem set_last (g : List Cell) (c d : Cell) : (g ++ [c]).set g.length d = g ++ [d] := by
 rw [List.set_append_right _ _ (Nat.le_refl _), Nat.sub_self]; rfl
theorem openS_named {x : UInt8} (h : x ∈ named) (st : St) : openS x st = ⟨st.s, st.g ++ [nilC], st.cells ++ [(st.g.length : Int)], st.ss⟩ := by unfold openS; rw [if_pos h]
theorem openK_eq {x : UInt8} (h : x ∈ named) (k : Int) (st : St) : openK k st = gS (openS x st) ((openS x st).g.set st.g.length ⟨k, 0, [], [], []⟩) := by
 rw [openS_named h]
 unfold openK gS
 simp only [set_last]
theorem open_len (x : UInt8) (st : St) : st.g.length < (openS x st).g.length := by
 show _ < (st.g ++ [nilC]).length
 simp
structure Free {α : Type} (f : St → Except Int (α × St)) : Prop where
 eq : ∀ st g2, f (gS st g2) = match f st with
  | .ok (a, st') => .ok (a, gS st' g2)
  | .error e => .error e
 keep : ∀ st a st', f st = .ok (a, st') → st'.g = st.g
theorem Free.num (most : Nat) : Free (numS most) := by
 refine ⟨fun st g2 => ?_, fun st a st' h => ?_⟩
 ·unfold numS gS
  cases rd most st.s <;> rfl
 ·unfold numS at h
  split at h
  ·cases h
  ·cases h; rfl
theorem Free.text (most : Nat) : Free (textS most) := by
 refine ⟨fun st g2 => ?_, fun st a st' h => ?_⟩
 ·unfold textS gS
  cases rdT most st.s <;> rfl
 ·unfold textS at h
  split at h
  ·cases h
  ·cases h; rfl
theorem Free.sym (x : UInt8) : Free (symS x) := by
 refine ⟨fun st g2 => ?_, fun st a st' h => ?_⟩
 ·unfold symS gS
  cases rdSym x st.ss st.s <;> rfl
 ·unfold symS at h
  split at h
  ·cases h
  ·cases h; rfl
theorem Free.next : Free nextS := by
 refine ⟨fun st g2 => ?_, fun st a st' h => ?_⟩
 ·unfold nextS gS
  cases st.s <;> rfl
 ·unfold nextS at h
  split at h
  ·cases h
  ·cases h; rfl
theorem open_leaf {x : UInt8} (hx : x ∉ named) (st : St) : openS x st = gS st (st.g ++ [nilC]) := by unfold openS gS; rw [if_neg hx]
theorem leaf_eq {α : Type} {f : St → Except Int (α × St)} (hf : Free f) {x : UInt8} (hx : x ∉ named) (c : α → Cell) (st : St) :
  (bnd (bnd (f st) fun a st => .ok ((), addS (c a) st)) fun _ st' => .ok ((st.g.length : Int), st')) = bnd (bnd (f (openS x st)) fun a st => .ok (c a, st)) fun c st' => .ok ((st.g.length : Int), setS st.g.length c st') := by
 rw [open_leaf hx, hf.eq]
 cases hr : f st with
 | error e => rfl
 | ok p =>
  obtain ⟨a, s1⟩ := p
  have hg := hf.keep st a s1 hr
  show Except.ok ((st.g.length : Int), addS (c a) s1) = Except.ok ((st.g.length : Int), setS st.g.length (c a) (gS s1 (st.g ++ [nilC])))
  unfold addS setS gS
  simp only [hg, set_last]
theorem const_eq {x : UInt8} (hx : x ∉ named) (c : Cell) (st : St) : (.ok ((st.g.length : Int), addS c st) : Except Int (Int × St)) = .ok ((st.g.length : Int), setS st.g.length c (openS x st)) := by
 rw [open_leaf hx]
 unfold addS setS gS
 simp only [set_last]
theorem text_eq (st : St) : (bnd (bnd (textS maxN (openK 4 st)) fun t st' => .ok ((), setT st.g.length t st')) fun _ st' => .ok ((st.g.length : Int), st')) = bnd (bnd (textS maxN (openS 34 st)) fun t st' => .ok (⟨4, 0, t, [], []⟩, st')) fun c st' => .ok ((st.g.length : Int), setS st.g.length c st') := by
 have hl := open_len 34 st
 rw [openK_eq (x := 34) (by decide), (Free.text maxN).eq]
 cases hr : textS maxN (openS 34 st) with
 | error e => rfl
 | ok p =>
  obtain ⟨t, s1⟩ := p
  have hg := (Free.text maxN).keep _ _ _ hr
  show Except.ok ((st.g.length : Int), setT st.g.length t (gS s1 ((openS 34 st).g.set st.g.length ⟨4, 0, [], [], []⟩))) = Except.ok ((st.g.length : Int), setS st.g.length ⟨4, 0, t, [], []⟩ s1)
  unfold setT setS gS
  simp only [getD_set _ hl, List.set_set, hg]
theorem list_eq {f : St → Except Int (Int × St)} (hf : FrS f) {x : UInt8} (hx : x ∈ named) (k : Int) (m : Nat → Nat) (st : St) : (bnd (bnd (numS maxN (openK k st)) fun n st' => itemsD f st.g.length (m n) st') fun _ st' => .ok ((st.g.length : Int), st')) = bnd (bnd (numS maxN (openS x st)) fun n st' => bnd (itemsA f (m n) [] st') fun l st' => .ok (⟨k, 0, [], [], l⟩, st')) fun c st' => .ok ((st.g.length : Int), setS st.g.length c st') := by
 have hl := open_len x st
 rw [openK_eq hx, (Free.num maxN).eq]
 cases hr : numS maxN (openS x st) with
 | error e => rfl
 | ok p =>
  obtain ⟨n, s1⟩ := p
  have hg := (Free.num maxN).keep _ _ _ hr
  have h9 := itemsD_eq hf st.g.length ⟨k, 0, [], [], []⟩ (m n) [] s1 (by rw [hg]; exact hl)
  rw [hg] at h9
  show bnd (itemsD f st.g.length (m n) (gS s1 ((openS x st).g.set st.g.length ⟨k, 0, [], [], []⟩))) _ = bnd (bnd (itemsA f (m n) [] s1) _) _
  rw [h9]
  cases itemsA f (m n) [] s1 with
  | error e => rfl
  | ok q => rfl
theorem obj_eq {f : St → Except Int (Int × St)} (hf : FrS f) (st : St) : (bnd (objD f st.g.length (openK 8 st)) fun _ st' => .ok ((st.g.length : Int), st')) = bnd (bnd (nextS (openS 111 st)) fun y st => bnd (symS y st) fun t st => if Go.Scan.icB t = true then bnd (numS maxN st) fun n st => bnd (attrsA f n [] [] st) fun p st => .ok ((⟨8, 0, t, p.1, p.2⟩ : Cell), st) else .error 4) fun c st' => .ok ((st.g.length : Int), setS st.g.length c st') := by
 have hl := open_len 111 st
 unfold objD
 rw [openK_eq (x := 111) (by decide), Free.next.eq]
 cases hr : nextS (openS 111 st) with
 | error e => rfl
 | ok p =>
  obtain ⟨y, s1⟩ := p
  have hg1 := Free.next.keep _ _ _ hr
  show bnd (bnd (symS y (gS s1 _)) _) _ = bnd (bnd (symS y s1) _) _
  rw [(Free.sym y).eq]
  cases hr2 : symS y s1 with
  | error e => rfl
  | ok p =>
   obtain ⟨t, s2⟩ := p
   have hg2 := (Free.sym y).keep _ _ _ hr2
   show bnd (if Go.Scan.icB t = true then _ else _) _ = bnd (if Go.Scan.icB t = true then _ else _) _
   by_cases hc : Go.Scan.icB t = true
   ·rw [if_pos hc, if_pos hc]
    have hs : setT st.g.length t (gS s2 ((openS 111 st).g.set st.g.length ⟨8, 0, [], [], []⟩)) = gS s2 ((openS 111 st).g.set st.g.length ⟨8, 0, t, [], []⟩) := by
     unfold setT gS
     simp only [getD_set _ hl, List.set_set]
    rw [hs, (Free.num maxN).eq]
    cases hr3 : numS maxN s2 with
    | error e => rfl
    | ok p =>
     obtain ⟨n, s3⟩ := p
     have hg3 := (Free.num maxN).keep _ _ _ hr3
     have hg : s3.g = (openS 111 st).g := by rw [hg3, hg2, hg1]
     have h9 := attrsD_eq hf st.g.length ⟨8, 0, t, [], []⟩ n [] [] s3 (by rw [hg]; exact hl)
     rw [hg] at h9
     show bnd (attrsD f st.g.length n (gS s3 ((openS 111 st).g.set st.g.length ⟨8, 0, t, [], []⟩))) _ = bnd (bnd (attrsA f n [] [] s3) _) _
     rw [h9]
     cases attrsA f n [] [] s3 with
     | error e => rfl
     | ok q => rfl
   ·rw [if_neg hc, if_neg hc]
    rfl
theorem formD_eq : ∀ n : Nat, formD n = formF n
 | 0 => rfl
 | n + 1 => by
  funext st
  have ih := formD_eq n
  have hf := FrS.form n
  unfold formD formF
  refine Marshal.bnd_congr fun x st _ => ?_
  by_cases h64 : x = 64
  ·rw [if_pos h64, if_pos h64]
   exact Marshal.bnd_congr fun k st _ => by cases st.cells[k]? <;> rfl
  rw [if_neg h64, if_neg h64]
  by_cases hc : 500 ≤ st.g.length ∨ x ∉ begins
  ·rw [if_pos hc, if_pos hc]
  rw [if_neg hc, if_neg hc, ih]
  have hb : x ∈ begins := Classical.not_not.1 fun h => hc (.inr h)
  unfold begins at hb
  simp only [List.mem_cons, List.not_mem_nil, or_false] at hb
  rcases hb with rfl | rfl | rfl | rfl | rfl | rfl | rfl | rfl | rfl | rfl
  ·exact const_eq (x := 48) (by decide) _ st
  ·exact const_eq (x := 84) (by decide) _ st
  ·exact const_eq (x := 70) (by decide) _ st
  ·exact leaf_eq (Free.num (2 * maxN)) (x := 105) (by decide) (fun n => ⟨3, unsgn n, [], [], []⟩) st
  ·exact text_eq st
  ·exact leaf_eq (Free.sym 58) (x := 58) (by decide) (fun t => ⟨5, 0, t, [], []⟩) st
  ·exact leaf_eq (Free.sym 59) (x := 59) (by decide) (fun t => ⟨5, 0, t, [], []⟩) st
  ·exact list_eq hf (x := 91) (by decide) 6 (fun n => n) st
  ·exact list_eq hf (x := 123) (by decide) 7 (fun n => 2 * n) st
  ·exact obj_eq hf st
def Tel {α : Type} (R : Except Int (α × St)) (v : α) (st : PS) : Prop := match R with
 | .ok (a, s) => v = a ∧ st = ofS s
 | .error e => st.e = e ∧ e ≠ 0
theorem Tel.live {α : Type} {R : Except Int (α × St)} {v : α} {st : PS} (h : Tel R v st) (h0 : st.e = 0) : R = .ok (v, toS st) := by
 cases R with
 | error e => exact absurd (h.1.symm.trans h0) h.2
 | ok p =>
  obtain ⟨a, s⟩ := p
  obtain ⟨rfl, h2⟩ := h
  rw [h2]
  rfl
theorem Tel.dead {α : Type} {R : Except Int (α × St)} {v : α} {st : PS} (h : Tel R v st) (hd : st.e ≠ 0) : R = .error st.e := by
 cases R with
 | error e => rw [h.1]
 | ok p =>
  obtain ⟨a, s⟩ := p
  exact absurd (by rw [h.2]; rfl) hd
theorem Tel.ok {α : Type} {v : α} {st : PS} (h0 : st.e = 0) : Tel (.ok (v, toS st)) v st := ⟨rfl, (ofS_toS h0).symm⟩
theorem Ref.tel {α : Type} {F : St → Except Int (α × St)} {M : PS → α × PS} (h : Ref F M) {st : PS} (h0 : st.e = 0) : Tel (F (toS st)) (M st).1 (M st).2 := by
 cases hr : F (toS st) with
 | error e => exact h.err st e h0 hr
 | ok p =>
  obtain ⟨a, s⟩ := p
  rw [h.ok st a s h0 hr]
  exact ⟨rfl, rfl⟩
theorem Tel.bnd {α β : Type} {R : Except Int (α × St)} {v : α} {st : PS} (h : Tel R v st) {G : α → St → Except Int (β × St)} {w : β} {st2 : PS} (hl : st.e = 0 → Tel (G v (toS st)) w st2) (hd : st.e ≠ 0 → st2.e = st.e) : Tel (Marshal.bnd R G) w st2 := by
 by_cases h0 : st.e = 0
 ·rw [h.live h0]
  exact hl h0
 ·rw [h.dead h0]
  exact ⟨hd h0, h0⟩
theorem symD_le (x : UInt8) (st : PS) : Le (if x = 58 then 1 else 0) st (symD x st).2 := by
 have hn := num_le maxN st
 have ht := text_le 40 st
 unfold symD
 by_cases h59 : x = 59
 ·rw [if_pos h59, if_neg (by rw [h59]; decide)]
  split
  ·exact hn
  ·exact hn.trans (fail_le _ 4)
 rw [if_neg h59]
 by_cases h58 : x = 58
 ·rw [if_pos h58, if_pos h58]
  show Le 1 st (if (textM 40 st).2.e ≠ 0 then (textM 40 st).2 else if (textM 40 st).1 ∈ (textM 40 st).2.ss then failM (textM 40 st).2 4 else { (textM 40 st).2 with ss := (textM 40 st).2.ss ++ [(textM 40 st).1] })
  split
  ·exact ht.mono (by omega)
  split
  ·exact (ht.trans (fail_le _ 4)).mono (by omega)
  ·exact ⟨by have := ht.pot; simp; omega, ht.s, ht.g, ht.g5, ht.cl⟩
 ·rw [if_neg h58, if_neg h58]
  exact fail_le st 4
theorem symD_keep (x : UInt8) (st : PS) : (symD x st).2.g = st.g ∧ (symD x st).2.cells = st.cells := by
 have hn : (numM maxN st).2.g = st.g ∧ (numM maxN st).2.cells = st.cells := by
  unfold numM
  split
  ·exact ⟨rfl, rfl⟩
  split <;> exact ⟨rfl, rfl⟩
 have hf : ∀ (a : PS) (e : Int), (failM a e).g = a.g ∧ (failM a e).cells = a.cells := fun a e => by unfold failM; split <;> exact ⟨rfl, rfl⟩
 have ht : (textM 40 st).2.g = st.g ∧ (textM 40 st).2.cells = st.cells := by
  unfold textM
  split
  ·exact hn
  split
  ·exact hn
  split <;> exact hn
 unfold symD
 split
 ·split
  ·exact hn
  ·exact ⟨(hf _ 4).1.trans hn.1, (hf _ 4).2.trans hn.2⟩
 split
 ·simp only
  split
  ·exact ht
  split
  ·exact ⟨(hf _ 4).1.trans ht.1, (hf _ 4).2.trans ht.2⟩
  ·exact ht
 ·exact hf st 4
theorem nextsymD_le (st : PS) : Le 0 st (symD (nextM st).1 (nextM st).2).2 := by
 have h := symD_le (nextM st).1 (nextM st).2
 by_cases hx : (nextM st).1 = 58
 ·rw [if_pos hx] at h
  obtain ⟨h1, h2, h3, h4, _⟩ := next_lt (st := st) (.inr (by rw [hx]; decide))
  have h5 := h.pot
  have h6 := h.cl
  rw [h2] at h5
  rw [h3, h4] at h6
  exact ⟨by omega, Nat.le_trans h.s (by omega), by rw [← h3]; exact h.g, fun h0 => h.g5 (by rw [h3]; exact h0), h6⟩
 ·rw [if_neg hx] at h
  exact (next_le st).trans h
theorem symD_len (x : UInt8) (st : PS) (hs : st.s.length ≤ 30000) (hw : ∀ t ∈ st.ss, t.length ≤ 30000) : (symD x st).1.length ≤ 30000 ∧ ∀ t ∈ (symD x st).2.ss, t.length ≤ 30000 := by
 have hk : (numM maxN st).2.ss = st.ss := by
  unfold numM
  split
  ·rfl
  split <;> rfl
 have hf : ∀ (a : PS) (e : Int), (failM a e).ss = a.ss := fun a e => by unfold failM; split <;> rfl
 have htk : (textM 40 st).2.ss = st.ss := by
  unfold textM
  split
  ·exact hk
  split
  ·exact hk
  split <;> exact hk
 have htl := text_len 40 st
 unfold symD
 split
 ·split
  ·rename_i h
   refine ⟨?_, by rw [hk]; exact hw⟩
   show ((numM maxN st).2.ss.getD (numM maxN st).1 []).length ≤ _
   rw [hk] at h ⊢
   rw [List.getD_eq_getElem?_getD, List.getElem?_eq_getElem h.2]
   exact hw _ (List.getElem_mem _)
  ·exact ⟨Nat.zero_le _, by rw [hf, hk]; exact hw⟩
 split
 ·refine ⟨Nat.le_trans htl hs, ?_⟩
  simp only
  split
  ·rw [htk]; exact hw
  split
  ·rw [hf, htk]; exact hw
  ·intro t ht
   simp only [htk] at ht
   rcases List.mem_append.1 ht with h | h
   ·exact hw t h
   ·rw [List.mem_singleton.1 h]; omega
 ·exact ⟨Nat.zero_le _, by rw [hf]; exact hw⟩
end Go.Marshal
namespace Go.Proofs.YtgogonnnojcioaaGreatDoor
open Go.AX Go.RowKit Go.Core Go.Marshal
set_option maxRecDepth 20000
structure OkD (st : PS) (p : RdP) : Prop where
 g : p.m.map (·.c) = st.g
 ga : p.ga = none → p.m = []
 ca : p.ca = none → st.cells = []
 sa : p.sa = none → st.ss = []
 sw : ∀ t ∈ st.ss, t.length ≤ 30000
 gx : p.ga = none ∨ ∃ b : Nat, p.ga = some ⟨b, 0, none⟩
theorem OkD.same {st st' : PS} {p : RdP} (ok : OkD st p) (h : st'.ss = st.ss ∧ st'.g = st.g ∧ st'.cells = st.cells) : OkD st' p :=
 ⟨by rw [h.2.1]; exact ok.g, ok.ga, by rw [h.2.2]; exact ok.ca, by rw [h.1]; exact ok.sa, by rw [h.1]; exact ok.sw, ok.gx⟩
theorem OkD.sym {st : PS} {p : RdP} (ok : OkD st p) (hs : st.s.length ≤ 30000) (x : UInt8) {i : Option Addr × Nat} (hi : i.1 = none → (symD x st).2.ss = []) : OkD (symD x st).2 { p with sa := i.1, sc := i.2 } :=
 ⟨by rw [(symD_keep x st).1]; exact ok.g, ok.ga, by rw [(symD_keep x st).2]; exact ok.ca, hi, (symD_len x st hs ok.sw).2, ok.gx⟩
abbrev plP (c : Cell) : CellP := ⟨c, none, 0, none, 0⟩
def addP (st : PS) (c : Cell) : PS := { st with g := st.g ++ [c] }
theorem OkD.add {st : PS} {p : RdP} (ok : OkD st p) (c : Cell) (b gc : Nat) : OkD (addP st c) { p with m := p.m ++ [plP c], ga := some ⟨b, 0, none⟩, gc := gc } :=
 ⟨by show (p.m ++ [plP c]).map (·.c) = st.g ++ [c]; rw [List.map_append, ok.g]; rfl, (fun h => by cases h), ok.ca, ok.sa, ok.sw, .inr ⟨b, rfl⟩⟩
theorem add_d (rb : Nat) (S : List UInt8) (st : PS) (p : RdP) (nm : List CellP) (c : Cell) (hc : c.names = [] ∧ c.items = []) (hl : p.m.length ≤ 1000000) : SpecH Tryz.prog 97 [.c (.v (.pointer (some ⟨rb, 0, none⟩))), .c (.v (.agg #[.int .i64 c.kind, .int .i64 c.num, .string (bs c.text), .slice none 0 0, .slice none 0 0]))] (dE rb S st p nm)
  (RetG (ι := Nat × Nat) (fun _ => True) (fun _ => .int .i64 (p.m.length : Int)) fun i => dE rb S (addP st c) { p with m := p.m ++ [plP c], ga := some ⟨i.1, 0, none⟩, gc := i.2 } nm) := by
 refine ownC hm Tryz.func97 (by kernel_rfl) rfl rfl (fun _ _ => dE_ok _ _ _ _ _) (fun _ _ => Nat.le_refl _) ?_
 refine wX ?_
 refine DrawN.plan [0, 1] [(2, 1), (3, 1), (4, 1), (5, 1), (6, 0)] [(7, 0), (8, 0), (9, 0), (10, 0)] (by decide +kernel) ?_
 refine wX ?_
 refine LdN.one (a := some ⟨rb, 0, none⟩) (q := 2) (.slice p.ga p.m.length p.gc) rfl (fun w hw => hw.1) rfl ?_
 have hn := hc.1
 have hi := hc.2
 obtain ⟨k, num, t, ns, its⟩ := c
 simp only at hn hi
 subst hn
 subst hi
 refine wX ?_
 refine Nd.mk ⟨Nat.le_refl 1, rfl, rfl⟩ ?_
 (conv => whnf)
 refine AppN.grow 1 (grC p.m) (cellC (plP ⟨k, num, t, [], []⟩)) rfl rfl ⟨Nat.le_refl 1, ⟨by show (p.m.length + 1) * 80 ≤ _; omega, by omega⟩, by decide⟩ fun gb gc' g1 g2 => ?_
 refine wX ?_
 have hml : p.m.length + 1 = (p.m ++ [plP ⟨k, num, t, [], []⟩]).length := by simp
 rw [← grC_snoc, hml]
 refine EffW.appTo (i := 0) (q := 2) (ys := [_]) (ddC S (addP st ⟨k, num, t, [], []⟩) { p with m := p.m ++ [plP ⟨k, num, t, [], []⟩], ga := some ⟨gb, 0, none⟩, gc := gc' }) 6 rfl rfl rfl rfl rfl rfl rfl (Nat.le_of_ble_eq_true rfl) rfl rfl ?_
 refine wX ?_
 refine LdN.one (a := some ⟨rb, 0, none⟩) (q := 2) (.slice (some ⟨gb, 0, none⟩) (p.m ++ [plP ⟨k, num, t, [], []⟩]).length gc') rfl (fun w hw => hw.1) rfl ?_
 refine wX ?_
 have e1 : ((p.m ++ [plP ⟨k, num, t, [], []⟩]).length : Int) - 1 = (p.m.length : Int) := by rw [← hml]; omega
 rw [e1]
 exact ⟨(gb, gc'), trivial, rfl, wHH⟩
end Go.Proofs.YtgogonnnojcioaaGreatDoor
namespace Go.AX
structure RowD where
 T : TypeId
 sz : Nat
 n : Nat
 xs : List Value
 b : Nat
 cap : Nat
def RowD.ok (r : RowD) (w : World) : Prop := RowF r.T r.sz r.n r.xs r.b r.cap w
def TurnE (H G : List Ent) : Prop := G.length = H.length ∧ ∀ (ρ : List Loc) (S : Nat → Prop) (w : World), Sat ρ S H w → Sat ρ S G w ∧ Ev ρ S H w ρ S G w
theorem TurnE.s {H G : List Ent} (h : TurnE H G) : TurnS H G := ⟨h.1, fun ρ S w hs => ⟨S, h.2 ρ S w hs⟩⟩
theorem TurnE.refl (H : List Ent) : TurnE H H := ⟨rfl, fun _ _ _ hs => ⟨hs, Ev.refl _ _ _ _⟩⟩
theorem TurnE.trans {H G J : List Ent} (h : TurnE H G) (k : TurnE G J) : TurnE H J :=
 ⟨k.1.trans h.1, fun ρ S w hs => by
  obtain ⟨h1, e1⟩ := h.2 ρ S w hs
  obtain ⟨h2, e2⟩ := k.2 ρ S w h1
  exact ⟨h2, e1.trans e2⟩⟩
theorem TurnS.trans {H G J : List Ent} (h : TurnS H G) (k : TurnS G J) : TurnS H J :=
 ⟨k.1.trans h.1, fun ρ S w hs => by
  obtain ⟨S1, h1, e1⟩ := h.2 ρ S w hs
  obtain ⟨S2, h2, e2⟩ := k.2 ρ S1 w h1
  exact ⟨S2, h2, e1.trans e2⟩⟩
end Go.AX
namespace Go.Proofs.YtgogonnnojcioaaGreatDoor
open Go.AX Go.RowKit Go.Core
set_option maxRecDepth 20000
def setI (p : CellP) (its : List Int) (ia : Option Addr) (ic : Nat) : CellP := ⟨{ p.c with items := its }, p.na, p.nc, ia, ic⟩
theorem grC_set : ∀ {m : List CellP} {j : Nat} {p : CellP} (its : List Int) (ia : Option Addr) (ic : Nat), m[j]? = some p → (grC m).set (j * 5 + 4) (.slice ia its.length ic) = grC (m.set j (setI p its ia ic))
 | [], _, _, _, _, _, h => by cases h
 | q :: m, 0, p, its, ia, ic, h => by
  obtain rfl := Option.some.inj h
  rfl
 | q :: m, j + 1, p, its, ia, ic, h => by
  have ih := grC_set its ia ic (show m[j]? = some p from h)
  have e : ∀ q : CellP, grC (q :: m) = cellC q ++ grC m := fun q => by unfold grC; rw [List.flatMap_cons]
  rw [e, List.set_cons_succ, show (j + 1) * 5 + 4 = (j * 5 + 4) + 5 by omega]
  have e2 : grC (q :: m.set j (setI p its ia ic)) = cellC q ++ grC (m.set j (setI p its ia ic)) := by unfold grC; rw [List.flatMap_cons]
  rw [e2, ← ih]
  rfl
theorem SlAt.take {a : Option Addr} {k j : Nat} {xs : List Value} {w : World} (h : SlAt a k xs w) (hj : j ≤ k) : SlAt a j (xs.take j) w :=
 ⟨by rw [List.length_take, h.1]; omega, fun h0 => h.2.1 (by omega), fun i hi => by rw [h.2.2 i (by omega), List.getElem?_take_of_lt hi]⟩
theorem Valid_b (a : Option Addr) (ca : Nat) (l : List CellP) (ha : a = none → l = []) (hl : l.length ≤ 200000000000000) (hok : ∀ p ∈ l, CellOk p) :
  ∃ b : Bool, (b = true ↔ ValidP (l.map (·.c))) ∧ ∀ H, (∀ w, Facts H w → GrF a l w) → SpecH Tryz.prog 31 (pvs [.slice a l.length ca]) H (Ret (.bool b) H) := by
 obtain ⟨b, hb⟩ : ∃ b : Bool, b = true ↔ ValidP (l.map (·.c)) := by
  by_cases h : ValidP (l.map (·.c))
  ·exact ⟨true, fun _ => h, fun _ => rfl⟩
  ·exact ⟨false, (fun h => by cases h), fun h2 => absurd h2 h⟩
 refine ⟨b, hb, fun H hH => ?_⟩
 obtain ⟨b2, hb2, h⟩ := Valid_c a ca l ha hl hok H hH
 obtain rfl : b2 = b := by rw [Bool.eq_iff_iff, hb, hb2]
 exact h
end Go.Proofs.YtgogonnnojcioaaGreatDoor
namespace Go.Proofs.YtgogonnnojcioaaGreatDoor
open Go.AX Go.RowKit Go.Core Go.Marshal
set_option maxRecDepth 20000
structure DR where
 v : Int
 st : PS
 p : RdP
 nm : List CellP
structure DPost (R : Except Int (Int × St)) (S : List UInt8) (st : PS) (p : RdP) (i : DR) : Prop where
 ok : OkD i.st i.p
 m : i.p.m = p.m ++ i.nm
 cell : ∀ q ∈ i.nm, CellOk q
 left : Left S i.st
 le : Le 0 st i.st
 lt : i.st.e = 0 → i.st.s.length < st.s.length
 tel : Tel R i.v i.st
def FormC (n : Nat) : Prop := ∀ (rb : Nat) (S : List UInt8) (st : PS) (p : RdP) (nm : List CellP), S.length ≤ 20000 → OkD st p → Bd st → Left S st → st.e = 0 → st.s.length < n → SpecH Tryz.prog 86 [.c (.v (.pointer (some ⟨rb, 0, none⟩)))] (dE rb S st p nm) (RetG (ι := DR) (DPost (formD n (toS st)) S st p) (fun i => .int .i64 i.v) (fun i => dE rb S i.st i.p (nm ++ i.nm)))
def itP (kind : Int) (l : List Int) (a : Option Addr) (cap : Nat) : CellP := ⟨⟨kind, 0, [], [], l⟩, none, 0, a, cap⟩
structure ItD where
 l : List Int
 st : PS
 p : RdP
 nm : List CellP
 a : Option Addr
 cap : Nat
structure ItInv (S : List UInt8) (st : PS) (pre : List CellP) (kind : Int) (i : ItD) : Prop where
 ok : OkD i.st i.p
 m : i.p.m = pre ++ itP kind i.l i.a i.cap :: i.nm
 cell : ∀ q ∈ i.nm, CellOk q
 left : Left S i.st
 le : Le 0 st i.st
 ll : i.l.length + i.st.s.length + liv i.st ≤ 30001
 la : i.a = none → i.l = []
 lc : i.l.length ≤ i.cap
def Rest (f : St → Except Int (Int × St)) (k : Nat) (R : Except Int (Unit × St)) (m : Nat) (st : PS) : Prop := (st.e = 0 → itemsD f k m (toS st) = R) ∧ (st.e ≠ 0 → R = .error st.e)
theorem Rest.tel {f : St → Except Int (Int × St)} {k : Nat} {R : Except Int (Unit × St)} {m : Nat} {st : PS} (h : Rest f k R m st) (hm : st.e = 0 → m = 0) : Tel R () st := by
 by_cases h0 : st.e = 0
 ·have h1 := h.1 h0
  rw [hm h0] at h1
  rw [← h1]
  exact Tel.ok h0
 ·rw [h.2 h0]
  exact ⟨rfl, h0⟩
def cellsP (st : PS) (x : Int) : PS := { st with cells := st.cells ++ [x] }
def putG (k : Nat) (c : Cell) (st : PS) : PS := { st with g := st.g.set k c }
theorem map_get {m : List CellP} {g : List Cell} (h : m.map (·.c) = g) {k : Nat} {q : CellP} (hk : m[k]? = some q) : g.getD k nilC = q.c := by
 rw [← h, List.getD_eq_getElem?_getD, List.getElem?_map, hk]
 rfl
theorem pre_get (pre nm : List CellP) (q : CellP) : (pre ++ q :: nm)[pre.length]? = some q := by rw [List.getElem?_append_right (Nat.le_refl _), Nat.sub_self]; rfl
theorem pre_set (pre nm : List CellP) (q r : CellP) : (pre ++ q :: nm).set pre.length r = pre ++ r :: nm := by rw [List.set_append_right _ _ (Nat.le_refl _), Nat.sub_self]; rfl
theorem OkD.put {st : PS} {p : RdP} (ok : OkD st p) (k : Nat) (q : CellP) (hk : k < p.m.length) : OkD (putG k q.c st) { p with m := p.m.set k q } :=
 ⟨by show (p.m.set k q).map (·.c) = st.g.set k q.c; rw [List.map_set, ok.g], (fun h => by have := ok.ga h; rw [this] at hk; exact absurd hk (Nat.not_lt_zero _)), ok.ca, ok.sa, ok.sw, ok.gx⟩
theorem put_le (k : Nat) (c : Cell) (st : PS) : Le 0 st (putG k c st) := ⟨by show st.ss.length + st.s.length ≤ _; omega, Nat.le_refl _, by show _ ≤ (st.g.set k c).length; simp, fun h => by show (st.g.set k c).length ≤ _; simpa using h, by show st.cells.length + _ ≤ _ + (st.g.set k c).length; simp⟩
theorem it_step {S : List UInt8} {st : PS} {pre : List CellP} {kind : Int} {it : ItD} (hi : ItInv S st pre kind it) {ds : PS} {dp : RdP} {dn : List CellP} (dv : Int) (ok : OkD ds dp) (hm : dp.m = it.p.m ++ dn) (hc : ∀ q ∈ dn, CellOk q) (hl : Left S ds) (le : Le 0 it.st ds) (lt : ds.e = 0 → ds.s.length < it.st.s.length) (he : it.st.e = 0) (b cap : Nat) (hcap : it.l.length + 1 ≤ cap) :
  ItInv S st pre kind ⟨it.l ++ [dv], putG pre.length (itP kind (it.l ++ [dv]) (some ⟨b, 0, none⟩) cap).c ds, { dp with m := dp.m.set pre.length (itP kind (it.l ++ [dv]) (some ⟨b, 0, none⟩) cap) }, it.nm ++ dn, some ⟨b, 0, none⟩, cap⟩ := by
 have hm2 : dp.m = pre ++ itP kind it.l it.a it.cap :: (it.nm ++ dn) := by rw [hm, hi.m, List.append_assoc, List.cons_append]
 refine ⟨ok.put _ _ (by rw [hm2]; simp), ?_, fun q hq => (List.mem_append.1 hq).elim (hi.cell q) (hc q), hl, (hi.le.trans le).trans (put_le _ _ _), ?_, (fun h => by cases h), by show (it.l ++ [dv]).length ≤ cap; simpa using hcap⟩
 ·show dp.m.set pre.length _ = _
  rw [hm2, pre_set]
 ·show (it.l ++ [dv]).length + ds.s.length + liv (putG _ _ ds) ≤ _
  have h1 := hi.ll
  have h2 := le.s
  rw [List.length_append, List.length_singleton]
  unfold liv at h1 ⊢
  rw [if_pos he] at h1
  show _ + (if ds.e = 0 then _ else _) ≤ _
  split
  ·rename_i h
   have := lt h
   omega
  ·omega
theorem rest_step {f : St → Except Int (Int × St)} {pre nm : List CellP} {kind : Int} {l : List Int} {a : Option Addr} {cap : Nat} {R : Except Int (Unit × St)} {r : Nat} {st ds : PS} {dp : RdP} {dv : Int} (hr : Rest f pre.length R (r + 1) st) (he : st.e = 0) (tel : Tel (f (toS st)) dv ds) (ok : OkD ds dp) (hm : dp.m = pre ++ itP kind l a cap :: nm) (a2 : Option Addr) (cap2 : Nat) :
  Rest f pre.length R r (putG pre.length (itP kind (l ++ [dv]) a2 cap2).c ds) := by
 have h1 := hr.1 he
 unfold itemsD at h1
 refine ⟨fun h => ?_, fun h => ?_⟩
 ·have h0 : ds.e = 0 := h
  rw [tel.live h0] at h1
  have h1 : itemsD f pre.length r (putI pre.length dv (toS ds)) = R := h1
  rw [← h1]
  congr 1
  have hg := map_get ok.g (k := pre.length) (q := itP kind l a cap) (by rw [hm]; exact pre_get _ _ _)
  unfold putI toS putG
  simp only [hg]
  rfl
 ·have h0 : ds.e ≠ 0 := h
  rw [tel.dead h0] at h1
  exact h1.symm
theorem fact_assoc (a b c : List CellP) : wkE (.fact fun w => ∀ q ∈ a ++ b ++ c, CellF q w) (.fact fun w => ∀ q ∈ a ++ (b ++ c), CellF q w) := by
 rw [List.append_assoc]
 exact wkE_refl _
theorem ptr_fld {a : AV} {b n q : Nat} (h : a = .c (.v (.pointer (some ((elemAddr (some ⟨b, 0, none⟩) n).add q))))) : a = .c (.v (.pointer (some (elemAddr (some ⟨b, 0, none⟩) (n + q))))) := by
 rw [h]
 unfold elemAddr
 rw [show (some (⟨b, 0, none⟩ : Addr)).getD default = ⟨b, 0, none⟩ from rfl, add_lit0, add_lit, add_lit0]
theorem items_d (n : Nat) (hc : FormC n) (rb : Nat) (S : List UInt8) (hS : S.length ≤ 20000) (st : PS) (p : RdP) (pre : List CellP) (kind : Int) (each : Nat) (he1 : 1 ≤ each) (he2 : each ≤ 2) (ok : OkD st p) (hm2 : p.m = pre ++ [itP kind [] none 0]) (bd : Bd (cellsP st (pre.length : Int))) (hl : Left S st) (h0 : st.e = 0) (hn : st.s.length < n) (nm0 : List CellP) :
  SpecH Tryz.prog 101 [.c (.v (.pointer (some ⟨rb, 0, none⟩))), .c (.v (.int .i64 (pre.length : Int))), .c (.v (.int .i64 (each : Int)))] (dE rb S st p nm0 ++ [ownI [] none 0])
   (RetG (ι := ItD) (fun i => ItInv S (cellsP st (pre.length : Int)) pre kind i ∧ Tel (Marshal.bnd (numS maxN (toS (cellsP st (pre.length : Int)))) fun m s => itemsD (formD n) pre.length (m * each) s) () i.st) (fun _ => .tuple #[]) (fun i => dE rb S i.st i.p (nm0 ++ i.nm) ++ [ownI i.l i.a i.cap])) := by
 refine ownC hm Tryz.func101 (by kernel_rfl) rfl rfl (fun _ _ => okHB_eq rfl) (fun _ _ => Nat.le_of_ble_eq_true rfl) ?_
 have hpl : p.m.length = pre.length + 1 := by rw [hm2]; simp
 have hbg := bd.g
 have hbc := bd.cl
 have hbc2 : st.cells.length + 1 ≤ st.g.length := by simpa [cellsP] using hbc
 have hbg2 : st.g.length ≤ 500 := hbg
 refine wX ?_
 refine LdN.one (a := some ⟨rb, 0, none⟩) (q := 3) (.slice p.ca st.cells.length p.cc) rfl (fun w hw => hw.1) rfl ?_
 refine wX ?_
 refine Nd.mk ⟨Nat.le_refl 1, rfl, rfl⟩ ?_
 (conv => whnf)
 refine AppN.grow 3 (iC st.cells) [.int .i64 (pre.length : Int)] rfl rfl ⟨Nat.le_refl 1, ⟨by show (st.cells.length + 1) * 8 ≤ _; omega, by omega⟩, by decide⟩ fun cb cc' g1 g2 => ?_
 refine wX ?_
 have e1 : iC st.cells ++ [.int .i64 (pre.length : Int)] = iC (st.cells ++ [(pre.length : Int)]) := by simp [iC]
 have e2 : st.cells.length + 1 = (st.cells ++ [(pre.length : Int)]).length := by simp
 rw [e1, e2]
 refine EffW.appTo (i := 0) (q := 3) (ys := [_]) (ddC S (cellsP st (pre.length : Int)) { p with ca := some ⟨cb, 0, none⟩, cc := cc' }) 6 rfl rfl rfl rfl rfl rfl rfl (Nat.le_of_ble_eq_true rfl) rfl rfl ?_
 have ok1 : OkD (cellsP st (pre.length : Int)) { p with ca := some ⟨cb, 0, none⟩, cc := cc' } := ⟨ok.g, ok.ga, (fun h => by cases h), ok.sa, ok.sw, ok.gx⟩
 have hl1 : Left S (cellsP st (pre.length : Int)) := hl
 have h01 : (cellsP st (pre.length : Int)).e = 0 := h0
 have hn1 : (cellsP st (pre.length : Int)).s.length < n := hn
 have hm3 : ({ p with ca := some ⟨cb, 0, none⟩, cc := cc' } : RdP).m = pre ++ [itP kind [] none 0] := hm2
 have hnum := number_d rb S (by omega) (cellsP st (pre.length : Int)) ({ p with ca := some ⟨cb, 0, none⟩, cc := cc' } : RdP) nm0 hl1 maxN
 have hgm : (({ p with ca := some ⟨cb, 0, none⟩, cc := cc' } : RdP)).m.length = ((cellsP st (pre.length : Int))).g.length := by show p.m.length = st.g.length; rw [← ok.g, List.length_map]
 obtain ⟨R, hR⟩ : ∃ R, (Marshal.bnd (numS maxN (toS (cellsP st (pre.length : Int)))) fun m s => itemsD (formD n) pre.length (m * each) s) = R := ⟨_, rfl⟩
 rw [hR]
 have htel := (Ref.num maxN).tel h01
 have ok2 := ok1.same (num_keep maxN (cellsP st (pre.length : Int)))
 have le2 := num_le maxN (cellsP st (pre.length : Int))
 have hl2 := hl1.num maxN
 have hm4 := num_most maxN (cellsP st (pre.length : Int))
 generalize numM maxN (cellsP st (pre.length : Int)) = q at hnum htel ok2 le2 hl2 hm4
 obtain ⟨m, st2⟩ := q
 simp only at hnum htel ok2 le2 hl2 hm4
 have hm5 : m ≤ 1000000000000000 := hm4
 have hrest : Rest (formD n) pre.length R (m * each) st2 := by
  refine ⟨fun h => ?_, fun h => ?_⟩
  ·rw [← hR, htel.live h]
   rfl
  ·rw [← hR, htel.dead h]
   rfl
 refine wX ?_
 refine callG (hnum) [0, 1, 2, 3, 4] rfl ⟨rfl, rfl, rfl, rfl, rfl, trivial⟩ rfl fun _ _ => ?_
 refine wX ?_
 refine LoopN.intro (Nat × ItD) (fun ⟨i, it⟩ => i ≤ m ∧ ItInv S (cellsP st (pre.length : Int)) pre kind it ∧ Rest (formD n) pre.length R ((m - i) * each) it.st)
  (fun ⟨i, _⟩ => mkS Tryz.f101.ntmps 0 [(0, .c (.v (.pointer (some ⟨rb, 0, none⟩)))), (1, .c (.v (.int .i64 (pre.length : Int)))), (2, .c (.v (.int .i64 (each : Int)))), (6, .c (.v (.int .i64 (m : Int)))), (7, .c (.v (.int .i64 (i : Int))))])
  (fun ⟨_, it⟩ => dE rb S it.st it.p (nm0 ++ it.nm) ++ [ownI it.l it.a it.cap, .dead]) (fun ⟨i, _⟩ => m - i) [] rfl
  (fun _ => rfl) (fun _ => rfl) (fun _ _ => okHB_eq rfl) ⟨(0, ⟨[], st2, ({ p with ca := some ⟨cb, 0, none⟩, cc := cc' } : RdP), [], none, 0⟩), ⟨Nat.zero_le _, ⟨ok2, hm3, (fun q hq => by cases hq), hl2, le2, ?_, fun _ => rfl, Nat.le_refl _⟩, hrest⟩, ?_, ?_⟩ ?_
 ·have := bd.pot
  have := le2.s
  unfold liv
  show 0 + st2.s.length + _ ≤ _
  have h9 : ((cellsP st (pre.length : Int))).s.length ≤ 30000 := by have := bd.pot; omega
  split <;> omega
 ·exact wKK
 ·refine ⟨wkE_refl _, wkE_refl _, ?_, wkE_refl _, wkE_refl _, wkE_refl _, wHH⟩
  show wkE (.fact _) (.fact fun w => ∀ q ∈ nm0 ++ [], CellF q w)
  rw [List.append_nil]
  exact wkE_refl _
 rintro ⟨i, it⟩ ⟨h1, hi, hr⟩
 refine wX ?_
 by_cases hlt : i < m
 ·rw [show decide ((i : Int) < (m : Int)) = true by simpa using hlt]
  refine wX ?_
  refine LdN.one (a := some ⟨rb, 0, none⟩) (q := 5) (.int .i64 it.st.e) rfl (fun w hw => hw.1) rfl ?_
  refine wX ?_
  by_cases he : it.st.e = 0
  ·rw [show (it.st.e == 0) = true by rw [he]; rfl]
   refine wX ?_
   refine LoopN.intro (Nat × ItD) (fun ⟨k, it⟩ => k ≤ each ∧ ItInv S (cellsP st (pre.length : Int)) pre kind it ∧ Rest (formD n) pre.length R ((m - i) * each - k) it.st)
    (fun ⟨k, _⟩ => mkS Tryz.f101.ntmps 0 [(0, .c (.v (.pointer (some ⟨rb, 0, none⟩)))), (1, .c (.v (.int .i64 (pre.length : Int)))), (2, .c (.v (.int .i64 (each : Int)))), (6, .c (.v (.int .i64 (m : Int)))), (7, .c (.v (.int .i64 (i : Int)))), (8, .c (.v (.int .i64 (k : Int))))])
    (fun ⟨_, it⟩ => dE rb S it.st it.p (nm0 ++ it.nm) ++ [ownI it.l it.a it.cap, .dead]) (fun ⟨k, _⟩ => each - k) [] rfl
    (fun _ => rfl) (fun _ => rfl) (fun _ _ => okHB_eq rfl) ⟨(0, it), ⟨Nat.zero_le _, hi, hr⟩, ?_, ?_⟩ ?_
   ·exact wKK
   ·exact wkH_refl _
   rintro ⟨k, it⟩ ⟨k1, hi, hr⟩
   refine wX ?_
   by_cases hk : k < each
   ·rw [show decide ((k : Int) < (each : Int)) = true by simpa using hk]
    refine wX ?_
    refine LdN.one (a := some ⟨rb, 0, none⟩) (q := 5) (.int .i64 it.st.e) rfl (fun w hw => hw.1) rfl ?_
    refine wX ?_
    by_cases he : it.st.e = 0
    ·rw [show (it.st.e == 0) = true by rw [he]; rfl]
     have hb := bd.le hi.le
     have hs4 := hi.le.s
     have hform := hc rb S it.st it.p (nm0 ++ it.nm) hS hi.ok hb hi.left he (by omega)
     refine wX ?_
     refine callG hform [0, 1, 2, 3, 4] rfl ⟨rfl, rfl, rfl, rfl, rfl, trivial⟩ rfl fun d hd => ?_
     refine wX ?_
     have hll : it.l.length ≤ 30001 := by have := hi.ll; omega
     obtain ⟨dv, ds, dp, dn⟩ := d
     obtain ⟨ok4, hm6, hc6, hl6, le6, lt6, tel6⟩ := hd
     simp only at ok4 hm6 hc6 hl6 le6 lt6 tel6
     obtain ⟨dm, dga, dgc, dca, dcc, dsa, dsc⟩ := dp
     simp only at hm6
     have hml : dm.length = pre.length + 1 + it.nm.length + dn.length := by rw [hm6, hi.m]; simp; omega
     have hgk : dm[pre.length]? = some (itP kind it.l it.a it.cap) := by
      rw [hm6, hi.m, List.append_assoc, List.cons_append]
      exact pre_get _ _ _
     obtain ⟨gb, rfl⟩ : ∃ b : Nat, dga = some ⟨b, 0, none⟩ := ok4.gx.resolve_left fun h => by
      have h9 : dm = [] := ok4.ga h
      rw [h9, List.length_nil] at hml
      omega
     have hgb : dm.length ≤ 500 := by
      have := (hb.le le6).g
      rw [← ok4.g, List.length_map] at this
      exact this
     refine wX ?_
     refine DrawN.planC (fun w => SlAt (some ⟨rb, 0, none⟩) 6 (ddC S ds ⟨dm, some ⟨gb, 0, none⟩, dgc, dca, dcc, dsa, dsc⟩) w ∧ SlAt (some ⟨gb, 0, none⟩) (dm.length * 5) (grC dm) w) [0, 4, 5, 9, 13] [(1, 1), (2, 2), (3, 1), (6, 1), (7, 2), (8, 1), (10, 1), (11, 2), (12, 1), (14, 0), (15, 0)] [(16, 0), (17, 0), (18, 0)] (by decide +kernel) (fun w hw => ⟨hw.1, hw.2.1⟩) ?_
     refine wXO ?_
     refine ReadC.one (a := some ⟨rb, 0, none⟩) (q := 2) (.slice (some ⟨gb, 0, none⟩) dm.length dgc) rfl rfl rfl (fun w hw => hw.1) rfl ?_
     refine wXO ?_
     refine ReadC.one (a := some ⟨rb, 0, none⟩) (q := 2) (.slice (some ⟨gb, 0, none⟩) dm.length dgc) rfl rfl rfl (fun w hw => hw.1) rfl ?_
     refine wXO ?_
     refine ReadC.idxA (e := 87) (sz := 5) pre.length rfl Tryz.underlying36 rfl rfl rfl rfl rfl (by omega) ?_
     refine wXO ?_
     refine ReadC.one (a := some ⟨gb, 0, none⟩) (q := pre.length * 5 + 4) (.slice it.a it.l.length it.cap) rfl (ptr_fld rfl) rfl (fun w hw => hw.2) (grC_get _ _ 4 (by omega) hgk) ?_
     (conv => whnf)
     refine RwN.own ?_
     (conv => whnf)
     refine Nd.mk (fun w hw => ⟨hw.1, hw.2.1⟩) ?_
     (conv => whnf)
     refine Nd.mk ⟨Nat.le_refl 1, rfl, rfl⟩ ?_
     (conv => whnf)
     refine AppN.grow 5 (iC it.l) [.int .i64 dv] rfl rfl ⟨Nat.le_refl 1, ⟨by show (it.l.length + 1) * 8 ≤ _; omega, by omega⟩, by decide⟩ fun b' cap' g3 g4 => ?_
     (conv => whnf)
     refine Nd.mk (fun w hw => ⟨hw.1, hw.2.1⟩) ?_
     (conv => whnf)
     refine Nd.mk ⟨rfl, by omega, by omega⟩ ?_
     (conv => whnf)
     have e1 : iC it.l ++ [.int .i64 dv] = iC (it.l ++ [dv]) := by simp [iC]
     have e2 : it.l.length + 1 = (it.l ++ [dv]).length := by simp
     rw [e1, e2]
     have hq4 : pre.length * 5 + 4 < (grC dm).length := by rw [grC_len]; omega
     have hsi : setI (itP kind it.l it.a it.cap) (it.l ++ [dv]) (some ⟨b', 0, none⟩) cap' = itP kind (it.l ++ [dv]) (some ⟨b', 0, none⟩) cap' := rfl
     refine EffW.appTo (i := 1) (q := pre.length * 5 + 4) (ys := [.slice (some ⟨b', 0, none⟩) (it.l ++ [dv]).length cap']) (grC (dm.set pre.length (itP kind (it.l ++ [dv]) (some ⟨b', 0, none⟩) cap'))) 5 rfl (by rw [Int.toNat_natCast]; show AV.c (CV.v (Value.pointer (some (((⟨gb, 0, none⟩ : Addr).add (pre.length * 5)).add 4)))) = _; rw [add_lit0, add_lit]) rfl rfl rfl rfl rfl (by show pre.length * 5 + 4 + 1 ≤ dm.length * 5; omega) ((put_set _ hq4).trans (by rw [← hsi]; exact grC_set (it.l ++ [dv]) _ cap' hgk)) rfl ?_
     refine wX ?_
     have hr2 : ∃ r, (m - i) * each - k = r + 1 ∧ (m - i) * each - (k + 1) = r := ⟨(m - i) * each - (k + 1), by
      have h5 : 1 * each ≤ (m - i) * each := Nat.mul_le_mul_right _ (by omega)
      omega, rfl⟩
     obtain ⟨r, hr3, hr4⟩ := hr2
     rw [hr3] at hr
     refine ⟨(k + 1, ⟨it.l ++ [dv], putG pre.length (itP kind (it.l ++ [dv]) (some ⟨b', 0, none⟩) cap').c ds, ⟨dm.set pre.length (itP kind (it.l ++ [dv]) (some ⟨b', 0, none⟩) cap'), some ⟨gb, 0, none⟩, dgc, dca, dcc, dsa, dsc⟩, it.nm ++ dn, some ⟨b', 0, none⟩, cap'⟩), ⟨by omega, it_step hi dv ok4 hm6 hc6 hl6 le6 lt6 he b' cap' g3, ?_⟩, by show each - (k + 1) < each - k; omega, ?_, ?_⟩
     ·rw [hr4]
      exact rest_step hr he tel6 ok4 (by show dm = _; rw [hm6, hi.m, List.append_assoc, List.cons_append]) _ _
     ·exact wKK
     ·have hrc : ddC S (putG pre.length (itP kind (it.l ++ [dv]) (some ⟨b', 0, none⟩) cap').c ds) ⟨dm.set pre.length (itP kind (it.l ++ [dv]) (some ⟨b', 0, none⟩) cap'), some ⟨gb, 0, none⟩, dgc, dca, dcc, dsa, dsc⟩ = ddC S ds ⟨dm, some ⟨gb, 0, none⟩, dgc, dca, dcc, dsa, dsc⟩ := by simp [ddC, putG]
      refine ⟨?_, ?_, fact_assoc _ _ _, wkE_refl _, wkE_refl _, wkE_refl _, wHH⟩
      ·show wkE (.app 109 6 (ddC S ds ⟨dm, some ⟨gb, 0, none⟩, dgc, dca, dcc, dsa, dsc⟩) _ 1 1) (.app 109 6 (ddC S (putG _ _ ds) _) _ 1 1)
       rw [hrc]
       exact wkE_refl _
      show wkE (.app 87 5 _ _ dm.length _) (.app 87 5 _ _ (dm.set _ _).length _)
      rw [List.length_set]
      exact wkE_refl _
    ·rw [show (it.st.e == 0) = false by simpa using he]
     refine wX ?_
     refine ⟨(i + 1, it), ⟨by omega, hi, fun h => absurd h he, hr.2⟩, by show m - (i + 1) < m - i; omega, ?_, wkH_refl _⟩
     exact wKK
   ·rw [show decide ((k : Int) < (each : Int)) = false by simpa using hk]
    refine wX ?_
    have hrr : (m - i) * each - k = (m - (i + 1)) * each := by
     rw [show m - i = (m - (i + 1)) + 1 by omega, Nat.succ_mul]
     omega
    rw [hrr] at hr
    refine ⟨(i + 1, it), ⟨by omega, hi, hr⟩, by show m - (i + 1) < m - i; omega, ?_, wkH_refl _⟩
    exact wKK
  ·rw [show (it.st.e == 0) = false by simpa using he]
   refine wX ?_
   exact ⟨it, ⟨hi, hr.tel fun h => absurd h he⟩, rfl, wkE_refl _, wkE_refl _, wkE_refl _, wkE_refl _, wkE_refl _, wkE_refl _, wHH⟩
 ·rw [show decide ((i : Int) < (m : Int)) = false by simpa using hlt]
  refine wX ?_
  exact ⟨it, ⟨hi, hr.tel fun h => by rw [show m - i = 0 by omega, Nat.zero_mul]⟩, rfl, wkE_refl _, wkE_refl _, wkE_refl _, wkE_refl _, wkE_refl _, wkE_refl _, wHH⟩
end Go.Proofs.YtgogonnnojcioaaGreatDoor
namespace Go.Scan
set_option maxRecDepth 20000
def pk (s : List UInt8) (i : Nat) : UInt8 := (s[i]?).getD 0
def wordS (s : List UInt8) (i : Nat) : List UInt8 := (s.drop i).takeWhile wrd
theorem tw_take {c : UInt8} {s : List UInt8} {i j : Nat} (h : ((s.drop i).take j).all wrd = true) (hc : s[i + j]? = some c) : (wrd c = true → ((s.drop i).take (j + 1)).all wrd = true) ∧ (wrd c = false → wordS s i = (s.drop i).take j) := by
 have hg : (s.drop i)[j]? = some c := by rw [List.getElem?_drop]; exact hc
 refine ⟨fun hw => ?_, fun hw => ?_⟩
 ·rw [List.take_add_one, hg, List.all_append, h]
  simp [hw]
 ·have e : s.drop i = (s.drop i).take j ++ (c :: (s.drop i).drop (j + 1)) := by
   obtain ⟨hlt, hx⟩ := List.getElem?_eq_some_iff.1 hg
   conv => lhs; rw [← List.take_append_drop j (s.drop i), List.drop_eq_getElem_cons hlt, hx]
  unfold wordS
  conv => lhs; rw [e]
  rw [List.takeWhile_append_of_pos (fun x hx => List.all_eq_true.1 h x hx)]
  simp [hw]
theorem tw_end {s : List UInt8} {i j : Nat} (h : ((s.drop i).take j).all wrd = true) (hj : i + j = s.length) : wordS s i = (s.drop i).take j := by
 have e : (s.drop i).take j = s.drop i := List.take_of_length_le (by rw [List.length_drop]; omega)
 rw [e] at h ⊢
 unfold wordS
 have := List.takeWhile_append_of_pos (l₂ := []) (fun x hx => List.all_eq_true.1 h x hx)
 simpa using this
def wordAtS (s : List UInt8) (p : Nat) : List UInt8 := if ltr (pk s p) then wordS s p else []
def rcB (s : List UInt8) : Bool := !s.isEmpty && decide (s.length ≤ 40) && grt (hd s) && wordAtS s 0 == s
def riB (s : List UInt8) : Bool := decide (1 < s.length) && decide (s.length ≤ 40) && hd s == 64 && sml (pk s 1) && wordAtS s 1 == s.tail
theorem tw_self {s : List UInt8} : s.takeWhile wrd = s ↔ s.all wrd = true := by
 induction s with
 | nil => simp
 | cons c r ih =>
  rw [List.takeWhile_cons, List.all_cons]
  cases h : wrd c with
  | true => simpa using ih
  | false => simp
theorem wordS_0 (s : List UInt8) : wordS s 0 = s.takeWhile wrd := by simp [wordS]
theorem pk_0 (c : UInt8) (r : List UInt8) : pk (c :: r) 0 = c := rfl
theorem icB_eq (s : List UInt8) : icB s = rcB s := by
 refine Bool.eq_iff_iff.2 ?_
 cases s with
 | nil => simp [icB, rcB, iwB]
 | cons c r =>
  have h1 := grt_iff c
  simp only [icB, rcB, iwB, hd, List.headD_cons, wordAtS, pk_0, wordS_0, Bool.and_eq_true, Bool.not_eq_true', decide_eq_true_eq, beq_iff_eq, List.isEmpty_cons]
  constructor
  ·rintro ⟨⟨⟨⟨ha, _⟩, hl⟩, hd⟩, hs⟩
   have hw : wrd c = true := by rw [List.all_cons, Bool.and_eq_true] at ha; exact ha.1
   have hg := h1.1 ⟨hw, hd, hs⟩
   exact ⟨⟨⟨by simp, hl⟩, hg⟩, by rw [if_pos (grt_ltr hg)]; exact tw_self.2 ha⟩
  ·rintro ⟨⟨⟨_, hl⟩, hg⟩, he⟩
   rw [if_pos (grt_ltr hg)] at he
   obtain ⟨_, h3, h4⟩ := h1.2 hg
   exact ⟨⟨⟨⟨tw_self.1 he, by simp⟩, hl⟩, h3⟩, h4⟩
theorem iiB_eq (s : List UInt8) : iiB s = riB s := by
 refine Bool.eq_iff_iff.2 ?_
 match s with
 | [] => simp [iiB, riB]
 | [c] => simp [iiB, riB]
 | c :: d :: r =>
  have hp : pk (c :: d :: r) 1 = d := rfl
  have hw : wordS (c :: d :: r) 1 = (d :: r).takeWhile wrd := rfl
  simp only [iiB, riB, iwB, hd, List.headD_cons, List.tail_cons, wordAtS, hp, hw, Bool.and_eq_true, Bool.not_eq_true', decide_eq_true_eq, beq_iff_eq, List.isEmpty_cons]
  constructor
  ·rintro ⟨⟨⟨⟨h1, h2⟩, ⟨⟨ha, _⟩, _⟩, _⟩, hs⟩, hl⟩
   exact ⟨⟨⟨⟨h1, hl⟩, h2⟩, hs⟩, by rw [if_pos (sml_wrd hs).2.1]; exact tw_self.2 ha⟩
  ·rintro ⟨⟨⟨⟨h1, hl⟩, h2⟩, hs⟩, he⟩
   rw [if_pos (sml_wrd hs).2.1] at he
   exact ⟨⟨⟨⟨h1, h2⟩, ⟨⟨tw_self.1 he, by simp⟩, by simp at hl ⊢; omega⟩, (sml_wrd hs).2.2.1⟩, hs⟩, hl⟩
end Go.Scan
namespace Go.Proofs.YtgogonnnojcioaaGreatDoor
open Go.AX Go.RowKit Go.Scan
set_option maxRecDepth 20000
theorem sml_r (c : UInt8) : ∀ H, SpecH Tryz.prog 149 (pvs [.int .u8 (c.toNat : Int)]) H (Ret (.bool (sml c)) H) := by
 refine pureC hm Tryz.func149 (by kernel_rfl) rfl rfl ?_
 refine wX ?_
 (repeat' (first | (refine brd_dec (fun _ => ?_) (fun _ => ?_)) | (refine brd_eq (fun _ => ?_) (fun _ => ?_))))
 all_goals (first | refine wX ?_ | exact wZ)
 (repeat' (first | (refine brd_dec (fun _ => ?_) (fun _ => ?_)) | (refine brd_eq (fun _ => ?_) (fun _ => ?_))))
 all_goals (first | refine wX ?_ | exact wZ)
 (repeat' (first | (refine brd_dec (fun _ => ?_) (fun _ => ?_)) | (refine brd_eq (fun _ => ?_) (fun _ => ?_))))
 all_goals (first | refine wX ?_ | exact wZ)
 all_goals
  refine ret_b ?_
  simp [sml]
  try omega
theorem grt_r (c : UInt8) : ∀ H, SpecH Tryz.prog 147 (pvs [.int .u8 (c.toNat : Int)]) H (Ret (.bool (grt c)) H) := by
 refine pureC hm Tryz.func147 (by kernel_rfl) rfl rfl ?_
 refine wX ?_
 (repeat' (first | (refine brd_dec (fun _ => ?_) (fun _ => ?_)) | (refine brd_eq (fun _ => ?_) (fun _ => ?_))))
 all_goals (first | refine wX ?_ | exact wZ)
 (repeat' (first | (refine brd_dec (fun _ => ?_) (fun _ => ?_)) | (refine brd_eq (fun _ => ?_) (fun _ => ?_))))
 all_goals (first | refine wX ?_ | exact wZ)
 (repeat' (first | (refine brd_dec (fun _ => ?_) (fun _ => ?_)) | (refine brd_eq (fun _ => ?_) (fun _ => ?_))))
 all_goals (first | refine wX ?_ | exact wZ)
 all_goals
  refine ret_b ?_
  simp [grt]
  try omega
theorem dig_r (c : UInt8) : ∀ H, SpecH Tryz.prog 174 (pvs [.int .u8 (c.toNat : Int)]) H (Ret (.bool (dig c)) H) := by
 refine pureC hm Tryz.func174 (by kernel_rfl) rfl rfl ?_
 refine wX ?_
 (repeat' (first | (refine brd_dec (fun _ => ?_) (fun _ => ?_)) | (refine brd_eq (fun _ => ?_) (fun _ => ?_))))
 all_goals (first | refine wX ?_ | exact wZ)
 (repeat' (first | (refine brd_dec (fun _ => ?_) (fun _ => ?_)) | (refine brd_eq (fun _ => ?_) (fun _ => ?_))))
 all_goals (first | refine wX ?_ | exact wZ)
 (repeat' (first | (refine brd_dec (fun _ => ?_) (fun _ => ?_)) | (refine brd_eq (fun _ => ?_) (fun _ => ?_))))
 all_goals (first | refine wX ?_ | exact wZ)
 all_goals
  refine ret_b ?_
  simp [dig]
  try omega
theorem wordAt_r (s : List UInt8) (p : Nat) (hs : s.length ≤ 200000000000000) (hp : p ≤ 200000000000000) : ∀ H, SpecH Tryz.prog 148 (pvs [.string (bs s), .int .i64 (p : Int)]) H (Ret (.string (bs (wordAtS s p))) H) := by
 refine pureC hm Tryz.func148 (by kernel_rfl) rfl rfl ?_
 have hz := bs_size s
 refine wX ?_
 rw [hz]
 refine brd_dec (fun h1 => ?_) (fun h1 => ?_)
 ·have hpk : pk s p = 0 := by unfold pk; rw [List.getElem?_eq_none (by omega)]; rfl
  have hw : wordAtS s p = [] := by unfold wordAtS; rw [hpk]; rfl
  rw [hw]
  refine wX ?_
  rfl
 ·obtain ⟨c, hc⟩ : ∃ c, s[p]? = some c := ⟨_, List.getElem?_eq_getElem (by omega)⟩
  have hpk : pk s p = c := by unfold pk; rw [hc]; rfl
  refine wX ?_
  try refine Nd.mk ⟨by omega, by omega⟩ ?_
  refine wX ?_
  try rw [Int.toNat_natCast]
  rw [byteAt_get hc]
  refine call1 (sml_r c _) ?_
  have key : ltr c = true → wordAtS s p = wordS s p := fun h => by unfold wordAtS; rw [hpk, if_pos h]
  ·cases hsm : sml c with
   | true =>
    rw [key (by simp [ltr, hsm])]
    refine wX ?_
    refine loopS Nat (fun j => p + j ≤ s.length ∧ ((s.drop p).take j).all wrd = true) (fun j => mkS Tryz.f148.ntmps 0 [(0, .c (.v (.string (bs s)))), (1, .c (.v (.int .i64 (p : Int)))), (5, .c (.v (.int .i64 ((p + j : Nat) : Int))))]) (fun j => s.length - j) rfl (fun _ => rfl) 0 ⟨by omega, by simp⟩ ?_ ?_
    ·exact wKK
    rintro j ⟨hj, hall⟩
    refine wX ?_
    rw [hz]
    refine brd_dec (fun h2 => ?_) (fun h2 => ?_)
    ·obtain ⟨d, hd⟩ : ∃ d, s[p + j]? = some d := ⟨_, List.getElem?_eq_getElem (by omega)⟩
     obtain ⟨ht1, ht2⟩ := tw_take hall hd
     refine wX ?_
     try refine Nd.mk ⟨by omega, by omega⟩ ?_
     refine wX ?_
     try rw [Int.toNat_natCast]
     rw [byteAt_get hd]
     refine call1 (sml_r d _) ?_
     cases hs3 : sml d with
     | true =>
      have hwd : wrd d = true := by simp [wrd, ltr, hs3]
      refine wX ?_
      refine ⟨j + 1, ⟨by omega, ht1 hwd⟩, by omega, ?_, wHH⟩
      exact wKK
     | false =>
      refine wX ?_
      try refine Nd.mk ⟨by omega, by omega⟩ ?_
      refine wX ?_
      try rw [Int.toNat_natCast]
      rw [byteAt_get hd]
      refine call1 (grt_r d _) ?_
      cases hg3 : grt d with
      | true =>
       have hwd : wrd d = true := by simp [wrd, ltr, hg3]
       refine wX ?_
       refine ⟨j + 1, ⟨by omega, ht1 hwd⟩, by omega, ?_, wHH⟩
       exact wKK
      | false =>
       refine wX ?_
       try refine Nd.mk ⟨by omega, by omega⟩ ?_
       refine wX ?_
       try rw [Int.toNat_natCast]
       rw [byteAt_get hd]
       refine call1 (dig_r d _) ?_
       cases hd3 : dig d with
       | true =>
        have hwd : wrd d = true := by simp [wrd, hd3]
        refine wX ?_
        refine ⟨j + 1, ⟨by omega, ht1 hwd⟩, by omega, ?_, wHH⟩
        exact wKK
       | false =>
        have hwd := ht2 (by simp [wrd, ltr, hs3, hg3, hd3])
        refine wX ?_
        refine ReadW.sl_lh p (p + j) rfl Tryz.underlying9 rfl rfl rfl ⟨rfl, rfl, by omega, by omega⟩ ?_
        refine wX ?_
        rw [hwd, List.take_drop]
    ·have hwd := tw_end hall (by omega)
     refine wX ?_
     refine ReadW.sl_lh p (p + j) rfl Tryz.underlying9 rfl rfl rfl ⟨rfl, rfl, by omega, by omega⟩ ?_
     refine wX ?_
     rw [hwd, List.take_drop]
   | false =>
    refine wX ?_
    try refine Nd.mk ⟨by omega, by omega⟩ ?_
    refine wX ?_
    try rw [Int.toNat_natCast]
    rw [byteAt_get hc]
    refine call1 (grt_r c _) ?_
    cases hg : grt c with
    | true =>
     rw [key (by simp [ltr, hg])]
     refine wX ?_
     refine loopS Nat (fun j => p + j ≤ s.length ∧ ((s.drop p).take j).all wrd = true) (fun j => mkS Tryz.f148.ntmps 0 [(0, .c (.v (.string (bs s)))), (1, .c (.v (.int .i64 (p : Int)))), (5, .c (.v (.int .i64 ((p + j : Nat) : Int))))]) (fun j => s.length - j) rfl (fun _ => rfl) 0 ⟨by omega, by simp⟩ ?_ ?_
     ·exact wKK
     rintro j ⟨hj, hall⟩
     refine wX ?_
     rw [hz]
     refine brd_dec (fun h2 => ?_) (fun h2 => ?_)
     ·obtain ⟨d, hd⟩ : ∃ d, s[p + j]? = some d := ⟨_, List.getElem?_eq_getElem (by omega)⟩
      obtain ⟨ht1, ht2⟩ := tw_take hall hd
      refine wX ?_
      try refine Nd.mk ⟨by omega, by omega⟩ ?_
      refine wX ?_
      try rw [Int.toNat_natCast]
      rw [byteAt_get hd]
      refine call1 (sml_r d _) ?_
      cases hs3 : sml d with
      | true =>
       have hwd : wrd d = true := by simp [wrd, ltr, hs3]
       refine wX ?_
       refine ⟨j + 1, ⟨by omega, ht1 hwd⟩, by omega, ?_, wHH⟩
       exact wKK
      | false =>
       refine wX ?_
       try refine Nd.mk ⟨by omega, by omega⟩ ?_
       refine wX ?_
       try rw [Int.toNat_natCast]
       rw [byteAt_get hd]
       refine call1 (grt_r d _) ?_
       cases hg3 : grt d with
       | true =>
        have hwd : wrd d = true := by simp [wrd, ltr, hg3]
        refine wX ?_
        refine ⟨j + 1, ⟨by omega, ht1 hwd⟩, by omega, ?_, wHH⟩
        exact wKK
       | false =>
        refine wX ?_
        try refine Nd.mk ⟨by omega, by omega⟩ ?_
        refine wX ?_
        try rw [Int.toNat_natCast]
        rw [byteAt_get hd]
        refine call1 (dig_r d _) ?_
        cases hd3 : dig d with
        | true =>
         have hwd : wrd d = true := by simp [wrd, hd3]
         refine wX ?_
         refine ⟨j + 1, ⟨by omega, ht1 hwd⟩, by omega, ?_, wHH⟩
         exact wKK
        | false =>
         have hwd := ht2 (by simp [wrd, ltr, hs3, hg3, hd3])
         refine wX ?_
         refine ReadW.sl_lh p (p + j) rfl Tryz.underlying9 rfl rfl rfl ⟨rfl, rfl, by omega, by omega⟩ ?_
         refine wX ?_
         rw [hwd, List.take_drop]
     ·have hwd := tw_end hall (by omega)
      refine wX ?_
      refine ReadW.sl_lh p (p + j) rfl Tryz.underlying9 rfl rfl rfl ⟨rfl, rfl, by omega, by omega⟩ ?_
      refine wX ?_
      rw [hwd, List.take_drop]
    | false =>
     have hw : wordAtS s p = [] := by unfold wordAtS; rw [hpk, if_neg (by simp [ltr, hsm, hg])]
     rw [hw]
     refine wX ?_
     rfl
theorem RIsConst_r (s : List UInt8) (hs : s.length ≤ 200000000000000) : ∀ H, SpecH Tryz.prog 124 (pvs [.string (bs s)]) H (Ret (.bool (icB s)) H) := by
 refine pureC hm Tryz.func124 (by kernel_rfl) rfl rfl ?_
 rw [icB_eq]
 have hz := bs_size s
 cases s with
 | nil =>
  refine wX ?_
  try exact ret_b (by simp [rcB])
 | cons x r =>
  refine wX ?_
  rw [hz]
  refine brd_dec (fun h1 => ?_) (fun h1 => ?_)
  ·have hdec : decide ((x :: r).length ≤ 40) = true := decide_eq_true (by omega)
   refine wX ?_
   try refine Nd.mk ⟨by omega, by rw [hz]; show (0 : Int) < ((r.length + 1 : Nat) : Int); omega⟩ ?_
   refine wX ?_
   rw [show byteAt (bs (x :: r)) (Int.toNat 0) = (x.toNat : Int) from byteAt_get (l := x :: r) (i := 0) rfl]
   refine call1 (grt_r x _) ?_
   cases hg : grt x with
   | false =>
    refine wX ?_
    exact ret_b (by simp [rcB, hd, hg])
   | true =>
    refine wX ?_
    refine call1 (wordAt_r (x :: r) 0 hs (by omega) _) ?_
    refine wX ?_
    refine ret_b ?_
    simp only [rcB, hdec, hd, List.headD_cons, hg]
    exact Iff.rfl
  ·have hdec : decide ((x :: r).length ≤ 40) = false := decide_eq_false (by omega)
   refine wX ?_
   exact ret_b (by simp only [rcB, hdec]; simp)
theorem RIsIvar_r (s : List UInt8) (hs : s.length ≤ 200000000000000) : ∀ H, SpecH Tryz.prog 125 (pvs [.string (bs s)]) H (Ret (.bool (iiB s)) H) := by
 refine pureC hm Tryz.func125 (by kernel_rfl) rfl rfl ?_
 rw [iiB_eq]
 have hz := bs_size s
 refine wX ?_
 rw [hz]
 refine brd_dec (fun h1 => ?_) (fun h1 => ?_)
 ·match s, hs, hz, h1 with
  | [], _, _, h1 => exact absurd h1 (by decide)
  | [_], _, _, h1 => exact absurd h1 (by simp)
  | c :: d :: r, hs, hz, h1 =>
   have h64 : ((c.toNat : Int) == 64) = (c == 64) := u8_eq (n := 64) (by decide)
   have hl : (c :: d :: r).length = r.length + 2 := rfl
   have hd1 : decide (1 < (c :: d :: r).length) = true := by simp
   refine wX ?_
   rw [hz]
   refine brd_dec (fun h2 => ?_) (fun h2 => ?_)
   ·have hdec : decide ((c :: d :: r).length ≤ 40) = true := decide_eq_true (by omega)
    refine wX ?_
    try refine Nd.mk ⟨by omega, by rw [hz]; omega⟩ ?_
    refine wX ?_
    rw [show byteAt (bs (c :: d :: r)) (Int.toNat 0) = (c.toNat : Int) from byteAt_get (l := c :: d :: r) (i := 0) rfl, h64]
    cases e64 : c == 64 with
    | false =>
     refine wX ?_
     exact ret_b (by simp only [riB, hd, List.headD_cons, e64]; simp)
    | true =>
     refine wX ?_
     try refine Nd.mk ⟨by omega, by rw [hz]; omega⟩ ?_
     refine wX ?_
     rw [show byteAt (bs (c :: d :: r)) (Int.toNat 1) = (d.toNat : Int) from byteAt_get (l := c :: d :: r) (i := 1) rfl]
     refine callQ (sml_r d _) ?_
     have hp1 : pk (c :: d :: r) 1 = d := rfl
     cases hs2 : sml d with
     | false =>
      refine wX ?_
      exact ret_b (by simp only [riB, hp1, hs2]; simp)
     | true =>
      refine wX ?_
      refine callQ (wordAt_r (c :: d :: r) 1 hs (by omega) _) ?_
      refine wX ?_
      refine ReadW.sl_l 1 rfl Tryz.underlying9 rfl rfl ⟨rfl, by omega⟩ ?_
      refine wX ?_
      refine ret_b ?_
      simp only [riB, hd1, hdec, hd, List.headD_cons, e64, hp1, hs2]
      exact Iff.rfl
   ·have hdec : decide ((c :: d :: r).length ≤ 40) = false := decide_eq_false (by omega)
    refine wX ?_
    exact ret_b (by simp only [riB, hdec]; simp)
 ·have hdec : decide (1 < s.length) = false := decide_eq_false (by omega)
  refine wX ?_
  exact ret_b (by simp only [riB, hdec]; simp)
end Go.Proofs.YtgogonnnojcioaaGreatDoor
namespace Go.AX
theorem ownCJ {P : Program} (hm : P.follows .mixedOrders = true) {f : FuncId} {fn : Func} {c : Code} (hf : P.funcs[f]? = some fn) (hn : (fn.name == "runtime.NumGoroutine") = false) (hb : fn.body = some c)
  {args : List AV} {H : List Ent} (hl : Nat.ble args.length fn.ntmps = true) {ι : Type} {inv : ι → Prop} {val : ι → Value} {G : ι → List Ent} (hok : ∀ i, inv i → okH (G i).length (G i)) (hl2 : ∀ i, inv i → H.length ≤ (G i).length)
  (h : initK fn.ntmps args fun s => execJ P c s H (endK P fn.results.toList fun out H' => ∃ i, inv i ∧ out = .val (.c (.v (val i))) ∧ wkH H' (G i))) : SpecH P f args H (RetG inv val G) :=
 SpecH.wkG hok hl2 (specJ_of_exec hm hf hn hb hl h)
end Go.AX
namespace Go.Proofs.YtgogonnnojcioaaGreatDoor
open Go.AX Go.RowKit Go.Core Go.Marshal
set_option maxRecDepth 20000
def ownS (l : List (List UInt8)) (a : Option Addr) (cap : Nat) : Ent := .app 9 1 (strC l) a l.length cap
theorem class_dead {st : PS} (h : st.e ≠ 0) : (classM st).2 = st := by
 unfold classM
 simp only
 rw [next_dead h]
 have h1 : (symM 0 st).2 = st := sym_dead h
 rw [h1, if_neg (by simp [h])]
theorem name_dead {ns : List (List UInt8)} {st : PS} (h : st.e ≠ 0) : (nameM ns st).2 = st := by
 unfold nameM
 simp only
 rw [next_dead h]
 have h1 : (symM 0 st).2 = st := sym_dead h
 rw [h1, if_neg (by simp [h])]
theorem fuel_keep {n : Nat} {a b : PS} (h : a.s.length < n ∨ a.e ≠ 0) (hl : Le 0 a b) (hd : a.e ≠ 0 → b = a) : b.s.length < n ∨ b.e ≠ 0 := by
 rcases h with h | h
 ·exact .inl (Nat.lt_of_le_of_lt hl.s h)
 ·rw [hd h]; exact .inr h
theorem cell_dead_e {n : Nat} {st : PS} (h : st.e ≠ 0) : (cellM n st).2.e ≠ 0 := by
 cases n with
 | zero => show (failM st 99).e ≠ 0; rw [fail_dead h]; exact h
 | succ n => rw [cell_dead n h]; exact h
structure ObP where
 p : RdP
 na : Option Addr
 nc : Nat
 ia : Option Addr
 ic : Nat
theorem check1 (q : CellP) (cb : Nat) (hq : CellOk q) (hn : q.c.names.length ≤ 2000 ∧ q.c.items.length ≤ 2000) (b : Bool) (hb : b = true ↔ ValidP [q.c]) :
  ∀ H, (∀ w, Facts H w → SlAt (some ⟨cb, 0, none⟩) 5 (cellC q) w ∧ CellF q w) → SpecH Tryz.prog 65 (pvs [.slice (some ⟨cb, 0, none⟩) 1 1]) H (Ret (errI b) H) := by
 intro H hH
 obtain ⟨b2, hb2, h⟩ := Check_c (some ⟨cb, 0, none⟩) 1 [q] (fun h => by cases h) ⟨by simp, fun p hp => by obtain rfl := List.mem_singleton.1 hp; exact hn⟩ (fun p hp => by obtain rfl := List.mem_singleton.1 hp; exact hq) H (fun w hw => ⟨by have := (hH w hw).1; simpa [grC] using this, fun p hp => by obtain rfl := List.mem_singleton.1 hp; exact (hH w hw).2⟩)
 have e : b2 = b := by
  rw [Bool.eq_iff_iff, hb, hb2]
  rfl
 rw [← e]
 exact h
theorem slAt_nil (w : World) : SlAt none 0 [] w := ⟨rfl, fun h => absurd h (Nat.lt_irrefl 0), fun j h => absurd h (Nat.not_lt_zero j)⟩
set_option maxHeartbeats 4000000 in
theorem object_rd (n : Nat) (hc : CellC n) (rb : Nat) (st : PS) (p : RdP) (ok : RdOk st p) (bd : Bd st) (hn : st.s.length < n ∨ st.e ≠ 0) : SpecH Tryz.prog 107 [.c (.v (.pointer (some ⟨rb, 0, none⟩)))] (rdE rb st p ++ [.app 9 1 [] none 0 0, .app 3 1 [] none 0 0]) (RetG (ι := ObP) (fun i => RdOk (objM (cellM n) st).2 i.p ∧ CellOk ⟨(objM (cellM n) st).1, i.na, i.nc, i.ia, i.ic⟩) (fun i => cellV ⟨(objM (cellM n) st).1, i.na, i.nc, i.ia, i.ic⟩) fun i => rdE rb (objM (cellM n) st).2 i.p ++ [ownS (objM (cellM n) st).1.names i.na i.nc, ownI (objM (cellM n) st).1.items i.ia i.ic]) := by
 refine ownCJ hm Tryz.func107 (by kernel_rfl) rfl rfl (fun _ _ => okHB_eq rfl) (fun _ _ => Nat.le_of_ble_eq_true rfl) ?_
 have htk := cell_takes n
 have hA : ∀ k ns l st', attrsM (cellM n) (k + 1) ns l st' = if st'.e = 0 then attrsM (cellM n) k (ns ++ [(nameM ns st').1]) (l ++ [(cellM n (nameM ns st').2).1]) (cellM n (nameM ns st').2).2 else ((ns, l), st') := fun k ns l st' => by conv => lhs; unfold attrsM
 have b1 := bd.le (next_le st)
 have ok1 := ok.same (next_keep st)
 have bn := bd.le (class_le st)
 have hnc := fuel_keep hn (class_le st) class_dead
 obtain ⟨R, hR⟩ : ∃ R, objM (cellM n) st = R := ⟨_, rfl⟩
 rw [hR]
 unfold objM at hR
 obtain ⟨R2, hR2⟩ : ∃ R2, attrsM (cellM n) (numM maxN (classM st).2).1 [] [] (numM maxN (classM st).2).2 = R2 := ⟨_, rfl⟩
 rw [hR2] at hR
 have hcl : classM st = ((symM (nextM st).1 (nextM st).2).1, if (symM (nextM st).1 (nextM st).2).2.e = 0 ∧ Go.Scan.icB (symM (nextM st).1 (nextM st).2).1 = false then failM (symM (nextM st).1 (nextM st).2).2 4 else (symM (nextM st).1 (nextM st).2).2) := rfl
 have hb2 := bd.le (nextsym_le st)
 have hsym := symbol_rd rb (nextM st).1 (nextM st).2 p ok1 (by have := b1.pot; omega)
 have oks := fun i hi => ok1.sym (by have := b1.pot; omega) (nextM st).1 (i := i) hi
 have tl := symM_len (nextM st).1 (nextM st).2 (by have := b1.pot; omega) ok1.sw
 have hnx := next_m rb st p
 generalize classM st = cs at hcl bn hnc hR hR2 ⊢
 generalize nextM st = qx at hcl hb2 hsym oks tl hnx ⊢
 obtain ⟨x, s1⟩ := qx
 simp only at hcl hb2 hsym oks tl hnx
 refine SeqN.plain ?_
 refine wXK ?_
 refine BoxN.own ?_
 refine wXK ?_
 refine SeqN.plain ?_
 refine wXK ?_
 refine callG (hnx) [0, 1, 2, 3, 4] rfl ⟨rfl, rfl, rfl, rfl, rfl, trivial⟩ rfl fun _ _ => ?_
 refine wXR ?_
 refine callG hsym [0, 1, 2, 3, 4] rfl ⟨rfl, rfl, rfl, rfl, rfl, trivial⟩ rfl fun i2 hi2 => ?_
 have ok2 := oks i2 hi2
 generalize symM x s1 = qs at hcl hb2 ok2 tl ⊢
 obtain ⟨t, s2⟩ := qs
 simp only at hcl hb2 ok2 tl
 obtain ⟨p2, hp2⟩ : ∃ p2 : RdP, p2 = { p with sa := i2.1, sc := i2.2 } := ⟨_, rfl⟩
 rw [← hp2] at ok2 ⊢
 obtain ⟨t0, s3⟩ := cs
 simp only at hR hR2 bn hnc
 obtain ⟨rfl, h3⟩ : t0 = t ∧ s3 = if s2.e = 0 ∧ Go.Scan.icB t = false then failM s2 4 else s2 := ⟨congrArg Prod.fst hcl, congrArg Prod.snd hcl⟩
 clear hcl
 have ok3 : RdOk s3 p2 := by
  rw [h3]
  split
  ·exact ok2.same (fail_ss s2 4)
  ·exact ok2
 refine wXK ?_
 refine BoxN.known (cellC ⟨⟨0, 0, [], [], []⟩, none, 0, none, 0⟩) rfl fun kb => ?_
 refine wXK ?_
 refine EffW.appTo (i := 8) (q := 0) (ys := cellC ⟨⟨8, 0, t0, [], []⟩, none, 0, none, 0⟩) (cellC ⟨⟨8, 0, t0, [], []⟩, none, 0, none, 0⟩) 5 rfl rfl rfl rfl rfl rfl rfl (Nat.le_of_ble_eq_true rfl) rfl rfl ?_
 refine wXR ?_
 refine SeqN.join Unit (fun _ => True) (fun _ => mkS Tryz.f107.ntmps 0 [(0, .c (.v (.pointer (some ⟨rb, 0, none⟩)))), (2, .c (.lp 7 0)), (3, .c (.v (.pointer (some ⟨kb, 0, none⟩))))])
  (fun _ => rdE rb s3 p2 ++ [ownS [] none 0, ownI [] none 0, .blk 57 [.v (.int .i64 0), .v (.int .i64 0), .v (.string ⟨#[]⟩), .v (.slice none 0 0), .v (.slice none 0 0)], .app 57 5 (cellC ⟨⟨8, 0, t0, [], []⟩, none, 0, none, 0⟩) (some ⟨kb, 0, none⟩) 1 1]) (fun _ _ => Nat.le_of_ble_eq_true rfl) (fun _ _ => rfl) (fun _ _ => okHB_eq rfl) ?_ ?_
 ·refine SeqN.plain ?_
  refine wXR ?_
  refine LdN.one (a := some ⟨rb, 0, none⟩) (q := 4) (.int .i64 s2.e) rfl (fun w hw => hw.1) rfl ?_
  refine wXR ?_
  by_cases he : s2.e = 0
  ·rw [show (s2.e == 0) = true by rw [he]; rfl]
   refine wXR ?_
   refine LdN.agg (a := some ⟨kb, 0, none⟩) (q := 0) (cellC ⟨⟨8, 0, t0, [], []⟩, none, 0, none, 0⟩) rfl (fun w hw => hw.2.2.2.2.2.2.2.1) rfl (fun j _ => by rw [Nat.zero_add]) ?_
   refine wXR ?_
   refine RwN.known (cellC ⟨⟨8, 0, t0, [], []⟩, none, 0, none, 0⟩) rfl fun cb => ?_
   refine wXR ?_
   have hF := fun (w : World) (h : SlAt (some ⟨cb, 0, none⟩) 5 (cellC ⟨⟨8, 0, t0, [], []⟩, none, 0, none, 0⟩) w) => (show SlAt (some ⟨cb, 0, none⟩) 5 (cellC ⟨⟨8, 0, t0, [], []⟩, none, 0, none, 0⟩) w ∧ CellF ⟨⟨8, 0, t0, [], []⟩, none, 0, none, 0⟩ w from ⟨h, slAt_nil w, slAt_nil w⟩)
   have hck := check1 ⟨⟨8, 0, t0, [], []⟩, none, 0, none, 0⟩ cb ⟨fun _ => rfl, fun _ => rfl, Nat.zero_le _, Nat.zero_le _, (fun s hs => by cases hs), by show t0.length ≤ _; omega, Nat.le_refl _, Nat.le_refl _⟩ ⟨Nat.zero_le _, Nat.zero_le _⟩ (Go.Scan.icB t0) (valid_class t0).symm
   cases hic : Go.Scan.icB t0 with
   | true =>
    rw [hic] at hck h3
    rw [if_neg (fun h => by cases h.2)] at h3
    subst h3
    refine call1 (hck _ (fun w hw => hF w hw.2.2.2.2.2.2.2.2.1)) ?_
    refine wXR ?_
    exact ⟨(), trivial, by (repeat' (first | exact trivial | refine And.intro (by with_reducible rfl) ?_ | (with_reducible exact wkC_refl _) | (with_reducible exact wkCs_refl _) | refine And.intro ?_ ?_)), wHH⟩
   | false =>
    rw [hic] at hck h3
    rw [if_pos ⟨he, rfl⟩] at h3
    subst h3
    refine call1 (hck _ (fun w hw => hF w hw.2.2.2.2.2.2.2.2.1)) ?_
    refine wXR ?_
    refine callG (fail_m rb s2 p2 4) [0, 1, 2, 3, 4] rfl ⟨rfl, rfl, rfl, rfl, rfl, trivial⟩ rfl fun _ _ => ?_
    refine wXR ?_
    exact ⟨(), trivial, by (repeat' (first | exact trivial | refine And.intro (by with_reducible rfl) ?_ | (with_reducible exact wkC_refl _) | (with_reducible exact wkCs_refl _) | refine And.intro ?_ ?_)), wHH⟩
  ·rw [show (s2.e == 0) = false by simpa using he]
   rw [if_neg (fun h => he h.1)] at h3
   subst h3
   refine wXR ?_
   exact ⟨(), trivial, by (repeat' (first | exact trivial | refine And.intro (by with_reducible rfl) ?_ | (with_reducible exact wkC_refl _) | (with_reducible exact wkCs_refl _) | refine And.intro ?_ ?_)), wHH⟩
 rintro ⟨⟩ -
 refine SeqN.plain ?_
 refine wXR ?_
 refine callG (number_m rb s3 p2 maxN (by decide)) [0, 1, 2, 3, 4] rfl ⟨rfl, rfl, rfl, rfl, rfl, trivial⟩ rfl fun _ _ => ?_
 have bn4 := bn.le (num_le maxN s3)
 have ok4 := ok3.same (num_keep maxN s3)
 have hm4 := num_most maxN s3
 have hn4 := fuel_keep hnc (num_le maxN s3) (fun h => by rw [num_dead h])
 generalize numM maxN s3 = qn at hR2 bn4 ok4 hm4 hn4 ⊢
 obtain ⟨m, s4⟩ := qn
 simp only at hR2 bn4 ok4 hm4 hn4
 have hm5 : m ≤ 1000000000000000 := hm4
 refine wXR ?_
 refine SeqN.plain ?_
 refine SeqN.plain ?_
 refine wXR ?_
 refine LoopN.intro (Nat × List (List UInt8) × List Int × PS × ObP) (fun ⟨i, ns, l, st, q⟩ => attrsM (cellM n) (m - i) ns l st = R2 ∧ i ≤ m ∧ RdOk st q.p ∧ Bd st ∧ (st.s.length < n ∨ st.e ≠ 0) ∧ l.length + st.s.length + liv st ≤ 30001 ∧ ns.length = l.length ∧ (q.na = none → ns = []) ∧ (q.ia = none → l = []) ∧ ns.length ≤ q.nc ∧ l.length ≤ q.ic ∧ ∀ s ∈ ns, s.length ≤ 30000)
  (fun ⟨i, _, _, _, _⟩ => mkS Tryz.f107.ntmps 0 [(0, .c (.v (.pointer (some ⟨rb, 0, none⟩)))), (2, .c (.lp 7 0)), (3, .c (.v (.pointer (some ⟨kb, 0, none⟩)))), (4, .c (.v (.int .i64 (m : Int)))), (5, .c (.v (.int .i64 (i : Int))))])
  (fun ⟨_, ns, l, st, ⟨p, na, nc, ia, ic⟩⟩ => rdE rb st p ++ [ownS ns na nc, ownI l ia ic, .blk 57 [.v (.int .i64 0), .v (.int .i64 0), .v (.string ⟨#[]⟩), .v (.slice none 0 0), .v (.slice none 0 0)], .app 57 5 (cellC ⟨⟨8, 0, t0, ns, l⟩, na, nc, ia, ic⟩) (some ⟨kb, 0, none⟩) 1 1]) (fun ⟨_, _, _, st, _⟩ => if st.e = 0 then st.s.length + 1 else 0) [] rfl
  (fun _ => rfl) (fun _ => rfl) (fun _ _ => okHB_eq rfl) ⟨(0, [], [], s4, ⟨p2, none, 0, none, 0⟩), ⟨hR2, Nat.zero_le _, ok4, bn4, hn4, ?_, rfl, fun _ => rfl, fun _ => rfl, Nat.le_refl _, Nat.le_refl _, fun s hs => by cases hs⟩, ?_, ?_⟩ ?_
 ·have := bn4.pot
  unfold liv
  show 0 + s4.s.length + _ ≤ _
  split <;> omega
 ·exact wKK
 ·exact ⟨wkE_refl _, wkE_refl _, wkE_refl _, wkE_refl _, wkE_refl _, wkE_refl _, wkE_refl _, wkE_refl _, wkE_refl _, wHH⟩
 rintro ⟨i, ns, l, st5, ⟨p5, na, nc, ia, ic⟩⟩ ⟨h1, h2, h3, h4, h5, h6, h7, h8, h9, h10, h11, h12⟩
 simp only at h8 h9 h10 h11 h3
 refine SeqN.plain ?_
 refine SeqN.plain ?_
 refine wXR ?_
 by_cases hi : i < m
 ·rw [show decide ((i : Int) < (m : Int)) = true by simpa using hi]
  obtain ⟨k, hk⟩ : ∃ k, m - i = k + 1 := ⟨m - i - 1, by omega⟩
  rw [hk, hA] at h1
  refine wXR ?_
  refine LdN.one (a := some ⟨rb, 0, none⟩) (q := 4) (.int .i64 st5.e) rfl (fun w hw => hw.1) rfl ?_
  refine wXR ?_
  by_cases he5 : st5.e = 0
  ·rw [show (st5.e == 0) = true by rw [he5]; rfl]
   rw [if_pos he5] at h1
   refine wXR ?_
   refine SeqN.plain ?_
   refine SeqN.plain ?_
   refine wXR ?_
   refine callG (next_m rb st5 p5) [0, 1, 2, 3, 4] rfl ⟨rfl, rfl, rfl, rfl, rfl, trivial⟩ rfl fun _ _ => ?_
   have b5 := h4.le (next_le st5)
   have o5 := h3.same (next_keep st5)
   have l5 := name_le ns st5
   have d5 := fuel_keep h5 l5 name_dead
   have hnm : nameM ns st5 = ((symM (nextM st5).1 (nextM st5).2).1, if (symM (nextM st5).1 (nextM st5).2).2.e = 0 ∧ ((symM (nextM st5).1 (nextM st5).2).1 ∈ ns ∨ Go.Scan.iiB (symM (nextM st5).1 (nextM st5).2).1 = false) then failM (symM (nextM st5).1 (nextM st5).2).2 4 else (symM (nextM st5).1 (nextM st5).2).2) := rfl
   have hsy5 := symbol_rd rb (nextM st5).1 (nextM st5).2 p5 o5 (by have := b5.pot; omega)
   have os5 := fun i hi => o5.sym (by have := b5.pot; omega) (nextM st5).1 (i := i) hi
   have tl5 := symM_len (nextM st5).1 (nextM st5).2 (by have := b5.pot; omega) o5.sw
   generalize nameM ns st5 = qm at h1 hnm l5 d5
   generalize nextM st5 = qx at hnm hsy5 os5 tl5 ⊢
   obtain ⟨x5, s51⟩ := qx
   simp only at hnm hsy5 os5 tl5
   refine wXR ?_
   refine callG hsy5 [0, 1, 2, 3, 4] rfl ⟨rfl, rfl, rfl, rfl, rfl, trivial⟩ rfl fun i6 hi6 => ?_
   have ok6 := os5 i6 hi6
   generalize symM x5 s51 = qs at hnm ok6 tl5 ⊢
   obtain ⟨t6, s6⟩ := qs
   simp only at hnm ok6 tl5
   obtain ⟨p6, hp6⟩ : ∃ p6 : RdP, p6 = { p5 with sa := i6.1, sc := i6.2 } := ⟨_, rfl⟩
   rw [← hp6] at ok6 ⊢
   obtain ⟨t60, s8⟩ := qm
   simp only at h1 l5 d5
   obtain ⟨rfl, h8s⟩ : t60 = t6 ∧ s8 = if s6.e = 0 ∧ (t6 ∈ ns ∨ Go.Scan.iiB t6 = false) then failM s6 4 else s6 := ⟨congrArg Prod.fst hnm, congrArg Prod.snd hnm⟩
   clear hnm
   have ok7 : RdOk s8 p6 := by
    rw [h8s]
    split
    ·exact ok6.same (fail_ss s6 4)
    ·exact ok6
   have b7 := h4.le l5
   refine wXR ?_
   refine SeqN.plain ?_
   refine wXR ?_
   refine RwN.known [.string (bs t60)] rfl fun nb => ?_
   refine wXR ?_
   refine RwN.known [.int .i64 0] rfl fun zb => ?_
   refine wXR ?_
   refine RwN.known (cellC ⟨⟨8, 0, [65], [t60], [0]⟩, some ⟨nb, 0, none⟩, 1, some ⟨zb, 0, none⟩, 1⟩) rfl fun ob => ?_
   refine wXR ?_
   refine SeqN.join Unit (fun _ => True) (fun _ => mkS Tryz.f107.ntmps 0 [(0, .c (.v (.pointer (some ⟨rb, 0, none⟩)))), (2, .c (.lp 7 0)), (3, .c (.v (.pointer (some ⟨kb, 0, none⟩)))), (4, .c (.v (.int .i64 (m : Int)))), (5, .c (.v (.int .i64 (i : Int)))), (6, .c (.v (.string (bs t60))))])
    (fun _ => rdE rb s8 p6 ++ [ownS ns na nc, ownI l ia ic, .blk 57 [.v (.int .i64 0), .v (.int .i64 0), .v (.string ⟨#[]⟩), .v (.slice none 0 0), .v (.slice none 0 0)], .app 57 5 (cellC ⟨⟨8, 0, t0, ns, l⟩, na, nc, ia, ic⟩) (some ⟨kb, 0, none⟩) 1 1, .dead, .dead, .dead]) (fun _ _ => Nat.le_of_ble_eq_true rfl) (fun _ _ => rfl) (fun _ _ => okHB_eq rfl) ?_ ?_
   ·refine SeqN.plain ?_
    refine wXR ?_
    refine LdN.one (a := some ⟨rb, 0, none⟩) (q := 4) (.int .i64 s6.e) rfl (fun w hw => hw.1) rfl ?_
    refine wXR ?_
    have hqo : CellOk ⟨⟨8, 0, [65], [t60], [0]⟩, some ⟨nb, 0, none⟩, 1, some ⟨zb, 0, none⟩, 1⟩ := ⟨(fun h => by cases h), (fun h => by cases h), by show 1 ≤ _; omega, by show 1 ≤ _; omega, fun s hs => by obtain rfl := List.mem_singleton.1 hs; omega, by show 1 ≤ _; omega, Nat.le_refl _, Nat.le_refl _⟩
    have hck := check1 ⟨⟨8, 0, [65], [t60], [0]⟩, some ⟨nb, 0, none⟩, 1, some ⟨zb, 0, none⟩, 1⟩ ob hqo ⟨by show 1 ≤ _; omega, by show 1 ≤ _; omega⟩ (Go.Scan.iiB t60) (valid_name t60).symm
    have hll : l.length ≤ 30001 := by omega
    by_cases he6 : s6.e = 0
    ·rw [show (s6.e == 0) = true by rw [he6]; rfl]
     refine wXR ?_
     refine LdN.one (a := some ⟨kb, 0, none⟩) (q := 3) (.slice na ns.length nc) rfl (fun w hw => hw.2.2.2.2.2.2.2.1) rfl ?_
     refine wXR ?_
     refine call1 (Contains_m na ns nc t60 h8 (by omega) _ (fun w hw => hw.2.2.2.2.2.1)) ?_
     by_cases hmem : t60 ∈ ns
     ·rw [show decide (t60 ∈ ns) = true by simpa using hmem]
      rw [if_pos ⟨he6, .inl hmem⟩] at h8s
      subst h8s
      refine wXR ?_
      refine callG (fail_m rb s6 p6 4) [0, 1, 2, 3, 4] rfl ⟨rfl, rfl, rfl, rfl, rfl, trivial⟩ rfl fun _ _ => ?_
      refine wXR ?_
      exact ⟨(), trivial, by (repeat' (first | exact trivial | refine And.intro (by with_reducible rfl) ?_ | (with_reducible exact wkC_refl _) | (with_reducible exact wkCs_refl _) | refine And.intro ?_ ?_)), wHH⟩
     ·rw [show decide (t60 ∈ ns) = false by simpa using hmem]
      refine wXR ?_
      cases hii : Go.Scan.iiB t60 with
      | true =>
       rw [hii] at hck h8s
       rw [if_neg (fun h => h.2.elim hmem (fun h => by cases h))] at h8s
       subst h8s
       refine call1 (hck _ (fun w hw => ⟨hw.2.2.2.2.2.2.2.2.2.2.1, hw.2.2.2.2.2.2.2.2.1, hw.2.2.2.2.2.2.2.2.2.1⟩)) ?_
       refine wXR ?_
       exact ⟨(), trivial, by (repeat' (first | exact trivial | refine And.intro (by with_reducible rfl) ?_ | (with_reducible exact wkC_refl _) | (with_reducible exact wkCs_refl _) | refine And.intro ?_ ?_)), wHH⟩
      | false =>
       rw [hii] at hck h8s
       rw [if_pos ⟨he6, .inr rfl⟩] at h8s
       subst h8s
       refine call1 (hck _ (fun w hw => ⟨hw.2.2.2.2.2.2.2.2.2.2.1, hw.2.2.2.2.2.2.2.2.1, hw.2.2.2.2.2.2.2.2.2.1⟩)) ?_
       refine wXR ?_
       refine callG (fail_m rb s6 p6 4) [0, 1, 2, 3, 4] rfl ⟨rfl, rfl, rfl, rfl, rfl, trivial⟩ rfl fun _ _ => ?_
       refine wXR ?_
       exact ⟨(), trivial, by (repeat' (first | exact trivial | refine And.intro (by with_reducible rfl) ?_ | (with_reducible exact wkC_refl _) | (with_reducible exact wkCs_refl _) | refine And.intro ?_ ?_)), wHH⟩
    ·rw [show (s6.e == 0) = false by simpa using he6]
     rw [if_neg (fun h => he6 h.1)] at h8s
     subst h8s
     refine wXR ?_
     exact ⟨(), trivial, by (repeat' (first | exact trivial | refine And.intro (by with_reducible rfl) ?_ | (with_reducible exact wkC_refl _) | (with_reducible exact wkCs_refl _) | refine And.intro ?_ ?_)), wHH⟩
   rintro ⟨⟩ -
   have hll : l.length ≤ 30001 := by omega
   refine SeqN.plain ?_
   refine wX ?_
   refine LdN.one (a := some ⟨kb, 0, none⟩) (q := 3) (.slice na ns.length nc) rfl (fun w hw => hw.2.2.2.2.2.2.2.1) rfl ?_
   refine wX ?_
   refine Nd.mk ⟨Nat.le_refl 1, rfl, rfl⟩ ?_
   (conv => whnf)
   refine AppN.grow 5 (strC ns) [.string (bs t60)] rfl rfl ⟨Nat.le_refl 1, ⟨by show (ns.length + 1) * 16 ≤ _; omega, by omega⟩, by decide⟩ fun nb' nc' g1 g2 => ?_
   refine wX ?_
   refine EffW.appTo (i := 8) (q := 3) (ys := [_]) (cellC ⟨⟨8, 0, t0, ns ++ [t60], l⟩, some ⟨nb', 0, none⟩, nc', ia, ic⟩) 5 rfl rfl rfl rfl rfl rfl rfl (Nat.le_of_ble_eq_true rfl) (by simp [cellC]) rfl ?_
   refine wXD ?_
   refine DrawN.planC (fun w => SlAt (some ⟨kb, 0, none⟩) 5 (cellC ⟨⟨8, 0, t0, ns ++ [t60], l⟩, some ⟨nb', 0, none⟩, nc', ia, ic⟩) w) [0, 2] [(1, 1), (3, 0), (4, 0), (5, 0), (6, 2)] [(7, 0)] (by decide +kernel) (fun w hw => hw.2.2.2.2.2.2.2.1) ?_
   refine wXO ?_
   refine ReadC.one (a := some ⟨kb, 0, none⟩) (q := 4) (.slice ia l.length ic) rfl rfl rfl (fun w hw => hw) rfl ?_
   refine wXO ?_
   refine callG (hc rb s8 p6 ok7 b7 d5) [0, 1, 2, 3, 4] rfl ⟨rfl, rfl, rfl, rfl, rfl, trivial⟩ rfl fun p7 hp7 => ?_
   have hle := htk.le s8
   have hlt := htk.lt s8
   have hdd := cell_dead_e (n := n) (st := s8)
   generalize cellM n s8 = r at h1 hp7 hle hlt hdd ⊢
   obtain ⟨z, s7⟩ := r
   simp only at h1 hp7 hle hlt hdd
   refine wXO ?_
   refine Nd.mk ⟨Nat.le_refl 1, rfl, rfl⟩ ?_
   (conv => whnf)
   refine AppN.grow 6 (iC l) [.int .i64 z] rfl rfl ⟨Nat.le_refl 1, ⟨by show (l.length + 1) * 8 ≤ _; omega, by omega⟩, by decide⟩ fun ib' ic' g3 g4 => ?_
   refine wXO ?_
   have e1 : iC l ++ [.int .i64 z] = iC (l ++ [z]) := by simp [iC]
   have e2 : l.length + 1 = (l ++ [z]).length := by simp
   have e3 : strC ns ++ [.string (bs t60)] = strC (ns ++ [t60]) := by simp [strC]
   have e4 : ns.length + 1 = (ns ++ [t60]).length := by simp
   refine EffW.appTo (i := 8) (q := 4) (ys := [_]) (cellC ⟨⟨8, 0, t0, ns ++ [t60], l ++ [z]⟩, some ⟨nb', 0, none⟩, nc', some ⟨ib', 0, none⟩, ic'⟩) 5 rfl rfl rfl rfl rfl rfl rfl (Nat.le_of_ble_eq_true rfl) (by simp [cellC]) rfl ?_
   refine wXO ?_
   refine wXR ?_
   rw [e1, e2, e3, e4]
   refine ⟨(i + 1, ns ++ [t60], l ++ [z], s7, ⟨p7, some ⟨nb', 0, none⟩, nc', some ⟨ib', 0, none⟩, ic'⟩), ⟨by rw [← h1, show m - (i + 1) = k by omega], by show i + 1 ≤ m; omega, hp7, b7.le hle, ?_, ?_, by simp; omega, (fun h => by cases h), (fun h => by cases h), by rw [← e4]; exact g1, by rw [← e2]; exact g3, ?_⟩, ?_, ?_, ?_⟩
   ·rcases d5 with h | h
    ·exact .inl (Nat.lt_of_le_of_lt hle.s h)
    ·exact .inr (hdd h)
   ·rw [List.length_append, List.length_singleton]
    have hs := hle.s
    have hs5 := l5.s
    unfold liv at h6 ⊢
    rw [if_pos he5] at h6
    split
    ·rename_i h9
     have := hlt h9
     omega
    ·omega
   ·intro y hy
    rcases List.mem_append.1 hy with h | h
    ·exact h12 y h
    ·rw [List.mem_singleton.1 h]; exact tl5
   ·show (if s7.e = 0 then s7.s.length + 1 else 0) < if st5.e = 0 then st5.s.length + 1 else 0
    rw [if_pos he5]
    have hs5 := l5.s
    split
    ·rename_i h9
     have := hlt h9
     omega
    ·omega
   ·exact wKK
   ·exact ⟨wkE_refl _, wkE_refl _, wkE_refl _, wkE_refl _, wkE_refl _, wkE_refl _, wkE_refl _, wkE_refl _, wkE_refl _, wHH⟩
  ·rw [show (st5.e == 0) = false by simpa using he5]
   rw [if_neg he5] at h1
   subst h1
   subst hR
   refine wXR ?_
   refine SeqN.plain ?_
   refine wXR ?_
   refine LdN.agg (a := some ⟨kb, 0, none⟩) (q := 0) (cellC ⟨⟨8, 0, t0, ns, l⟩, na, nc, ia, ic⟩) rfl (fun w hw => hw.2.2.2.2.2.2.2.1) rfl (fun j _ => by rw [Nat.zero_add]) ?_
   refine wXR ?_
   exact ⟨⟨p5, na, nc, ia, ic⟩, ⟨h3, ⟨h8, h9, by show ns.length ≤ _; omega, by show l.length ≤ _; omega, fun s hs => Nat.le_trans (h12 s hs) (by omega), by show t0.length ≤ _; omega, h10, h11⟩⟩, rfl, wkE_refl _, wkE_refl _, wkE_refl _, wkE_refl _, wkE_refl _, wkE_refl _, wkE_refl _, wkH_nil _⟩
 ·rw [show decide ((i : Int) < (m : Int)) = false by simpa using hi]
  rw [show m - i = 0 by omega] at h1
  have h1 : ((ns, l), st5) = R2 := h1
  subst h1
  subst hR
  refine wXR ?_
  refine SeqN.plain ?_
  refine wXR ?_
  refine LdN.agg (a := some ⟨kb, 0, none⟩) (q := 0) (cellC ⟨⟨8, 0, t0, ns, l⟩, na, nc, ia, ic⟩) rfl (fun w hw => hw.2.2.2.2.2.2.2.1) rfl (fun j _ => by rw [Nat.zero_add]) ?_
  refine wXR ?_
  exact ⟨⟨p5, na, nc, ia, ic⟩, ⟨h3, ⟨h8, h9, by show ns.length ≤ _; omega, by show l.length ≤ _; omega, fun s hs => Nat.le_trans (h12 s hs) (by omega), by show t0.length ≤ _; omega, h10, h11⟩⟩, rfl, wkE_refl _, wkE_refl _, wkE_refl _, wkE_refl _, wkE_refl _, wkE_refl _, wkE_refl _, wkH_nil _⟩
end Go.Proofs.YtgogonnnojcioaaGreatDoor
